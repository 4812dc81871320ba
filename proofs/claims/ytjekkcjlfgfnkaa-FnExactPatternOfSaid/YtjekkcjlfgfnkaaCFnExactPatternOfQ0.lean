/- The plain laws on what the functions answer; the last one: the law FnExactPatternOf answers true for all arguments. Proved in this text: its theorems. Conditions: as each theorem states them. -/
import Derived.Test.YtjekkcjlfgfnkaaCFnExactPatternOfP
import Derived.Test.YtjekkcjlfgfnkaaCFnExactPatternOfF0
import Derived.Deep.Slices
import Derived.Deep.Fields
import Derived.ChangeSame
import Derived.ChangeSlices
import Derived.Lib.SmallJoins
import Derived.ProofKit
import Derived.OpenShut
import Derived.ShutString
import Derived.ChangeOld
import Derived.SizedLaws
namespace Go.Proofs.Ytjekkcjlfgfnkaa.P
open Go.RowKit Go.Proofs.YtjekkcjlfgfnkaaW.PrintWords Go.Proofs.YtjekkcjlfgfnkaaW.PrintLast
set_option linter.unusedVariables false
set_option linter.unusedSimpArgs false
section
open Go.ChangeShapes Go.WideShapes Go.Deep Go.ChangeAt
variable {H : Type} {enc : TypeId × Value → H} {P : Program} {w : World} {base : Nat} {spare : Nat → Bool} {held : Bool}
theorem open_pairs {t e : TypeId} {f0 f1 : Field} {fuel : Nat} {v : Value} {x : DataW H × List MemPlace} (ht : P.underlying t = some (.slice e)) (he : P.underlying e = some (.struct #[f0, f1]))
    (hone : oneCellFields P #[f0, f1] = true) (hC : P.cellsOf e = 2) (h0 : P.underlying f0.type = some (.int .i64)) (h1 : P.underlying f1.type = some (.int .i64)) (h : DataW.trod enc P w base spare held fuel t [v] = some x) :
    ∃ (a : Option Addr) (len cap : Nat) (l : List (Int × Int)), v = .slice a len cap ∧ len = l.length ∧ len ≤ cap ∧ l.length ≤ 9223372036854775807 ∧ (∀ p ∈ l, (Lit.int .i64 p.1).wf = true ∧ (Lit.int .i64 p.2).wf = true) ∧
      (0 < l.length → ∃ ad, a = some ad ∧ ∀ j p, l[j]? = some p → w.cell? (ad.add (j * 2)) = some (.int .i64 p.1) ∧ w.cell? (ad.add (j * 2 + 1)) = some (.int .i64 p.2)) := by
  rcases open_slice ht h with ⟨hcs, -⟩ | ⟨a, len, cap, m, n, D, Pl, hcs, hb, hl, hm, hmm, hx, hi⟩
  · simp at hcs
    exact ⟨none, 0, 0, [], hcs, rfl, Nat.le_refl _, by simp, by simp, by simp⟩
  · simp at hcs
    have hlm : len ≤ m := by rw [hmm]; split <;> omega
    have hget : ∀ i, i < len → ∃ p : Int × Int, w.cell? (a.add (i * 2)) = some (.int .i64 p.1) ∧ w.cell? (a.add (i * 2 + 1)) = some (.int .i64 p.2) ∧ (Lit.int .i64 p.1).wf = true ∧ (Lit.int .i64 p.2).wf = true := by
      intro i him
      obtain ⟨cs', hc, ht'⟩ := hi i (by omega)
      rw [hC] at hc
      obtain ⟨y0, y1, n', hy, -, t0, t1⟩ := trod_struct2 he ht'
      obtain ⟨_, hcl, hat⟩ := World.cells?_some hc
      obtain ⟨o0, k0⟩ := hone_of hone 0 f0 rfl
      obtain ⟨o1, k1⟩ := hone_of hone 1 f1 rfl
      have c0 := hat (i := 0) (by omega)
      have c1 := hat (i := 1) (by omega)
      match cs', hcl with
      | [u0, u1], _ =>
        simp only [o0, k0, List.drop_zero, List.take_succ_cons, List.take_zero] at t0
        simp only [o1, k1, List.drop_succ_cons, List.drop_zero, List.take_succ_cons, List.take_zero] at t1
        obtain ⟨z0, e0, -, w0⟩ := DataW.trod_int h0 t0
        obtain ⟨z1, e1, -, w1⟩ := DataW.trod_int h1 t1
        simp at e0 e1
        subst e0 e1
        refine ⟨(z0, z1), ?_, ?_, w0, w1⟩
        · simpa [Go.Deep.add_add] using c0
        · simpa [Go.Deep.add_add] using c1
    let g : Nat → Int × Int := fun i => if hi : i < len then (hget i hi).choose else (0, 0)
    have hg : ∀ i, i < len → w.cell? (a.add (i * 2)) = some (.int .i64 (g i).1) ∧ w.cell? (a.add (i * 2 + 1)) = some (.int .i64 (g i).2) ∧ (Lit.int .i64 (g i).1).wf = true ∧ (Lit.int .i64 (g i).2).wf = true := by
      intro i hi
      have := (hget i hi).choose_spec
      simpa [g, hi] using this
    refine ⟨some a, len, cap, (List.range len).map g, hcs, by simp, hl, by simp; unfold maxLen at hm; omega, ?_, ?_⟩
    · intro p hp
      simp at hp
      obtain ⟨i, hi, rfl⟩ := hp
      exact ⟨(hg i hi).2.2.1, (hg i hi).2.2.2⟩
    · intro _
      refine ⟨a, rfl, fun j p hj => ?_⟩
      simp [List.getElem?_map] at hj
      obtain ⟨i, hij, rfl⟩ := hj
      have hjl : j < len := by
        have := (List.getElem?_eq_some_iff.1 hij).1
        simpa using this
      have : i = j := by
        have := List.getElem?_range hjl
        rw [this] at hij
        simpa using hij.symm
      subst this
      exact ⟨(hg i hjl).1, (hg i hjl).2.1⟩
theorem open_nums {t e : TypeId} {k : IntKind} {fuel : Nat} {v : Value} {x : DataW H × List MemPlace} (ht : P.underlying t = some (.slice e)) (he : P.underlying e = some (.int k)) (hc : P.cellsOf e = 1)
    (h : DataW.trod enc P w base spare held fuel t [v] = some x) :
    ∃ (a : Option Addr) (len cap : Nat) (l : List Int), v = .slice a len cap ∧ len = l.length ∧ len ≤ cap ∧ l.length ≤ 9223372036854775807 ∧ (∀ n ∈ l, (Lit.int k n).wf = true) ∧ (Kd.int k).C w a l.length l := by
  rcases open_ints ht he hc h with ⟨hcs, -⟩ | ⟨a, len, cap, zs, hcs, hb, hl, hm, hz, hx, hcell, hwf⟩
  · simp at hcs
    exact ⟨none, 0, 0, [], hcs, rfl, Nat.le_refl _, by simp, by simp, Kd.C_nil _ _⟩
  · simp at hcs
    have hlz : len ≤ zs.length := by rw [hz]; split <;> omega
    have hlen : (zs.take len).length = len := by simp; omega
    have hmax : (zs.take len).length ≤ 9223372036854775807 := by rw [hlen]; unfold maxLen at hm; omega
    refine ⟨some a, len, cap, zs.take len, hcs, hlen.symm, hl, hmax, fun n hn => hwf n (List.mem_of_mem_take hn), ?_⟩
    refine Kd.C_of_reads (d := (0 : Int)) (h1 := fun _ => rfl) ⟨rfl, hmax, fun hn => ⟨a, rfl, fun i hi => ?_⟩⟩
    rw [hlen] at hi
    rw [hcell i (by omega)]
    congr 2
    simp [List.getD, hi]
end
end Go.Proofs.Ytjekkcjlfgfnkaa.P
namespace Go.Proofs.Ytjekkcjlfgfnkaa.P
open Go.RowKit Go.Proofs.YtjekkcjlfgfnkaaW.PrintWords Go.Proofs.YtjekkcjlfgfnkaaW.PrintLast
set_option linter.unusedVariables false
set_option linter.unusedSimpArgs false
theorem Ev.get {α : Type} {g : Nat → Option α} {r : α} (h : Ev g r) : ∃ K, ∀ k, K ≤ k → g k = some r := h
theorem Ev.mk' {α : Type} {g : Nat → Option α} {r : α} (K : Nat) (h : ∀ k, K ≤ k → g (k + 1) = some r) : Ev g r :=
  ⟨K + 1, fun k hk => by obtain ⟨m, rfl⟩ : ∃ m, k = m + 1 := ⟨k - 1, by omega⟩; exact h m (by omega)⟩
theorem Ev.pos {α : Type} {c : Prop} [Decidable c] {g f : Nat → Option α} {r : α} (hc : c) (h : Ev g r) : Ev (fun k => if c then g k else f k) r := by
  obtain ⟨K, h⟩ := h
  exact ⟨K, fun k hk => by show (if c then g k else f k) = some r; rw [if_pos hc]; exact h k hk⟩
theorem Ev.neg {α : Type} {c : Prop} [Decidable c] {g f : Nat → Option α} {r : α} (hc : ¬ c) (h : Ev f r) : Ev (fun k => if c then g k else f k) r := by
  obtain ⟨K, h⟩ := h
  exact ⟨K, fun k hk => by show (if c then g k else f k) = some r; rw [if_neg hc]; exact h k hk⟩
theorem Ev.let_ {α β : Type} {f : Nat → α → Option β} {a : α} {r : β} (k : Ev (fun n => f n a) r) : Ev (fun n => (some a).bind (f n)) r := k
theorem Ev.some_ {α : Type} {a r : α} (h : a = r) : Ev (fun _ => some a) r := ⟨0, fun _ _ => by rw [h]⟩
theorem Ev.eq_ {α : Type} {g : Nat → Option α} {a r : α} (h : Ev g a) (e : a = r) : Ev g r := e ▸ h
theorem wrap_id {n : Int} (h1 : -9223372036854775808 ≤ n) (h2 : n ≤ 9223372036854775807) : wrap64 n = n := by unfold wrap64; omega
theorem wf_int {n : Int} (h : (Lit.int .i64 n).wf = true) : -9223372036854775808 ≤ n ∧ n ≤ 9223372036854775807 := by
  unfold Lit.wf at h
  simp only [Bool.and_eq_true, decide_eq_true_eq] at h
  exact h
theorem obind {α β : Type} (a : α) (f : α → Option β) : (some a).bind f = f a := id rfl
end Go.Proofs.Ytjekkcjlfgfnkaa.P
namespace Go.Proofs.Ytjekkcjlfgfnkaa.P
open Go.RowKit Go.Proofs.YtjekkcjlfgfnkaaW.PrintWords Go.Proofs.YtjekkcjlfgfnkaaW.PrintLast
set_option linter.unusedVariables false
set_option linter.unusedSimpArgs false
def left (l : List SRule) (n : Int) : Bool := !(l.any (crosses n))
def goodRules (l : List SRule) : Bool := decide (l.length ≤ 12) && l.all okRule
theorem okRule_iff (x : SRule) : okRule x = true ↔ 2 ≤ x.f0 ∧ x.f0 ≤ 60 ∧ 0 ≤ x.f1 ∧ x.f1 < x.f0 := by
  unfold okRule; simp
theorem l1In_ok (a b c : Int) : spec_l1In.f a b c = some (decide (b ≤ a) && decide (a ≤ c)) := by
  unfold spec_l1In.f
  by_cases h : b ≤ a <;> simp [h]
theorem siRule_ok (x : SRule) : spec_siRule.f x.f0 x.f1 = some (okRule x) := by
  unfold spec_siRule.f okRule
  simp only [l1In_ok, Option.bind_some]
  by_cases h1 : 2 ≤ x.f0
  · by_cases h2 : x.f0 ≤ 60
    · have : wrap64 (x.f0 - 1) = x.f0 - 1 := wrap_id (by omega) (by omega)
      rw [this]
      by_cases h3 : 0 ≤ x.f1
      · simp [h1, h2, h3]; omega
      · simp [h1, h2, h3]
    · simp [h1, h2]
  · simp [h1]
theorem rd_drop (l : List SRule) (k : Nat) (h : k < l.length) : l.drop k = rd_Rule l k :: l.drop (k + 1) := drop_rd l k h
theorem siGood_l0 (l : List SRule) (hm : l.length ≤ 12) : ∀ d i : Nat, i + d = l.length → Ev (fun k => spec_siGood.l0 k l l.length i) ((l.drop i).all okRule)
  | 0, i, h => Ev.mk' 0 fun k _ => by
    simp only [spec_siGood.l0]
    rw [if_neg (by omega), List.drop_eq_nil_of_le (by omega)]; rfl
  | d + 1, i, h => by
    obtain ⟨K, ih⟩ := siGood_l0 l hm d (i + 1) (by omega)
    dsimp only at ih
    refine Ev.mk' K fun k hk => ?_
    simp only [spec_siGood.l0]
    rw [if_pos (by omega), if_pos (by omega), if_pos (by omega), siRule_ok, rd_drop l i (by omega), List.all_cons, Option.bind_some]
    rw [show wrap64 ((i : Int) + 1) = ((i + 1 : Nat) : Int) from wrap_id (by omega) (by omega), ih k hk]
    cases okRule (rd_Rule l i) <;> simp
theorem siGood_ev (l : List SRule) : Ev (fun k => spec_siGood.f k l) (goodRules l) := by
  unfold goodRules
  by_cases h : l.length ≤ 12
  · obtain ⟨K, ih⟩ := siGood_l0 l h l.length 0 (by omega)
    refine ⟨K, fun k hk => ?_⟩
    simp only [spec_siGood.f]
    rw [if_neg (by omega)]
    simpa [h] using ih k hk
  · refine ⟨0, fun k _ => ?_⟩
    simp only [spec_siGood.f]
    rw [if_pos (by omega)]
    simp [h]
theorem areRules_ok (l : List SRule) : impl_areRules.f l = some (goodRules l) := rfl
theorem good_all {l : List SRule} (h : goodRules l = true) : l.length ≤ 12 ∧ l.all okRule = true := by
  unfold goodRules at h
  simpa using h
theorem siRest_ok (n : Int) (x : SRule) (h : okRule x = true) : spec_siRest.f n x.f0 = some (n % x.f0) := by
  have := mod_ok n x.f0 ((okRule_iff x).1 h).1 ((okRule_iff x).1 h).2.1
  exact this
theorem siFirst_l0 (n : Int) (l : List SRule) (hm : l.length ≤ 9223372036854775807) (hl : l.all okRule = true) : ∀ d i : Nat, i + d = l.length → Ev (fun k => spec_siFirst.l0 k n l l.length i) (firstIx (crosses n) (l.drop i) i)
  | 0, i, h => Ev.mk' 0 fun k _ => by
    simp only [spec_siFirst.l0]
    rw [if_neg (by omega), List.drop_eq_nil_of_le (by omega)]; rfl
  | d + 1, i, h => by
    obtain ⟨K, ih⟩ := siFirst_l0 n l hm hl d (i + 1) (by omega)
    dsimp only at ih
    refine Ev.mk' K fun k hk => ?_
    simp only [spec_siFirst.l0]
    rw [if_pos (by omega), if_pos (by omega), if_pos (by omega), siRest_ok n _ (List.all_eq_true.mp hl _ (rd_mem l i (by omega))), rd_drop l i (by omega), Option.bind_some]
    rw [show wrap64 ((i : Int) + 1) = ((i + 1 : Nat) : Int) from wrap_id (by omega) (by omega), ih k hk]
    rw [firstIx]
    by_cases hc : n % (rd_Rule l i).f0 = (rd_Rule l i).f1
    · rw [if_pos hc, if_pos (by simp [crosses, hc])]
    · rw [if_neg hc, if_neg (by simp [crosses, hc])]; rfl
theorem siFirst_ev (n : Int) (l : List SRule) (hm : l.length ≤ 9223372036854775807) (hl : l.all okRule = true) : Ev (fun k => spec_siFirst.f k l n) (firstIx (crosses n) l 0) :=
  siFirst_l0 n l hm hl l.length 0 (by omega)
theorem first_left (n : Int) (l : List SRule) : decide (firstIx (crosses n) l 0 < 0) = left l n := by
  have h := firstIx_any (crosses n) l 0 (by omega)
  unfold left
  rw [← h]
  by_cases hc : 0 ≤ firstIx (crosses n) l 0
  · simp [hc, Int.not_lt.mpr hc]
  · simp [hc, Int.not_le.mp hc]
theorem siLeft_ev (n : Int) (l : List SRule) (hm : l.length ≤ 9223372036854775807) (hl : l.all okRule = true) : Ev (fun k => spec_siLeft.f k l n) (left l n) := by
  obtain ⟨K, h⟩ := siFirst_ev n l hm hl
  refine ⟨K, fun k hk => ?_⟩
  simp only [spec_siLeft.f, h k hk, Option.bind_some, first_left]
theorem isLeft_ok (n : Int) (l : List SRule) (hl : l.all okRule = true) : impl_isLeft.f l n = some (left l n) := by
  simp only [impl_isLeft.f, impl_firstRule.f, if_pos hl, Option.bind_some, first_left]
end Go.Proofs.Ytjekkcjlfgfnkaa.P
namespace Go.Proofs.Ytjekkcjlfgfnkaa.P
open Go.RowKit Go.Proofs.YtjekkcjlfgfnkaaW.PrintWords Go.Proofs.YtjekkcjlfgfnkaaW.PrintLast
set_option linter.unusedVariables false
set_option linter.unusedSimpArgs false
def cvRule (p : SLRule) : SRule := ⟨p.f0, p.f1⟩
theorem rdL_drop (l : List SLRule) (k : Nat) (h : k < l.length) : l.drop k = rd_LRule l k :: l.drop (k + 1) := by
  rw [List.drop_eq_getElem_cons h]
  simp [rd_LRule, List.getD, h]
theorem take_set {α : Type} (l : List α) (i : Nat) (v : α) (h : i < l.length) : (l.set i v).take (i + 1) = l.take i ++ [v] := by
  rw [List.take_succ_eq_append_getElem (by simpa using h)]
  simp only [List.take_set, List.getElem_set_self]
  rw [List.set_eq_of_length_le (by simp; omega)]
theorem toRuleS_l0 (l : List SLRule) (hm : l.length ≤ 17592186044416) : ∀ (d i : Nat) (x : List SRule), i + d = l.length → x.length = l.length → Ev (fun k => laws_toRuleS.l0 k l x i) (x.take i ++ (l.drop i).map cvRule)
  | 0, i, x, h, hx => Ev.mk' 0 fun k _ => by
    simp only [laws_toRuleS.l0]
    rw [if_neg (by omega), List.drop_eq_nil_of_le (by omega), List.take_of_length_le (by omega)]; simp
  | d + 1, i, x, h, hx => by
    obtain ⟨K, ih⟩ := toRuleS_l0 l hm d (i + 1) (x.set i (cvRule (rd_LRule l i))) (by omega) (by simpa using hx)
    dsimp only at ih
    refine Ev.mk' K fun k hk => ?_
    simp only [laws_toRuleS.l0, laws_toRule.f, Option.bind_some]
    rw [if_pos (by omega), if_pos (by omega), if_pos (by omega)]
    rw [show wrap64 ((i : Int) + 1) = ((i + 1 : Nat) : Int) from wrap_id (by omega) (by omega)]
    have := ih k hk
    rw [take_set x i _ (by omega)] at this
    rw [rdL_drop l i (by omega), List.map_cons]
    simpa [cvRule] using this
theorem toRuleS_ev (l : List SLRule) (hm : l.length ≤ 17592186044416) : Ev (fun k => laws_toRuleS.f k l) (l.map cvRule) := by
  obtain ⟨K, ih⟩ := toRuleS_l0 l hm l.length 0 (List.replicate l.length zRule) (by omega) (by simp)
  dsimp only at ih
  refine ⟨K, fun k hk => ?_⟩
  simp only [laws_toRuleS.f]
  rw [if_pos (by omega), if_pos (by simpa using hm)]
  simpa using ih k hk
theorem eqRule_self (x : SRule) : laws_eqRule.f x.f0 x.f1 x.f0 x.f1 = some true := by simp [laws_eqRule.f]
theorem eqRuleS_l0 (l : List SRule) (hm : l.length ≤ 17592186044416) : ∀ (d i : Nat), i + d = l.length → Ev (fun k => laws_eqRuleS.l0 k l l i) true
  | 0, i, h => Ev.mk' 0 fun k _ => by
    simp only [laws_eqRuleS.l0]
    rw [if_neg (by omega)]
  | d + 1, i, h => by
    obtain ⟨K, ih⟩ := eqRuleS_l0 l hm d (i + 1) (by omega)
    dsimp only at ih
    refine Ev.mk' K fun k hk => ?_
    simp only [laws_eqRuleS.l0]
    rw [if_pos (by omega), if_pos (by omega), if_pos (by omega), eqRule_self]
    rw [show wrap64 ((i : Int) + 1) = ((i + 1 : Nat) : Int) from wrap_id (by omega) (by omega)]
    simpa using ih k hk
theorem eqRuleS_ev (l : List SRule) (hm : l.length ≤ 17592186044416) : Ev (fun k => laws_eqRuleS.f k l l) true := by
  obtain ⟨K, ih⟩ := eqRuleS_l0 l hm l.length 0 (by omega)
  refine ⟨K, fun k hk => ?_⟩
  simp only [laws_eqRuleS.f]
  rw [if_pos trivial]
  exact ih k hk
theorem szRuleS_ok (l : List SLRule) (hm : l.length ≤ 9223372036854775807) : laws_szRuleS.f l 1048576 = some (if l.length ≤ 1048576 then 1048576 - (l.length : Int) else -1) := by
  unfold laws_szRuleS.f
  have : wrap64 (1048576 - (l.length : Int)) = 1048576 - (l.length : Int) := wrap_id (by omega) (by omega)
  rw [this]
  by_cases h : l.length ≤ 1048576
  · rw [if_neg (by omega), if_pos h]
  · rw [if_pos (by omega), if_neg h]
end Go.Proofs.Ytjekkcjlfgfnkaa.P
namespace Go.Proofs.Ytjekkcjlfgfnkaa.P
open Go.RowKit Go.Proofs.YtjekkcjlfgfnkaaW.PrintWords Go.Proofs.YtjekkcjlfgfnkaaW.PrintLast
set_option linter.unusedVariables false
set_option linter.unusedSimpArgs false
def patB (l : List SRule) (i : Int) : Nat → ByteArray → ByteArray
  | 0, acc => acc
  | m + 1, acc => patB l (i + 1) m (acc ++ (if left l i = true then (⟨#[111]⟩ : ByteArray) else ⟨#[120]⟩))
def pat (l : List SRule) (n : Int) : ByteArray := patB l 1 n.toNat (⟨#[]⟩ : ByteArray)
theorem sz_o (a : ByteArray) : (a ++ (⟨#[111]⟩ : ByteArray)).size = a.size + 1 := by rw [ByteArray.size_append]; rfl
theorem sz_x (a : ByteArray) : (a ++ (⟨#[120]⟩ : ByteArray)).size = a.size + 1 := by rw [ByteArray.size_append]; rfl
theorem patS_l0 (l : List SRule) (hm : l.length ≤ 12) (hl : l.all okRule = true) (hi : Int) (h2 : hi ≤ 48) : ∀ (m : Nat) (i : Int) (acc : ByteArray), i + m = hi + 1 → 1 ≤ i → acc.size + m ≤ 1000 → Ev (fun k => spec_PatternOf.l0 k l hi acc i) (patB l i m acc, true)
  | 0, i, acc, h, h0, h1 => Ev.mk' 0 fun k _ => by
    simp only [spec_PatternOf.l0]
    rw [if_neg (by omega)]; rfl
  | m + 1, i, acc, h, h0, h1 => by
    obtain ⟨K1, h3⟩ := siLeft_ev i l (by omega) hl
    dsimp only at h3
    simp only [patB]
    by_cases hc : left l i = true
    · obtain ⟨K, ih⟩ := patS_l0 l hm hl hi h2 m (i + 1) (acc ++ (⟨#[111]⟩ : ByteArray)) (by omega) (by omega) (by rw [sz_o]; omega)
      dsimp only at ih
      refine Ev.mk' (K + K1) fun k hk => ?_
      simp only [spec_PatternOf.l0, h3 k (by omega), obind]
      rw [if_pos (by omega), if_pos hc, if_pos (by omega), wrap_id (by omega) (by omega), ih k (by omega), if_pos hc]
    · obtain ⟨K, ih⟩ := patS_l0 l hm hl hi h2 m (i + 1) (acc ++ (⟨#[120]⟩ : ByteArray)) (by omega) (by omega) (by rw [sz_x]; omega)
      dsimp only at ih
      refine Ev.mk' (K + K1) fun k hk => ?_
      simp only [spec_PatternOf.l0, h3 k (by omega), obind]
      rw [if_pos (by omega), if_neg hc, if_pos (by omega), wrap_id (by omega) (by omega), ih k (by omega), if_neg hc]
theorem patI_l0 (l : List SRule) (hl : l.all okRule = true) (hi : Int) (h2 : hi ≤ 48) : ∀ (m : Nat) (i : Int) (acc : ByteArray), i + m = hi + 1 → 1 ≤ i → acc.size + m ≤ 1000 → Ev (fun k => impl_patternOf.l0 k l hi acc i) (patB l i m acc)
  | 0, i, acc, h, h0, h1 => Ev.mk' 0 fun k _ => by
    simp only [impl_patternOf.l0]
    rw [if_neg (by omega)]; rfl
  | m + 1, i, acc, h, h0, h1 => by
    simp only [patB]
    by_cases hc : left l i = true
    · obtain ⟨K, ih⟩ := patI_l0 l hl hi h2 m (i + 1) (acc ++ (⟨#[111]⟩ : ByteArray)) (by omega) (by omega) (by rw [sz_o]; omega)
      dsimp only at ih
      refine Ev.mk' K fun k hk => ?_
      simp only [impl_patternOf.l0, isLeft_ok i l hl, obind]
      rw [if_pos (by omega), if_pos hc, if_pos (by omega), wrap_id (by omega) (by omega), ih k (by omega), if_pos hc]
    · obtain ⟨K, ih⟩ := patI_l0 l hl hi h2 m (i + 1) (acc ++ (⟨#[120]⟩ : ByteArray)) (by omega) (by omega) (by rw [sz_x]; omega)
      dsimp only at ih
      refine Ev.mk' K fun k hk => ?_
      simp only [impl_patternOf.l0, isLeft_ok i l hl, obind]
      rw [if_pos (by omega), if_neg hc, if_pos (by omega), wrap_id (by omega) (by omega), ih k (by omega), if_neg hc]
theorem patternOf_ev (l : List SRule) (hl : l.all okRule = true) (n : Int) (h0 : 1 ≤ n) (h1 : n ≤ 48) : Ev (fun k => impl_patternOf.f k l n) (pat l n) := by
  obtain ⟨K, h⟩ := patI_l0 l hl n h1 n.toNat 1 (⟨#[]⟩ : ByteArray) (by omega) (by omega) (by show (0 : Nat) + _ ≤ _; omega)
  exact ⟨K, fun k hk => h k hk⟩
theorem specPattern_ev (l : List SRule) (hg : goodRules l = true) (n : Int) (h0 : 1 ≤ n) (h1 : n ≤ 48) : Ev (fun k => spec_PatternOf.f k l n) (pat l n, true) := by
  obtain ⟨K1, h2⟩ := siGood_ev l
  dsimp only at h2
  obtain ⟨K2, h3⟩ := patS_l0 l (good_all hg).1 (good_all hg).2 n h1 n.toNat 1 (⟨#[]⟩ : ByteArray) (by omega) (by omega) (by show (0 : Nat) + _ ≤ _; omega)
  have h3 : ∀ k, K2 ≤ k → spec_PatternOf.l0 k l n (⟨#[]⟩ : ByteArray) 1 = _ := h3
  have e : (decide (1 ≤ n) && decide (n ≤ 48)) = true := by simp [h0, h1]
  refine Ev.mk' (K1 + K2) fun k hk => ?_
  simp (disch := omega) only [spec_PatternOf.f, h2, obind, hg, if_true, l1In_ok, e]
  simp (disch := omega) only [spec_PatternOf.j0, h3, Bool.not_true, Bool.false_eq_true, if_false]
  rfl
def patVal (l : List SRule) (n : Int) : ByteArray × Bool := if goodRules l = true ∧ 1 ≤ n ∧ n ≤ 48 then (pat l n, true) else ((⟨#[]⟩ : ByteArray), false)
theorem PatternOf_main (l : List SRule) (n : Int) : Ev (fun k => spec_PatternOf.f k l n) (patVal l n) ∧ Ev (fun k => impl_PatternOf.f k l n) (patVal l n) := by
  unfold patVal
  obtain ⟨K1, h1⟩ := siGood_ev l
  dsimp only at h1
  by_cases hc : goodRules l = true ∧ 1 ≤ n ∧ n ≤ 48
  · obtain ⟨K2, h2⟩ := patternOf_ev l (good_all hc.1).2 n hc.2.1 hc.2.2
    dsimp only at h2
    rw [if_pos hc]
    refine ⟨specPattern_ev l hc.1 n hc.2.1 hc.2.2, ⟨K2, fun k hk => ?_⟩⟩
    simp only [impl_PatternOf.f, areRules_ok, obind, hc.1, if_true, h2 k hk]
    rw [if_neg (by omega), if_neg (by omega)]
  · rw [if_neg hc]
    constructor
    · refine Ev.mk' K1 fun k hk => ?_
      simp (disch := omega) only [spec_PatternOf.f, h1, obind, l1In_ok]
      by_cases hg : goodRules l = true
      · have e : (decide (1 ≤ n) && decide (n ≤ 48)) = false := by
          rw [Bool.and_eq_false_iff]; simp only [decide_eq_false_iff_not]; by_cases h : 1 ≤ n
          · right; intro h'; exact hc ⟨hg, h, h'⟩
          · left; exact h
        rw [if_pos hg, e]
        simp [spec_PatternOf.j0]
      · rw [if_neg hg]; simp [spec_PatternOf.j0]
    · refine ⟨0, fun k _ => ?_⟩
      simp only [impl_PatternOf.f, areRules_ok, obind]
      by_cases hg : goodRules l = true
      · rw [if_pos hg]
        by_cases h : n < 1
        · rw [if_pos h]
        · rw [if_neg h, if_pos (by apply Decidable.byContradiction; intro h'; exact hc ⟨hg, by omega, by omega⟩)]
      · rw [if_neg hg]
end Go.Proofs.Ytjekkcjlfgfnkaa.P
namespace Go.Proofs.Ytjekkcjlfgfnkaa.P
open Go.RowKit Go.Proofs.YtjekkcjlfgfnkaaW.PrintWords Go.Proofs.YtjekkcjlfgfnkaaW.PrintLast
set_option linter.unusedVariables false
set_option linter.unusedSimpArgs false
theorem FnExactPatternOf : laws_FnExactPatternOf.Pure := by
  intro l0 a1 hl w1
  by_cases hs : l0.length ≤ 1048576
  · obtain ⟨K1, h1⟩ := toRuleS_ev l0 (by omega)
    obtain ⟨K2, h2⟩ := eqRuleS_ev (l0.map cvRule) (by simp; omega)
    obtain ⟨⟨K3, h3⟩, ⟨K4, h4⟩⟩ := PatternOf_main (l0.map cvRule) a1
    dsimp only at h1 h2 h3 h4
    have n0 : ¬ (1048576 - (l0.length : Int) < 0) := by omega
    refine ⟨K1 + K2 + K3 + K4 + 3, ?_⟩
    simp (disch := omega) only [laws_FnExactPatternOf.f, szRuleS_ok l0 hl, if_pos hs, obind, if_neg n0, h1, h2, h3, h4, bne_self_eq_false, if_true, Bool.false_eq_true, if_false]
    simp (disch := omega) only [laws_FnExactPatternOf.j0, szRuleS_ok l0 hl, if_pos hs, obind, if_neg n0, h1, h2, h3, h4, bne_self_eq_false, if_true, Bool.false_eq_true, if_false]
  · refine ⟨0, ?_⟩
    simp only [laws_FnExactPatternOf.f, szRuleS_ok l0 hl, if_neg hs, obind]
    simp
end Go.Proofs.Ytjekkcjlfgfnkaa.P
