/- The plain laws on what the functions answer; the last one: the law FnExactIsAnswer answers true for all arguments. Proved in this text: its theorems. Conditions: as each theorem states them. -/
import Derived.Test.YtjekkcjlfgfnkaaDoorCFnExactIsAnswerP
import Derived.Test.YtjekkcjlfgfnkaaDoorCFnExactIsAnswerF0
import Derived.Test.YtjekkcjlfgfnkaaDoorCFnExactIsAnswerF1
import Derived.Test.YtjekkcjlfgfnkaaDoorCFnExactIsAnswerF2
import Derived.Deep.Slices
import Derived.Deep.Fields
import Derived.ChangeSame
import Derived.ChangeSlices
import Derived.Lib.SmallJoins
import Derived.ProofKit
import Derived.OpenShut
import Derived.ShutString
import Derived.ChangeOld
import Derived.SizedLaws
namespace Go.Proofs.YtjekkcjlfgfnkaaDoor.P
open Go.RowKit Go.Proofs.YtjekkcjlfgfnkaaDoorW.PrintWords Go.Proofs.YtjekkcjlfgfnkaaDoorW.PrintLast
set_option linter.unusedVariables false
set_option linter.unusedSimpArgs false
section
open Go.ChangeShapes Go.WideShapes Go.Deep Go.ChangeAt
variable {H : Type} {enc : TypeId × Value → H} {P : Program} {w : World} {base : Nat} {spare : Nat → Bool} {held : Bool}
theorem open_pairs {t e : TypeId} {f0 f1 : Field} {fuel : Nat} {v : Value} {x : DataW H × List MemPlace} (ht : P.underlying t = some (.slice e)) (he : P.underlying e = some (.struct #[f0, f1]))
    (hone : oneCellFields P #[f0, f1] = true) (hC : P.cellsOf e = 2) (h0 : P.underlying f0.type = some (.int .i64)) (h1 : P.underlying f1.type = some (.int .i64)) (h : DataW.trod enc P w base spare held fuel t [v] = some x) :
    ∃ (a : Option Addr) (len cap : Nat) (l : List (Int × Int)), v = .slice a len cap ∧ len = l.length ∧ len ≤ cap ∧ l.length ≤ 9223372036854775807 ∧ (∀ p ∈ l, (Lit.int .i64 p.1).wf = true ∧ (Lit.int .i64 p.2).wf = true) ∧
      (0 < l.length → ∃ ad, a = some ad ∧ ∀ j p, l[j]? = some p → w.cell? (ad.add (j * 2)) = some (.int .i64 p.1) ∧ w.cell? (ad.add (j * 2 + 1)) = some (.int .i64 p.2)) := by
  rcases open_slice ht h with ⟨hcs, -⟩ | ⟨a, len, cap, m, n, D, Pl, hcs, hb, hl, hm, hmm, hx, hi⟩
  · simp at hcs
    exact ⟨none, 0, 0, [], hcs, rfl, Nat.le_refl _, by simp, by simp, by simp⟩
  · simp at hcs
    have hlm : len ≤ m := by rw [hmm]; split <;> omega
    have hget : ∀ i, i < len → ∃ p : Int × Int, w.cell? (a.add (i * 2)) = some (.int .i64 p.1) ∧ w.cell? (a.add (i * 2 + 1)) = some (.int .i64 p.2) ∧ (Lit.int .i64 p.1).wf = true ∧ (Lit.int .i64 p.2).wf = true := by
      intro i him
      obtain ⟨cs', hc, ht'⟩ := hi i (by omega)
      rw [hC] at hc
      obtain ⟨y0, y1, n', hy, -, t0, t1⟩ := trod_struct2 he ht'
      obtain ⟨_, hcl, hat⟩ := World.cells?_some hc
      obtain ⟨o0, k0⟩ := hone_of hone 0 f0 rfl
      obtain ⟨o1, k1⟩ := hone_of hone 1 f1 rfl
      have c0 := hat (i := 0) (by omega)
      have c1 := hat (i := 1) (by omega)
      match cs', hcl with
      | [u0, u1], _ =>
        simp only [o0, k0, List.drop_zero, List.take_succ_cons, List.take_zero] at t0
        simp only [o1, k1, List.drop_succ_cons, List.drop_zero, List.take_succ_cons, List.take_zero] at t1
        obtain ⟨z0, e0, -, w0⟩ := DataW.trod_int h0 t0
        obtain ⟨z1, e1, -, w1⟩ := DataW.trod_int h1 t1
        simp at e0 e1
        subst e0 e1
        refine ⟨(z0, z1), ?_, ?_, w0, w1⟩
        · simpa [Go.Deep.add_add] using c0
        · simpa [Go.Deep.add_add] using c1
    let g : Nat → Int × Int := fun i => if hi : i < len then (hget i hi).choose else (0, 0)
    have hg : ∀ i, i < len → w.cell? (a.add (i * 2)) = some (.int .i64 (g i).1) ∧ w.cell? (a.add (i * 2 + 1)) = some (.int .i64 (g i).2) ∧ (Lit.int .i64 (g i).1).wf = true ∧ (Lit.int .i64 (g i).2).wf = true := by
      intro i hi
      have := (hget i hi).choose_spec
      simpa [g, hi] using this
    refine ⟨some a, len, cap, (List.range len).map g, hcs, by simp, hl, by simp; unfold maxLen at hm; omega, ?_, ?_⟩
    · intro p hp
      simp at hp
      obtain ⟨i, hi, rfl⟩ := hp
      exact ⟨(hg i hi).2.2.1, (hg i hi).2.2.2⟩
    · intro _
      refine ⟨a, rfl, fun j p hj => ?_⟩
      simp [List.getElem?_map] at hj
      obtain ⟨i, hij, rfl⟩ := hj
      have hjl : j < len := by
        have := (List.getElem?_eq_some_iff.1 hij).1
        simpa using this
      have : i = j := by
        have := List.getElem?_range hjl
        rw [this] at hij
        simpa using hij.symm
      subst this
      exact ⟨(hg i hjl).1, (hg i hjl).2.1⟩
theorem open_nums {t e : TypeId} {k : IntKind} {fuel : Nat} {v : Value} {x : DataW H × List MemPlace} (ht : P.underlying t = some (.slice e)) (he : P.underlying e = some (.int k)) (hc : P.cellsOf e = 1)
    (h : DataW.trod enc P w base spare held fuel t [v] = some x) :
    ∃ (a : Option Addr) (len cap : Nat) (l : List Int), v = .slice a len cap ∧ len = l.length ∧ len ≤ cap ∧ l.length ≤ 9223372036854775807 ∧ (∀ n ∈ l, (Lit.int k n).wf = true) ∧ (Kd.int k).C w a l.length l := by
  rcases open_ints ht he hc h with ⟨hcs, -⟩ | ⟨a, len, cap, zs, hcs, hb, hl, hm, hz, hx, hcell, hwf⟩
  · simp at hcs
    exact ⟨none, 0, 0, [], hcs, rfl, Nat.le_refl _, by simp, by simp, Kd.C_nil _ _⟩
  · simp at hcs
    have hlz : len ≤ zs.length := by rw [hz]; split <;> omega
    have hlen : (zs.take len).length = len := by simp; omega
    have hmax : (zs.take len).length ≤ 9223372036854775807 := by rw [hlen]; unfold maxLen at hm; omega
    refine ⟨some a, len, cap, zs.take len, hcs, hlen.symm, hl, hmax, fun n hn => hwf n (List.mem_of_mem_take hn), ?_⟩
    refine Kd.C_of_reads (d := (0 : Int)) (h1 := fun _ => rfl) ⟨rfl, hmax, fun hn => ⟨a, rfl, fun i hi => ?_⟩⟩
    rw [hlen] at hi
    rw [hcell i (by omega)]
    congr 2
    simp [List.getD, hi]
end
end Go.Proofs.YtjekkcjlfgfnkaaDoor.P
namespace Go.Proofs.YtjekkcjlfgfnkaaDoor.P
open Go.RowKit Go.Proofs.YtjekkcjlfgfnkaaDoorW.PrintWords Go.Proofs.YtjekkcjlfgfnkaaDoorW.PrintLast
set_option linter.unusedVariables false
set_option linter.unusedSimpArgs false
theorem Ev.get {α : Type} {g : Nat → Option α} {r : α} (h : Ev g r) : ∃ K, ∀ k, K ≤ k → g k = some r := h
theorem Ev.mk' {α : Type} {g : Nat → Option α} {r : α} (K : Nat) (h : ∀ k, K ≤ k → g (k + 1) = some r) : Ev g r :=
  ⟨K + 1, fun k hk => by obtain ⟨m, rfl⟩ : ∃ m, k = m + 1 := ⟨k - 1, by omega⟩; exact h m (by omega)⟩
theorem Ev.pos {α : Type} {c : Prop} [Decidable c] {g f : Nat → Option α} {r : α} (hc : c) (h : Ev g r) : Ev (fun k => if c then g k else f k) r := by
  obtain ⟨K, h⟩ := h
  exact ⟨K, fun k hk => by show (if c then g k else f k) = some r; rw [if_pos hc]; exact h k hk⟩
theorem Ev.neg {α : Type} {c : Prop} [Decidable c] {g f : Nat → Option α} {r : α} (hc : ¬ c) (h : Ev f r) : Ev (fun k => if c then g k else f k) r := by
  obtain ⟨K, h⟩ := h
  exact ⟨K, fun k hk => by show (if c then g k else f k) = some r; rw [if_neg hc]; exact h k hk⟩
theorem Ev.let_ {α β : Type} {f : Nat → α → Option β} {a : α} {r : β} (k : Ev (fun n => f n a) r) : Ev (fun n => (some a).bind (f n)) r := k
theorem Ev.some_ {α : Type} {a r : α} (h : a = r) : Ev (fun _ => some a) r := ⟨0, fun _ _ => by rw [h]⟩
theorem Ev.eq_ {α : Type} {g : Nat → Option α} {a r : α} (h : Ev g a) (e : a = r) : Ev g r := e ▸ h
theorem wrap_id {n : Int} (h1 : -9223372036854775808 ≤ n) (h2 : n ≤ 9223372036854775807) : wrap64 n = n := by unfold wrap64; omega
theorem wf_int {n : Int} (h : (Lit.int .i64 n).wf = true) : -9223372036854775808 ≤ n ∧ n ≤ 9223372036854775807 := by
  unfold Lit.wf at h
  simp only [Bool.and_eq_true, decide_eq_true_eq] at h
  exact h
theorem obind {α β : Type} (a : α) (f : α → Option β) : (some a).bind f = f a := id rfl
end Go.Proofs.YtjekkcjlfgfnkaaDoor.P
namespace Go.Proofs.YtjekkcjlfgfnkaaDoor.P
open Go.RowKit Go.Proofs.YtjekkcjlfgfnkaaDoorW.PrintWords Go.Proofs.YtjekkcjlfgfnkaaDoorW.PrintLast
set_option linter.unusedVariables false
set_option linter.unusedSimpArgs false
def left (l : List SRule) (n : Int) : Bool := !(l.any (crosses n))
def goodRules (l : List SRule) : Bool := decide (l.length ≤ 12) && l.all okRule
theorem okRule_iff (x : SRule) : okRule x = true ↔ 2 ≤ x.f0 ∧ x.f0 ≤ 60 ∧ 0 ≤ x.f1 ∧ x.f1 < x.f0 := by
  unfold okRule; simp
theorem l1In_ok (a b c : Int) : spec_l1In.f a b c = some (decide (b ≤ a) && decide (a ≤ c)) := by
  unfold spec_l1In.f
  by_cases h : b ≤ a <;> simp [h]
theorem siRule_ok (x : SRule) : spec_siRule.f x.f0 x.f1 = some (okRule x) := by
  unfold spec_siRule.f okRule
  simp only [l1In_ok, Option.bind_some]
  by_cases h1 : 2 ≤ x.f0
  · by_cases h2 : x.f0 ≤ 60
    · have : wrap64 (x.f0 - 1) = x.f0 - 1 := wrap_id (by omega) (by omega)
      rw [this]
      by_cases h3 : 0 ≤ x.f1
      · simp [h1, h2, h3]; omega
      · simp [h1, h2, h3]
    · simp [h1, h2]
  · simp [h1]
theorem rd_drop (l : List SRule) (k : Nat) (h : k < l.length) : l.drop k = rd_Rule l k :: l.drop (k + 1) := drop_rd l k h
theorem siGood_l0 (l : List SRule) (hm : l.length ≤ 12) : ∀ d i : Nat, i + d = l.length → Ev (fun k => spec_siGood.l0 k l l.length i) ((l.drop i).all okRule)
  | 0, i, h => Ev.mk' 0 fun k _ => by
    simp only [spec_siGood.l0]
    rw [if_neg (by omega), List.drop_eq_nil_of_le (by omega)]; rfl
  | d + 1, i, h => by
    obtain ⟨K, ih⟩ := siGood_l0 l hm d (i + 1) (by omega)
    dsimp only at ih
    refine Ev.mk' K fun k hk => ?_
    simp only [spec_siGood.l0]
    rw [if_pos (by omega), if_pos (by omega), if_pos (by omega), siRule_ok, rd_drop l i (by omega), List.all_cons, Option.bind_some]
    rw [show wrap64 ((i : Int) + 1) = ((i + 1 : Nat) : Int) from wrap_id (by omega) (by omega), ih k hk]
    cases okRule (rd_Rule l i) <;> simp
theorem siGood_ev (l : List SRule) : Ev (fun k => spec_siGood.f k l) (goodRules l) := by
  unfold goodRules
  by_cases h : l.length ≤ 12
  · obtain ⟨K, ih⟩ := siGood_l0 l h l.length 0 (by omega)
    refine ⟨K, fun k hk => ?_⟩
    simp only [spec_siGood.f]
    rw [if_neg (by omega)]
    simpa [h] using ih k hk
  · refine ⟨0, fun k _ => ?_⟩
    simp only [spec_siGood.f]
    rw [if_pos (by omega)]
    simp [h]
theorem areRules_ok (l : List SRule) : impl_areRules.f l = some (goodRules l) := rfl
theorem good_all {l : List SRule} (h : goodRules l = true) : l.length ≤ 12 ∧ l.all okRule = true := by
  unfold goodRules at h
  simpa using h
theorem siRest_ok (n : Int) (x : SRule) (h : okRule x = true) : spec_siRest.f n x.f0 = some (n % x.f0) := by
  have := mod_ok n x.f0 ((okRule_iff x).1 h).1 ((okRule_iff x).1 h).2.1
  exact this
theorem siFirst_l0 (n : Int) (l : List SRule) (hm : l.length ≤ 9223372036854775807) (hl : l.all okRule = true) : ∀ d i : Nat, i + d = l.length → Ev (fun k => spec_siFirst.l0 k n l l.length i) (firstIx (crosses n) (l.drop i) i)
  | 0, i, h => Ev.mk' 0 fun k _ => by
    simp only [spec_siFirst.l0]
    rw [if_neg (by omega), List.drop_eq_nil_of_le (by omega)]; rfl
  | d + 1, i, h => by
    obtain ⟨K, ih⟩ := siFirst_l0 n l hm hl d (i + 1) (by omega)
    dsimp only at ih
    refine Ev.mk' K fun k hk => ?_
    simp only [spec_siFirst.l0]
    rw [if_pos (by omega), if_pos (by omega), if_pos (by omega), siRest_ok n _ (List.all_eq_true.mp hl _ (rd_mem l i (by omega))), rd_drop l i (by omega), Option.bind_some]
    rw [show wrap64 ((i : Int) + 1) = ((i + 1 : Nat) : Int) from wrap_id (by omega) (by omega), ih k hk]
    rw [firstIx]
    by_cases hc : n % (rd_Rule l i).f0 = (rd_Rule l i).f1
    · rw [if_pos hc, if_pos (by simp [crosses, hc])]
    · rw [if_neg hc, if_neg (by simp [crosses, hc])]; rfl
theorem siFirst_ev (n : Int) (l : List SRule) (hm : l.length ≤ 9223372036854775807) (hl : l.all okRule = true) : Ev (fun k => spec_siFirst.f k l n) (firstIx (crosses n) l 0) :=
  siFirst_l0 n l hm hl l.length 0 (by omega)
theorem first_left (n : Int) (l : List SRule) : decide (firstIx (crosses n) l 0 < 0) = left l n := by
  have h := firstIx_any (crosses n) l 0 (by omega)
  unfold left
  rw [← h]
  by_cases hc : 0 ≤ firstIx (crosses n) l 0
  · simp [hc, Int.not_lt.mpr hc]
  · simp [hc, Int.not_le.mp hc]
theorem siLeft_ev (n : Int) (l : List SRule) (hm : l.length ≤ 9223372036854775807) (hl : l.all okRule = true) : Ev (fun k => spec_siLeft.f k l n) (left l n) := by
  obtain ⟨K, h⟩ := siFirst_ev n l hm hl
  refine ⟨K, fun k hk => ?_⟩
  simp only [spec_siLeft.f, h k hk, Option.bind_some, first_left]
theorem isLeft_ok (n : Int) (l : List SRule) (hl : l.all okRule = true) : impl_isLeft.f l n = some (left l n) := by
  simp only [impl_isLeft.f, impl_firstRule.f, if_pos hl, Option.bind_some, first_left]
end Go.Proofs.YtjekkcjlfgfnkaaDoor.P
namespace Go.Proofs.YtjekkcjlfgfnkaaDoor.P
open Go.RowKit Go.Proofs.YtjekkcjlfgfnkaaDoorW.PrintWords Go.Proofs.YtjekkcjlfgfnkaaDoorW.PrintLast
set_option linter.unusedVariables false
set_option linter.unusedSimpArgs false
def cvRule (p : SLRule) : SRule := ⟨p.f0, p.f1⟩
theorem rdL_drop (l : List SLRule) (k : Nat) (h : k < l.length) : l.drop k = rd_LRule l k :: l.drop (k + 1) := by
  rw [List.drop_eq_getElem_cons h]
  simp [rd_LRule, List.getD, h]
theorem take_set {α : Type} (l : List α) (i : Nat) (v : α) (h : i < l.length) : (l.set i v).take (i + 1) = l.take i ++ [v] := by
  rw [List.take_succ_eq_append_getElem (by simpa using h)]
  simp only [List.take_set, List.getElem_set_self]
  rw [List.set_eq_of_length_le (by simp; omega)]
theorem toRuleS_l0 (l : List SLRule) (hm : l.length ≤ 17592186044416) : ∀ (d i : Nat) (x : List SRule), i + d = l.length → x.length = l.length → Ev (fun k => laws_toRuleS.l0 k l x i) (x.take i ++ (l.drop i).map cvRule)
  | 0, i, x, h, hx => Ev.mk' 0 fun k _ => by
    simp only [laws_toRuleS.l0]
    rw [if_neg (by omega), List.drop_eq_nil_of_le (by omega), List.take_of_length_le (by omega)]; simp
  | d + 1, i, x, h, hx => by
    obtain ⟨K, ih⟩ := toRuleS_l0 l hm d (i + 1) (x.set i (cvRule (rd_LRule l i))) (by omega) (by simpa using hx)
    dsimp only at ih
    refine Ev.mk' K fun k hk => ?_
    simp only [laws_toRuleS.l0, laws_toRule.f, Option.bind_some]
    rw [if_pos (by omega), if_pos (by omega), if_pos (by omega)]
    rw [show wrap64 ((i : Int) + 1) = ((i + 1 : Nat) : Int) from wrap_id (by omega) (by omega)]
    have := ih k hk
    rw [take_set x i _ (by omega)] at this
    rw [rdL_drop l i (by omega), List.map_cons]
    simpa [cvRule] using this
theorem toRuleS_ev (l : List SLRule) (hm : l.length ≤ 17592186044416) : Ev (fun k => laws_toRuleS.f k l) (l.map cvRule) := by
  obtain ⟨K, ih⟩ := toRuleS_l0 l hm l.length 0 (List.replicate l.length zRule) (by omega) (by simp)
  dsimp only at ih
  refine ⟨K, fun k hk => ?_⟩
  simp only [laws_toRuleS.f]
  rw [if_pos (by omega), if_pos (by simpa using hm)]
  simpa using ih k hk
theorem eqRule_self (x : SRule) : laws_eqRule.f x.f0 x.f1 x.f0 x.f1 = some true := by simp [laws_eqRule.f]
theorem eqRuleS_l0 (l : List SRule) (hm : l.length ≤ 17592186044416) : ∀ (d i : Nat), i + d = l.length → Ev (fun k => laws_eqRuleS.l0 k l l i) true
  | 0, i, h => Ev.mk' 0 fun k _ => by
    simp only [laws_eqRuleS.l0]
    rw [if_neg (by omega)]
  | d + 1, i, h => by
    obtain ⟨K, ih⟩ := eqRuleS_l0 l hm d (i + 1) (by omega)
    dsimp only at ih
    refine Ev.mk' K fun k hk => ?_
    simp only [laws_eqRuleS.l0]
    rw [if_pos (by omega), if_pos (by omega), if_pos (by omega), eqRule_self]
    rw [show wrap64 ((i : Int) + 1) = ((i + 1 : Nat) : Int) from wrap_id (by omega) (by omega)]
    simpa using ih k hk
theorem eqRuleS_ev (l : List SRule) (hm : l.length ≤ 17592186044416) : Ev (fun k => laws_eqRuleS.f k l l) true := by
  obtain ⟨K, ih⟩ := eqRuleS_l0 l hm l.length 0 (by omega)
  refine ⟨K, fun k hk => ?_⟩
  simp only [laws_eqRuleS.f]
  rw [if_pos trivial]
  exact ih k hk
theorem szRuleS_ok (l : List SLRule) (hm : l.length ≤ 9223372036854775807) : laws_szRuleS.f l 1048576 = some (if l.length ≤ 1048576 then 1048576 - (l.length : Int) else -1) := by
  unfold laws_szRuleS.f
  have : wrap64 (1048576 - (l.length : Int)) = 1048576 - (l.length : Int) := wrap_id (by omega) (by omega)
  rw [this]
  by_cases h : l.length ≤ 1048576
  · rw [if_neg (by omega), if_pos h]
  · rw [if_pos (by omega), if_neg h]
end Go.Proofs.YtjekkcjlfgfnkaaDoor.P
namespace Go.Proofs.YtjekkcjlfgfnkaaDoor.P
open Go.RowKit Go.Proofs.YtjekkcjlfgfnkaaDoorW.PrintWords Go.Proofs.YtjekkcjlfgfnkaaDoorW.PrintLast
set_option linter.unusedVariables false
set_option linter.unusedSimpArgs false
def sign (b : UInt8) : Bool := b == 111 || (b == 120 || b == 63)
def goodP (s : ByteArray) (n : Int) : Bool := decide (1 ≤ s.size) && (decide (s.size ≤ 48) && (s.data.toList.all sign && (decide (0 ≤ n) && decide (n ≤ 3))))
theorem all_drop_sign (l : List UInt8) : (l.dropWhile ([111, 120, 63] : List UInt8).contains = []) ↔ l.all sign = true := by
  induction l with
  | nil => simp
  | cons x l ih =>
    have e : ([111, 120, 63] : List UInt8).contains x = sign x := by simp [sign, List.contains_cons]; rfl
    rw [List.dropWhile_cons, e, List.all_cons]
    cases hx : sign x
    · simp
    · simpa using ih
theorem drop_id (p : UInt8 → Bool) (l : List UInt8) (h : ∀ x, l.head? = some x → p x = false) : l.dropWhile p = l := by
  cases l with
  | nil => rfl
  | cons x l => rw [List.dropWhile_cons, h x rfl]; rfl
theorem trimS_nil (l : List UInt8) : (Lib.trimS l [111, 120, 63] = []) ↔ l.all sign = true := by
  have e : ∀ m : List UInt8, Lib.trimLeftS m [111, 120, 63] = [] ↔ m.all sign = true := fun m => all_drop_sign m
  have e2 : ∀ m : List UInt8, Lib.trimRightS m [111, 120, 63] = (Lib.trimLeftS m.reverse [111, 120, 63]).reverse := fun m => rfl
  unfold Lib.trimS
  rw [e, e2, List.all_reverse]
  constructor
  · intro h
    have h2 := (e (Lib.trimLeftS l.reverse [111, 120, 63])).2 h
    have h3 : Lib.trimLeftS l.reverse [111, 120, 63] = [] := by
      cases hd : Lib.trimLeftS l.reverse [111, 120, 63] with
      | nil => rfl
      | cons x m =>
        exfalso
        have hx : ([111, 120, 63] : List UInt8).contains x = false := by
          have := List.head?_dropWhile_not (p := fun b => ([111, 120, 63] : List UInt8).contains b) (l := l.reverse)
          unfold Lib.trimLeftS at hd
          rw [hd] at this
          simpa using this
        rw [hd, List.all_cons] at h
        have e3 : ([111, 120, 63] : List UInt8).contains x = sign x := by simp [sign, List.contains_cons]; rfl
        rw [e3] at hx
        rw [hx] at h
        simp at h
    have := (e l.reverse).1 h3
    simpa using this
  · intro h
    have h3 := (e l.reverse).2 (by simpa using h)
    rw [h3]; rfl
theorem isPuzzle_ok (s : ByteArray) (n : Int) : impl_isPuzzle.f s n = some (goodP s n) := by
  unfold impl_isPuzzle.f goodP
  by_cases h1 : (s.size : Int) ≥ 1
  · by_cases h2 : (s.size : Int) ≤ 48
    · have e : strings_Trim.f s (⟨#[111, 120, 63]⟩ : ByteArray) = some ⟨(Lib.trimS s.data.toList [111, 120, 63]).toArray⟩ := by
        unfold strings_Trim.f; rw [if_pos ⟨by omega, rfl⟩]
      rw [if_pos h1, if_pos h2, e, obind]
      have d1 : decide (1 ≤ s.size) = true := decide_eq_true (by omega)
      have d2 : decide (s.size ≤ 48) = true := decide_eq_true (by omega)
      rw [d1, d2, Bool.true_and, Bool.true_and]
      have e3 : (ByteArray.toList ⟨(Lib.trimS s.data.toList [111, 120, 63]).toArray⟩ = ([] : List UInt8)) ↔ s.data.toList.all sign = true := by
        rw [← trimS_nil, ByteArray.toList_eq]
      by_cases h3 : s.data.toList.all sign = true
      · rw [if_pos (e3.2 h3), h3, Bool.true_and]
        by_cases h4 : n ≥ 0
        · rw [if_pos h4, decide_eq_true (show 0 ≤ n by omega), Bool.true_and]
        · rw [if_neg h4, decide_eq_false (show ¬ 0 ≤ n by omega), Bool.false_and]
      · rw [if_neg (fun h => h3 (e3.1 h)), Bool.eq_false_iff.2 h3, Bool.false_and]
    · rw [if_pos h1, if_neg h2, decide_eq_false (show ¬ s.size ≤ 48 by omega), Bool.false_and, Bool.and_false]
  · rw [if_neg h1, decide_eq_false (show ¬ 1 ≤ s.size by omega), Bool.false_and]
theorem bt_sign (s : ByteArray) (i : Nat) (h : i < s.size) : (bt s i = 111 ∨ bt s i = 120 ∨ bt s i = 63) ↔ sign (s.data.toList[i]'(by simpa using h)) = true := by
  have e : bt s i = ((s[i]'h).toNat : Int) := (bt_at s (i : Int) h).symm
  have e2 : s.data.toList[i]'(by simpa using h) = s[i]'h := by simp; rfl
  rw [e2]
  generalize s[i]'h = b at e
  rw [e]
  simp only [sign, Bool.or_eq_true, beq_iff_eq]
  constructor
  · rintro (h | h | h)
    · left; exact UInt8.toNat_inj.mp (by simpa using (by omega : b.toNat = 111))
    · right; left; exact UInt8.toNat_inj.mp (by simpa using (by omega : b.toNat = 120))
    · right; right; exact UInt8.toNat_inj.mp (by simpa using (by omega : b.toNat = 63))
  · rintro (rfl | rfl | rfl) <;> simp
theorem pzPattern_l0 (s : ByteArray) (hm : s.size ≤ 48) : ∀ d i : Nat, i + d = s.size → Ev (fun k => spec_pzPattern.l0 k s i) ((s.data.toList.drop i).all sign)
  | 0, i, h => Ev.mk' 0 fun k _ => by
    simp only [spec_pzPattern.l0]
    rw [if_neg (by omega), List.drop_of_length_le (by simp; omega)]; rfl
  | d + 1, i, h => by
    obtain ⟨K, ih⟩ := pzPattern_l0 s hm d (i + 1) (by omega)
    dsimp only at ih
    have hi : i < s.data.toList.length := by simp; show i < s.size; omega
    have hb := bt_sign s i (by omega)
    refine Ev.mk' K fun k hk => ?_
    rw [List.drop_eq_getElem_cons hi, List.all_cons]
    simp only [spec_pzPattern.l0]
    rw [if_pos (by omega), if_pos (by omega), wrap_id (by omega) (by omega), show ((i : Int) + 1) = ((i + 1 : Nat) : Int) by omega, ih k hk]
    by_cases h1 : bt s i = 111
    · rw [if_pos h1, hb.1 (.inl h1), Bool.true_and]
    · by_cases h2 : bt s i = 120
      · rw [if_neg h1, if_pos h2, hb.1 (.inr (.inl h2)), Bool.true_and]
      · by_cases h3 : bt s i = 63
        · rw [if_neg h1, if_neg h2, if_pos h3, hb.1 (.inr (.inr h3)), Bool.true_and]
        · have hn : sign (s.data.toList[i]'hi) = false := Bool.eq_false_iff.2 (fun h => by rcases hb.2 h with h | h | h <;> contradiction)
          rw [if_neg h1, if_neg h2, if_neg h3, hn, Bool.false_and]
theorem pzGood_ev (s : ByteArray) (n : Int) : Ev (fun k => spec_pzGood.f k s n) (goodP s n) := by
  unfold goodP
  by_cases h : 1 ≤ s.size ∧ s.size ≤ 48
  · obtain ⟨K, h3⟩ := pzPattern_l0 s h.2 s.size 0 (by omega)
    have h3 : ∀ k, K ≤ k → spec_pzPattern.l0 k s 0 = some (s.data.toList.all sign) := fun k hk => by have := h3 k hk; rwa [List.drop_zero] at this
    refine ⟨K, fun k hk => ?_⟩
    have d1 : (decide ((1 : Int) ≤ (s.size : Int)) && decide ((s.size : Int) ≤ 48)) = true := by simp; omega
    simp only [spec_pzGood.f, spec_pzPattern.f, l1In_ok, obind, d1, if_true, h3 k hk]
    rw [decide_eq_true h.1, decide_eq_true h.2, Bool.true_and, Bool.true_and]
    cases s.data.toList.all sign <;> simp
  · refine ⟨0, fun k hk => ?_⟩
    have d1 : (decide ((1 : Int) ≤ (s.size : Int)) && decide ((s.size : Int) ≤ 48)) = false := by
      rw [Bool.and_eq_false_iff]; simp only [decide_eq_false_iff_not]; omega
    have d2 : (decide (1 ≤ s.size) && (decide (s.size ≤ 48) && (s.data.toList.all sign && (decide (0 ≤ n) && decide (n ≤ 3))))) = false := by
      rw [← Bool.and_assoc, Bool.and_eq_false_iff]; left
      rw [Bool.and_eq_false_iff]; simp only [decide_eq_false_iff_not]; omega
    simp only [spec_pzGood.f, spec_pzPattern.f, l1In_ok, obind, d1, Bool.false_eq_true, if_false, d2]
theorem szPuzzle_ok (s : ByteArray) (n : Int) (hm : s.size ≤ 9223372036854775807) : laws_szPuzzle.f s n 1048576 = some (if s.size ≤ 1048576 then 1048576 - (s.size : Int) else -1) := by
  unfold laws_szPuzzle.f
  rw [wrap_id (by omega) (by omega)]
  by_cases h : s.size ≤ 1048576
  · rw [if_neg (by omega), if_pos h]
  · rw [if_pos (by omega), if_neg h]
end Go.Proofs.YtjekkcjlfgfnkaaDoor.P
namespace Go.Proofs.YtjekkcjlfgfnkaaDoor.P
open Go.RowKit Go.Proofs.YtjekkcjlfgfnkaaDoorW.PrintWords Go.Proofs.YtjekkcjlfgfnkaaDoorW.PrintLast
set_option linter.unusedVariables false
set_option linter.unusedSimpArgs false
def fitD (s : ByteArray) (e t : Int) (pos : Nat) : Nat → Bool
  | 0 => true
  | d + 1 => !(bt s pos == 111 && (((pos : Int) + 1) % e == t)) && fitD s e t (pos + 1) d
def rowFit (s : ByteArray) (e t : Int) : Nat → List SRule
  | 0 => []
  | d + 1 => (cond (fitD s e t 0 s.size) [(⟨e, t⟩ : SRule)] []) ++ rowFit s e (t + 1) d
def allFit (s : ByteArray) (e : Int) : Nat → List SRule
  | 0 => []
  | d + 1 => rowFit s e 0 e.toNat ++ allFit s (e + 1) d
def fitOf (s : ByteArray) : List SRule := allFit s 2 9
theorem rowFit_length (s : ByteArray) (e : Int) : ∀ d t, (rowFit s e t d).length ≤ d
  | 0, t => by simp [rowFit]
  | d + 1, t => by
    have := rowFit_length s e d (t + 1)
    simp only [rowFit, List.length_append]
    cases fitD s e t 0 s.size <;> simp <;> omega
theorem allFit_length (s : ByteArray) : ∀ (d : Nat) (e : Int), e + d = 11 → (allFit s e d).length ≤ 11 * d
  | 0, e, h => by simp [allFit]
  | d + 1, e, h => by
    have := allFit_length s d (e + 1) (by omega)
    have h2 := rowFit_length s e e.toNat 0
    simp only [allFit, List.length_append]
    omega
theorem fitOf_length (s : ByteArray) : (fitOf s).length ≤ 99 := allFit_length s 9 2 (by omega)
theorem good_sign {s : ByteArray} {n : Int} (h : goodP s n = true) : s.data.toList.all sign = true := by
  unfold goodP at h; simp only [Bool.and_eq_true] at h; exact h.2.2.1
theorem sign_bt {s : ByteArray} (hs : s.data.toList.all sign = true) (i : Nat) (h : i < s.size) : bt s i = 111 ∨ bt s i = 120 ∨ bt s i = 63 :=
  (bt_sign s i h).2 (List.all_eq_true.1 hs _ (List.getElem_mem _))
theorem pzFits_l0 (s : ByteArray) (hs : s.data.toList.all sign = true) (hz : s.size ≤ 48) (e t : Int) (h0 : 2 ≤ e) (h1 : e ≤ 10) (h2 : 0 ≤ t) (h3 : t < e) : ∀ d pos : Nat, pos + d = s.size → Ev (fun k => spec_pzFits.l0 k s e t pos) (fitD s e t pos d)
  | 0, pos, h => Ev.mk' 0 fun k _ => by
    simp only [spec_pzFits.l0, fitD]
    rw [if_neg (by omega)]
  | d + 1, pos, h => by
    obtain ⟨K, ih⟩ := pzFits_l0 s hs hz e t h0 h1 h2 h3 d (pos + 1) (by omega)
    dsimp only at ih
    have hb := sign_bt hs pos (by omega)
    have hr := siRest_ok ((pos : Int) + 1) ⟨e, t⟩ ((okRule_iff _).2 ⟨h0, by show e ≤ 60; omega, h2, h3⟩)
    have hr : spec_siRest.f ((pos : Int) + 1) e = some (((pos : Int) + 1) % e) := hr
    refine Ev.mk' K fun k hk => ?_
    simp only [spec_pzFits.l0, fitD]
    rw [if_pos (by omega), if_pos (by omega), wrap_id (by omega) (by omega), hr, obind, ih k hk]
    by_cases c : bt s pos = 111
    · rw [if_pos c, beq_iff_eq.2 c, Bool.true_and]
      by_cases c2 : ((pos : Int) + 1) % e = t
      · rw [if_pos c2, beq_iff_eq.2 c2]; rfl
      · rw [if_neg c2, beq_eq_false_iff_ne.2 c2]; simp
    · rw [if_neg c, beq_eq_false_iff_ne.2 c]; simp
theorem pzFits_ev (s : ByteArray) (hs : s.data.toList.all sign = true) (hz : s.size ≤ 48) (e t : Int) (h0 : 2 ≤ e) (h1 : e ≤ 10) (h2 : 0 ≤ t) (h3 : t < e) : Ev (fun k => spec_pzFits.f k s e t) (fitD s e t 0 s.size) :=
  pzFits_l0 s hs hz e t h0 h1 h2 h3 s.size 0 (by omega)
theorem pzFit_l1 (s : ByteArray) (hs : s.data.toList.all sign = true) (hz : s.size ≤ 48) (e : Int) (h0 : 2 ≤ e) (h1 : e ≤ 10) (r : List SRule) : ∀ (d : Nat) (t : Int) (acc : List SRule), t + d = e → 0 ≤ t → acc.length + d ≤ 300 → Ev (fun k => spec_pzFit.l0 k s (acc ++ rowFit s e t d) (e + 1)) r → Ev (fun k => spec_pzFit.l1 k s acc e t) r
  | 0, t, acc, h, h2, h3, ⟨K, hk⟩ => Ev.mk' K fun k hk' => by
    simp only [rowFit, List.append_nil] at hk
    simp only [spec_pzFit.l1]
    rw [if_neg (by omega), wrap_id (by omega) (by omega), hk k hk']
  | d + 1, t, acc, h, h2, h3, hc => by
    obtain ⟨K1, hf⟩ := pzFits_ev s hs hz e t h0 h1 h2 (by omega)
    dsimp only at hf
    simp only [rowFit] at hc
    cases c : fitD s e t 0 s.size with
    | true =>
      rw [c, cond_true, ← List.append_assoc] at hc
      rw [c] at hf
      obtain ⟨K, ih⟩ := pzFit_l1 s hs hz e h0 h1 r d (t + 1) (acc ++ [⟨e, t⟩]) (by omega) (by omega) (by simp; omega) hc
      dsimp only at ih
      refine Ev.mk' (K + K1) fun k hk => ?_
      simp only [spec_pzFit.l1, hf k (by omega), obind]
      rw [if_pos (by omega), if_pos trivial, if_pos (by omega), wrap_id (by omega) (by omega), ih k (by omega)]
    | false =>
      rw [c, cond_false, List.nil_append] at hc
      rw [c] at hf
      obtain ⟨K, ih⟩ := pzFit_l1 s hs hz e h0 h1 r d (t + 1) acc (by omega) (by omega) (by omega) hc
      dsimp only at ih
      refine Ev.mk' (K + K1) fun k hk => ?_
      simp only [spec_pzFit.l1, hf k (by omega), obind]
      rw [if_pos (by omega), if_neg (by decide), wrap_id (by omega) (by omega), ih k (by omega)]
theorem pzFit_l0 (s : ByteArray) (hs : s.data.toList.all sign = true) (hz : s.size ≤ 48) : ∀ (d : Nat) (e : Int) (acc : List SRule), e + d = 11 → 2 ≤ e → acc.length + 11 * d ≤ 200 → Ev (fun k => spec_pzFit.l0 k s acc e) (acc ++ allFit s e d)
  | 0, e, acc, h, h2, h3 => Ev.mk' 0 fun k _ => by
    simp only [spec_pzFit.l0, allFit, List.append_nil]
    rw [if_neg (by omega)]
  | d + 1, e, acc, h, h2, h3 => by
    have hl := rowFit_length s e e.toNat 0
    have ih := pzFit_l0 s hs hz d (e + 1) (acc ++ rowFit s e 0 e.toNat) (by omega) (by omega) (by rw [List.length_append]; omega)
    obtain ⟨K, h4⟩ := pzFit_l1 s hs hz e h2 (by omega) _ e.toNat 0 acc (by omega) (by omega) (by omega) ih
    dsimp only at h4
    refine Ev.mk' K fun k hk => ?_
    simp only [spec_pzFit.l0, allFit]
    rw [if_pos (by omega), h4 k hk, List.append_assoc]
theorem pzFit_ev (s : ByteArray) (hs : s.data.toList.all sign = true) (hz : s.size ≤ 48) : Ev (fun k => spec_pzFit.f k s) (fitOf s) := by
  obtain ⟨K, h⟩ := pzFit_l0 s hs hz 9 2 [] (by omega) (by omega) (by simp)
  exact ⟨K, fun k hk => h k hk⟩
theorem fitting_l2 (s : ByteArray) (hz : s.size ≤ 48) (e t : Int) (h0 : 2 ≤ e) (h1 : e ≤ 10) (acc : List SRule) (hl : acc.length ≤ 300) (r : List SRule) : ∀ (d pos : Nat) (b : Bool), pos + d = s.size → Ev (fun k => impl_fitting.l1 k s (acc ++ cond (b && fitD s e t pos d) [(⟨e, t⟩ : SRule)] []) e e (wrap64 (t + 1))) r → Ev (fun k => impl_fitting.l2 k s acc e t b e t (s.size : Int) pos) r
  | 0, pos, b, h, ⟨K, hk⟩ => Ev.mk' K fun k hk' => by
    have hk := hk k hk'
    simp only [fitD, Bool.and_true] at hk
    simp only [impl_fitting.l2]
    rw [if_neg (by omega)]
    cases b with
    | true => rw [cond_true] at hk; rw [if_pos rfl, if_pos (by omega)]; exact hk
    | false => rw [cond_false, List.append_nil] at hk; rw [if_neg (by decide)]; exact hk
  | d + 1, pos, b, h, hc => by
    simp only [fitD] at hc
    cases b with
    | false =>
      obtain ⟨K, ih⟩ := fitting_l2 s hz e t h0 h1 acc hl r d (pos + 1) false (by omega) hc
      dsimp only at ih
      refine Ev.mk' K fun k hk => ?_
      simp only [impl_fitting.l2]
      rw [if_pos (by omega), if_neg (by decide), wrap_id (by omega) (by omega)]
      exact ih k hk
    | true =>
      have hm : Int.tmod ((pos : Int) + 1) e = ((pos : Int) + 1) % e := Int.tmod_eq_emod_of_nonneg (by omega)
      rw [Bool.true_and] at hc
      by_cases c : bt s pos = 111
      · rw [beq_iff_eq.2 c, Bool.true_and] at hc
        obtain ⟨K, ih⟩ := fitting_l2 s hz e t h0 h1 acc hl r d (pos + 1) (((pos : Int) + 1) % e != t) (by omega) hc
        dsimp only at ih
        refine Ev.mk' K fun k hk => ?_
        simp only [impl_fitting.l2]
        rw [if_pos (by omega), if_pos (by first | rfl | trivial), if_pos (by omega), if_pos (by omega), if_pos c, if_neg (by omega), wrap_id (n := (pos : Int) + 1) (by omega) (by omega), hm]
        exact ih k hk
      · rw [beq_eq_false_iff_ne.2 c, Bool.false_and] at hc
        obtain ⟨K, ih⟩ := fitting_l2 s hz e t h0 h1 acc hl r d (pos + 1) true (by omega) hc
        dsimp only at ih
        refine Ev.mk' K fun k hk => ?_
        simp only [impl_fitting.l2]
        rw [if_pos (by omega), if_pos (by first | rfl | trivial), if_pos (by omega), if_pos (by omega), if_neg c, wrap_id (n := (pos : Int) + 1) (by omega) (by omega)]
        exact ih k hk
theorem fitting_l1 (s : ByteArray) (hz : s.size ≤ 48) (e : Int) (h0 : 2 ≤ e) (h1 : e ≤ 10) (r : List SRule) : ∀ (d : Nat) (t : Int) (acc : List SRule), t + d = e → 0 ≤ t → acc.length + d ≤ 300 → Ev (fun k => impl_fitting.l0 k s (acc ++ rowFit s e t d) (e + 1)) r → Ev (fun k => impl_fitting.l1 k s acc e e t) r
  | 0, t, acc, h, h2, h3, ⟨K, hk⟩ => Ev.mk' K fun k hk' => by
    simp only [rowFit, List.append_nil] at hk
    simp only [impl_fitting.l1]
    rw [if_neg (by omega), wrap_id (by omega) (by omega), hk k hk']
  | d + 1, t, acc, h, h2, h3, hc => by
    simp only [rowFit] at hc
    rw [← List.append_assoc] at hc
    have ih := fitting_l1 s hz e h0 h1 r d (t + 1) (acc ++ cond (fitD s e t 0 s.size) [(⟨e, t⟩ : SRule)] []) (by omega) (by omega) (by rw [List.length_append]; cases fitD s e t 0 s.size <;> simp <;> omega) hc
    obtain ⟨K, h4⟩ := fitting_l2 s hz e t h0 h1 acc (by omega) r s.size 0 true (by omega) (by rw [Bool.true_and, wrap_id (by omega) (by omega)]; exact ih)
    dsimp only at h4
    refine Ev.mk' K fun k hk => ?_
    simp only [impl_fitting.l1]
    rw [if_pos (by omega)]
    exact h4 k hk
theorem fitting_l0 (s : ByteArray) (hz : s.size ≤ 48) : ∀ (d : Nat) (e : Int) (acc : List SRule), e + d = 11 → 2 ≤ e → acc.length + 11 * d ≤ 200 → Ev (fun k => impl_fitting.l0 k s acc e) (acc ++ allFit s e d)
  | 0, e, acc, h, h2, h3 => Ev.mk' 0 fun k _ => by
    simp only [impl_fitting.l0, allFit, List.append_nil]
    rw [if_neg (by omega)]
  | d + 1, e, acc, h, h2, h3 => by
    have hl := rowFit_length s e e.toNat 0
    have ih := fitting_l0 s hz d (e + 1) (acc ++ rowFit s e 0 e.toNat) (by omega) (by omega) (by rw [List.length_append]; omega)
    obtain ⟨K, h4⟩ := fitting_l1 s hz e h2 (by omega) _ e.toNat 0 acc (by omega) (by omega) (by omega) ih
    dsimp only at h4
    refine Ev.mk' K fun k hk => ?_
    simp only [impl_fitting.l0, allFit]
    rw [if_pos (by omega), h4 k hk, List.append_assoc]
theorem fitting_ev (s : ByteArray) (hz : s.size ≤ 48) : Ev (fun k => impl_fitting.f k s) (fitOf s) := by
  obtain ⟨K, h⟩ := fitting_l0 s hz 9 2 [] (by omega) (by omega) (by simp)
  exact ⟨K, fun k hk => h k hk⟩
end Go.Proofs.YtjekkcjlfgfnkaaDoor.P
namespace Go.Proofs.YtjekkcjlfgfnkaaDoor.P
open Go.RowKit Go.Proofs.YtjekkcjlfgfnkaaDoorW.PrintWords Go.Proofs.YtjekkcjlfgfnkaaDoorW.PrintLast
set_option linter.unusedVariables false
set_option linter.unusedSimpArgs false
def lessR (a b : SRule) : Bool := decide (a.f0 < b.f0) || (a.f0 == b.f0 && decide (a.f1 < b.f1))
theorem pzLess_ok (a b : SRule) : spec_pzLess.f a.f0 a.f1 b.f0 b.f1 = some (lessR a b) := by
  unfold spec_pzLess.f lessR
  by_cases h : a.f0 < b.f0
  · simp [h]
  · by_cases h2 : a.f0 = b.f0
    · simp [h2]
    · simp [h, h2]
theorem cmpC_ok (a b : Int) : cmp_Compare_int.f a b = some (if a < b then -1 else if b < a then 1 else 0) := by
  simp only [cmp_Compare_int.f, cmp_isNaN_int.f, obind, bne_self_eq_false, Bool.false_eq_true, if_false, gt_iff_lt]
  by_cases h : a < b
  · simp [h]
  · by_cases h2 : b < a <;> simp [h, h2]
theorem cmpOr_ev (c1 c2 : Int) (k : Nat) : cmp_Or_int.f (k + 4) [c1, c2] = some (if c1 = 0 then c2 else c1) := by
  have r0 : rd [c1, c2] 0 = c1 := rfl
  have r1 : rd [c1, c2] 1 = c2 := rfl
  have w0 : wrap64 (0 + 1) = 1 := wrap_id (by decide) (by decide)
  have w1 : wrap64 (1 + 1) = 2 := wrap_id (by decide) (by decide)
  simp only [cmp_Or_int.f, cmp_Or_int.l0, List.length_cons, List.length_nil, r0, w0, r1, w1]
  by_cases h : c1 = 0
  · by_cases h2 : c2 = 0 <;> simp [h, h2]
  · simp [h]
theorem compareRules_ev (a b : SRule) : ∃ v, (v ≥ 0 ↔ lessR a b = false) ∧ ∀ k, impl_compareRules.f (k + 4) a.f0 a.f1 b.f0 b.f1 = some v := by
  refine ⟨_, ?_, fun k => by simp only [impl_compareRules.f, cmpC_ok, obind, cmpOr_ev]; rfl⟩
  unfold lessR
  by_cases h : a.f0 < b.f0
  · simp [h]
  · by_cases h2 : b.f0 < a.f0
    · simp [h, h2]; omega
    · have e : a.f0 = b.f0 := by omega
      by_cases h3 : a.f1 < b.f1
      · simp [e, h3]
      · by_cases h4 : b.f1 < a.f1
        · simp [e, h3, h4] <;> omega
        · simp [e, h3, h4] <;> omega
def covD (s : ByteArray) (l : List SRule) (pos : Nat) : Nat → Bool
  | 0 => true
  | d + 1 => !(bt s pos == 120 && left l ((pos : Int) + 1)) && covD s l (pos + 1) d
def agD (s : ByteArray) (l : List SRule) (pos : Nat) : Nat → Bool
  | 0 => true
  | d + 1 => !(bt s pos != 63 && (left l ((pos : Int) + 1) != (bt s pos == 111))) && agD s l (pos + 1) d
theorem all_and {α : Type} (p q : α → Bool) : ∀ l : List α, l.all (fun x => p x && q x) = (l.all p && l.all q)
  | [] => rfl
  | x :: l => by
    simp only [List.all_cons, all_and p q l]
    cases p x <;> cases q x <;> cases l.all p <;> cases l.all q <;> rfl
theorem left_all (l : List SRule) (n : Int) : left l n = l.all (fun r => !crosses n r) := by
  unfold left
  induction l with
  | nil => rfl
  | cons x l ih => rw [List.any_cons, List.all_cons, ← ih]; cases crosses n x <;> simp
theorem agD_eq (s : ByteArray) (hs : s.data.toList.all sign = true) (l : List SRule) : ∀ d pos : Nat, pos + d = s.size → agD s l pos d = (l.all (fun r => fitD s r.f0 r.f1 pos d) && covD s l pos d)
  | 0, pos, h => by
    have e : (fun r : SRule => fitD s r.f0 r.f1 pos 0) = fun _ => true := rfl
    rw [e]; simp [agD, covD]
  | d + 1, pos, h => by
    have ih := agD_eq s hs l d (pos + 1) (by omega)
    simp only [agD, covD, fitD]
    rw [all_and (fun r : SRule => !(bt s pos == 111 && ((pos : Int) + 1) % r.f0 == r.f1)) (fun r => fitD s r.f0 r.f1 (pos + 1) d), ih]
    rcases sign_bt hs pos (by omega) with hb | hb | hb <;> rw [hb]
    · have e : l.all (fun r : SRule => !((111 : Int) == 111 && ((pos : Int) + 1) % r.f0 == r.f1)) = left l ((pos : Int) + 1) := (left_all l _).symm
      rw [e]
      generalize left l ((pos : Int) + 1) = x
      generalize l.all (fun r => fitD s r.f0 r.f1 (pos + 1) d) = y
      generalize covD s l (pos + 1) d = z
      cases x <;> cases y <;> cases z <;> rfl
    · have e : l.all (fun r : SRule => !((120 : Int) == 111 && ((pos : Int) + 1) % r.f0 == r.f1)) = true := List.all_eq_true.2 fun _ _ => rfl
      rw [e]
      generalize left l ((pos : Int) + 1) = x
      generalize l.all (fun r => fitD s r.f0 r.f1 (pos + 1) d) = y
      generalize covD s l (pos + 1) d = z
      cases x <;> cases y <;> cases z <;> rfl
    · have e : l.all (fun r : SRule => !((63 : Int) == 111 && ((pos : Int) + 1) % r.f0 == r.f1)) = true := List.all_eq_true.2 fun _ _ => rfl
      rw [e]
      generalize left l ((pos : Int) + 1) = x
      generalize l.all (fun r => fitD s r.f0 r.f1 (pos + 1) d) = y
      generalize covD s l (pos + 1) d = z
      cases x <;> cases y <;> cases z <;> rfl
theorem agrees_l0 (s : ByteArray) (hs : s.data.toList.all sign = true) (hz : s.size ≤ 48) (l : List SRule) (hl : l.all okRule = true) : ∀ d pos : Nat, pos + d = s.size → Ev (fun k => impl_agrees.l0 k s l (s.size : Int) pos) (agD s l pos d)
  | 0, pos, h => Ev.mk' 0 fun k _ => by
    simp only [impl_agrees.l0, agD]
    rw [if_neg (by omega)]
  | d + 1, pos, h => by
    obtain ⟨K, ih⟩ := agrees_l0 s hs hz l hl d (pos + 1) (by omega)
    dsimp only at ih
    refine Ev.mk' K fun k hk => ?_
    have ih : impl_agrees.l0 k s l (s.size : Int) ((pos : Int) + 1) = some (agD s l (pos + 1) d) := ih k hk
    simp only [impl_agrees.l0, agD, isLeft_ok _ l hl, obind]
    rw [if_pos (by omega), if_pos (by omega), if_pos (by omega), wrap_id (by omega) (by omega), ih]
    by_cases c : bt s pos = 63
    · rw [if_pos c, c]; rfl
    · rw [if_neg c, bne_iff_ne.2 c, Bool.true_and]
      cases (left l ((pos : Int) + 1) != (bt s pos == 111)) <;> simp
theorem pzCovers_l0 (s : ByteArray) (hs : s.data.toList.all sign = true) (hz : s.size ≤ 48) (l : List SRule) (hm : l.length ≤ 12) (hl : l.all okRule = true) : ∀ d pos : Nat, pos + d = s.size → Ev (fun k => spec_pzCovers.l0 k s l pos) (covD s l pos d)
  | 0, pos, h => Ev.mk' 0 fun k _ => by
    simp only [spec_pzCovers.l0, covD]
    rw [if_neg (by omega)]
  | d + 1, pos, h => by
    obtain ⟨K, ih⟩ := pzCovers_l0 s hs hz l hm hl d (pos + 1) (by omega)
    dsimp only at ih
    obtain ⟨K1, h3⟩ := siLeft_ev ((pos : Int) + 1) l (by omega) hl
    dsimp only at h3
    have hb := sign_bt hs pos (by omega)
    refine Ev.mk' (K + K1) fun k hk => ?_
    simp only [spec_pzCovers.l0, covD]
    rw [if_pos (by omega), if_pos (by omega), wrap_id (by omega) (by omega), h3 k (by omega), obind, ih k (by omega)]
    by_cases c : bt s pos = 120
    · rw [if_pos c, c]
      cases left l ((pos : Int) + 1) <;> simp
    · rw [if_neg c, beq_eq_false_iff_ne.2 c, Bool.false_and]; rfl
def okI (l : List SRule) (i : Nat) : Nat → Bool
  | 0 => true
  | d + 1 => (decide ((rd_Rule l i).f0 ≤ 10) && (decide (i = 0) || lessR (rd_Rule l ((i : Int) - 1)) (rd_Rule l i))) && okI l (i + 1) d
def fitAll (s : ByteArray) (l : List SRule) (i : Nat) : Nat → Bool
  | 0 => true
  | d + 1 => fitD s (rd_Rule l i).f0 (rd_Rule l i).f1 0 s.size && fitAll s l (i + 1) d
theorem fitAll_eq (s : ByteArray) (l : List SRule) : ∀ d i : Nat, i + d = l.length → fitAll s l i d = (l.drop i).all (fun r => fitD s r.f0 r.f1 0 s.size)
  | 0, i, h => by rw [List.drop_of_length_le (by omega)]; rfl
  | d + 1, i, h => by
    rw [rd_drop l i (by omega), List.all_cons, ← fitAll_eq s l d (i + 1) (by omega)]; rfl
theorem rd_ok (l : List SRule) (hl : l.all okRule = true) (i : Nat) (h : i < l.length) : okRule (rd_Rule l i) = true := by
  have e := rd_drop l i h
  have : rd_Rule l i ∈ l.drop i := by rw [e]; exact List.mem_cons_self
  exact List.all_eq_true.1 hl _ (List.mem_of_mem_drop this)
theorem implAns_l0 (s : ByteArray) (n : Int) (l : List SRule) (hm : l.length ≤ 12) (ag : Bool) (hag : Ev (fun k => impl_agrees.f k s l) ag) : ∀ d i : Nat, i + d = l.length → Ev (fun k => impl_IsAnswer.l0 k l l (l.length : Int) i s n) (okI l i d && (decide ((l.length : Int) = n) && ag), true)
  | 0, i, h => by
    obtain ⟨K, h1⟩ := hag
    dsimp only at h1
    refine Ev.mk' K fun k hk => ?_
    simp only [impl_IsAnswer.l0, okI, h1 k hk, obind]
    rw [if_neg (by omega), Bool.true_and]
    by_cases c : (l.length : Int) = n
    · rw [if_pos c, decide_eq_true c, Bool.true_and]
    · rw [if_neg c, decide_eq_false c, Bool.false_and]
  | d + 1, i, h => by
    obtain ⟨K, ih⟩ := implAns_l0 s n l hm ag hag d (i + 1) (by omega)
    dsimp only at ih
    obtain ⟨v, hv, h2⟩ := compareRules_ev (rd_Rule l ((i : Int) - 1)) (rd_Rule l i)
    refine Ev.mk' (K + 4) fun k hk => ?_
    have ih : impl_IsAnswer.l0 k l l (l.length : Int) ((i : Int) + 1) s n = _ := ih k (by omega)
    have h2 : impl_compareRules.f k (rd_Rule l ((i : Int) - 1)).f0 (rd_Rule l ((i : Int) - 1)).f1 (rd_Rule l i).f0 (rd_Rule l i).f1 = some v := by
      have := h2 (k - 4); rwa [show k - 4 + 4 = k by omega] at this
    simp only [impl_IsAnswer.l0, okI]
    rw [if_pos (by omega), if_pos (by omega), if_pos (by omega), wrap_id (n := (i : Int) + 1) (by omega) (by omega), ih]
    by_cases c : (rd_Rule l i).f0 > 10
    · rw [if_pos c, decide_eq_false (show ¬ (rd_Rule l i).f0 ≤ 10 by omega)]; simp
    · rw [if_neg c, decide_eq_true (show (rd_Rule l i).f0 ≤ 10 by omega), Bool.true_and]
      by_cases c2 : i = 0
      · rw [if_neg (by omega), decide_eq_true c2]; simp
      · rw [if_pos (by omega), wrap_id (by omega) (by omega), if_pos (by omega), if_pos (by omega), h2, obind, decide_eq_false c2, Bool.false_or]
        by_cases c3 : v ≥ 0
        · rw [if_pos c3, hv.1 c3]; simp
        · rw [if_neg c3, show lessR (rd_Rule l ((i : Int) - 1)) (rd_Rule l i) = true by
            cases hx : lessR (rd_Rule l ((i : Int) - 1)) (rd_Rule l i) with
            | true => rfl
            | false => exact absurd (hv.2 hx) c3]; simp
theorem specAns_l0 (s : ByteArray) (hs : s.data.toList.all sign = true) (hz : s.size ≤ 48) (n : Int) (l : List SRule) (hm : l.length ≤ 12) (hl : l.all okRule = true) (cv : Bool) (hcv : Ev (fun k => spec_pzCovers.f k s l) cv) : ∀ d i : Nat, i + d = l.length → Ev (fun k => spec_IsAnswer.l0 k l l (l.length : Int) i s n) ((okI l i d && fitAll s l i d) && cv, true)
  | 0, i, h => by
    obtain ⟨K, h1⟩ := hcv
    dsimp only at h1
    refine Ev.mk' K fun k hk => ?_
    simp only [spec_IsAnswer.l0, okI, fitAll, h1 k hk, obind]
    rw [if_neg (by omega)]; simp
  | d + 1, i, h => by
    obtain ⟨K, ih⟩ := specAns_l0 s hs hz n l hm hl cv hcv d (i + 1) (by omega)
    dsimp only at ih
    have ho := (okRule_iff _).1 (rd_ok l hl i (by omega))
    by_cases c : (rd_Rule l i).f0 > 10
    · refine Ev.mk' 0 fun k hk => ?_
      simp only [spec_IsAnswer.l0, okI]
      rw [if_pos (by omega), if_pos (by omega), if_pos (by omega), if_pos c, decide_eq_false (show ¬ (rd_Rule l i).f0 ≤ 10 by omega)]; simp
    · obtain ⟨K1, hf⟩ := pzFits_ev s hs hz (rd_Rule l i).f0 (rd_Rule l i).f1 ho.1 (by omega) ho.2.2.1 ho.2.2.2
      dsimp only at hf
      refine Ev.mk' (K + K1) fun k hk => ?_
      have ih : spec_IsAnswer.l0 k l l (l.length : Int) ((i : Int) + 1) s n = _ := ih k (by omega)
      simp only [spec_IsAnswer.l0, okI, fitAll, hf k (by omega), obind]
      rw [if_pos (by omega), if_pos (by omega), if_pos (by omega), if_neg c, wrap_id (n := (i : Int) + 1) (by omega) (by omega), ih, decide_eq_true (show (rd_Rule l i).f0 ≤ 10 by omega), Bool.true_and]
      cases fitD s (rd_Rule l i).f0 (rd_Rule l i).f1 0 s.size with
      | false => simp
      | true =>
        rw [if_pos rfl, Bool.true_and]
        by_cases c2 : i = 0
        · rw [if_neg (by omega), decide_eq_true c2]; simp
        · rw [if_pos (by omega), wrap_id (by omega) (by omega), if_pos (by omega), if_pos (by omega), pzLess_ok, obind, decide_eq_false c2, Bool.false_or]
          cases lessR (rd_Rule l ((i : Int) - 1)) (rd_Rule l i) <;> simp
def ansVal (s : ByteArray) (n : Int) (l : List SRule) : Bool × Bool := if (goodP s n && goodRules l) = true then (okI l 0 l.length && (decide ((l.length : Int) = n) && agD s l 0 s.size), true) else (false, false)
theorem IsAnswer_main (s : ByteArray) (n : Int) (l : List SRule) : Ev (fun k => spec_IsAnswer.f k s n l) (ansVal s n l) ∧ Ev (fun k => impl_IsAnswer.f k s n l) (ansVal s n l) := by
  obtain ⟨K1, h1⟩ := pzGood_ev s n
  obtain ⟨K2, h2⟩ := siGood_ev l
  dsimp only at h1 h2
  unfold ansVal
  by_cases hg : goodP s n = true
  · by_cases hr : goodRules l = true
    · rw [if_pos (by rw [hg, hr]; rfl)]
      have hz : s.size ≤ 48 := by have := hg; unfold goodP at this; simp only [Bool.and_eq_true, decide_eq_true_eq] at this; exact this.2.1
      have hs := good_sign hg
      have hm := (good_all hr).1
      have hl := (good_all hr).2
      obtain ⟨K3, h3⟩ := implAns_l0 s n l hm _ (agrees_l0 s hs hz l hl s.size 0 (by omega)) l.length 0 (by omega)
      obtain ⟨K4, h4⟩ := specAns_l0 s hs hz n l hm hl _ (pzCovers_l0 s hs hz l hm hl s.size 0 (by omega)) l.length 0 (by omega)
      have h3 : ∀ k, K3 ≤ k → impl_IsAnswer.l0 k l l (l.length : Int) 0 s n = _ := h3
      have h4 : ∀ k, K4 ≤ k → spec_IsAnswer.l0 k l l (l.length : Int) 0 s n = _ := h4
      have ef : fitAll s l 0 l.length = l.all (fun r => fitD s r.f0 r.f1 0 s.size) := by have := fitAll_eq s l l.length 0 (by omega); rwa [List.drop_zero] at this
      have ea := agD_eq s hs l s.size 0 (by omega)
      constructor
      · refine Ev.mk' (K1 + K2 + K4) fun k hk => ?_
        simp (disch := omega) only [spec_IsAnswer.f, h1, h2, obind, hg, hr, if_true, Bool.not_true]
        simp (disch := omega) only [spec_IsAnswer.j0, h4, Bool.false_eq_true, if_false]
        rw [ea, ← ef]
        by_cases c : (l.length : Int) = n
        · rw [if_pos c, decide_eq_true c, Bool.true_and, Bool.and_assoc]
        · rw [if_neg c, decide_eq_false c]; simp
      · refine Ev.mk' (K1 + K2 + K3) fun k hk => ?_
        simp (disch := omega) only [impl_IsAnswer.f, isPuzzle_ok, areRules_ok, obind, hg, hr, if_true, Bool.not_true]
        simp (disch := omega) only [impl_IsAnswer.j0, h3, Bool.false_eq_true, if_false]
    · have hf := Bool.eq_false_iff.2 hr
      rw [if_neg (by rw [hf]; simp)]
      constructor
      · refine Ev.mk' (K1 + K2) fun k hk => ?_
        simp (disch := omega) only [spec_IsAnswer.f, h1, h2, obind, hg, hf, if_true, Bool.not_false]
        simp (disch := omega) only [spec_IsAnswer.j0, if_true]
      · refine Ev.mk' 0 fun k hk => ?_
        simp (disch := omega) only [impl_IsAnswer.f, isPuzzle_ok, areRules_ok, obind, hg, hf, if_true, Bool.not_false]
        simp (disch := omega) only [impl_IsAnswer.j0, if_true]
  · have hf := Bool.eq_false_iff.2 hg
    rw [if_neg (by rw [hf]; simp)]
    constructor
    · refine Ev.mk' K1 fun k hk => ?_
      simp (disch := omega) only [spec_IsAnswer.f, h1, obind, hf, Bool.false_eq_true, if_false]
      simp (disch := omega) only [spec_IsAnswer.j0, if_true]
    · refine Ev.mk' 0 fun k hk => ?_
      simp (disch := omega) only [impl_IsAnswer.f, isPuzzle_ok, obind, hf, Bool.false_eq_true, if_false]
      simp (disch := omega) only [impl_IsAnswer.j0, if_true]
end Go.Proofs.YtjekkcjlfgfnkaaDoor.P
namespace Go.Proofs.YtjekkcjlfgfnkaaDoor.P
open Go.RowKit Go.Proofs.YtjekkcjlfgfnkaaDoorW.PrintWords Go.Proofs.YtjekkcjlfgfnkaaDoorW.PrintLast
set_option linter.unusedVariables false
set_option linter.unusedSimpArgs false
theorem szRuleS_ok2 (l : List SLRule) (hm : l.length ≤ 9223372036854775807) (m : Int) (h0 : 0 ≤ m) (h1 : m ≤ 1048576) : laws_szRuleS.f l m = some (if (l.length : Int) ≤ m then m - (l.length : Int) else -1) := by
  unfold laws_szRuleS.f
  rw [wrap_id (by omega) (by omega)]
  by_cases h : (l.length : Int) ≤ m
  · rw [if_neg (by omega), if_pos h]
  · rw [if_pos (by omega), if_neg h]
theorem FnExactIsAnswer : laws_FnExactIsAnswer.Pure := by
  intro s n l hs w hl
  by_cases h : s.size ≤ 1048576
  · have n0 : ¬ (1048576 - (s.size : Int) < 0) := by omega
    have z := szRuleS_ok2 l hl (1048576 - (s.size : Int)) (by omega) (by omega)
    by_cases h2 : (l.length : Int) ≤ 1048576 - (s.size : Int)
    · obtain ⟨K1, h1⟩ := toRuleS_ev l (by omega)
      obtain ⟨K2, h3⟩ := eqRuleS_ev (l.map cvRule) (by simp; omega)
      obtain ⟨⟨K3, h4⟩, ⟨K4, h5⟩⟩ := IsAnswer_main s n (l.map cvRule)
      dsimp only at h1 h3 h4 h5
      have n1 : ¬ (1048576 - (s.size : Int) - (l.length : Int) < 0) := by omega
      rw [if_pos h2] at z
      refine ⟨K1 + K2 + K3 + K4 + 3, ?_⟩
      simp (disch := omega) only [laws_FnExactIsAnswer.f, szPuzzle_ok s n hs, if_pos h, obind, if_neg n0, z, if_neg n1, laws_toPuzzle.f, h1, h4, h5, bne_self_eq_false, Bool.false_eq_true, if_false, if_true]
      simp (disch := omega) only [laws_FnExactIsAnswer.j0, obind, h1, h3, Bool.false_eq_true, if_false, if_true]
    · rw [if_neg h2] at z
      refine ⟨0, ?_⟩
      simp only [laws_FnExactIsAnswer.f, szPuzzle_ok s n hs, if_pos h, obind, if_neg n0, z]
      simp
  · refine ⟨0, ?_⟩
    simp only [laws_FnExactIsAnswer.f, szPuzzle_ok s n hs, if_neg h, obind]
    simp
end Go.Proofs.YtjekkcjlfgfnkaaDoor.P
