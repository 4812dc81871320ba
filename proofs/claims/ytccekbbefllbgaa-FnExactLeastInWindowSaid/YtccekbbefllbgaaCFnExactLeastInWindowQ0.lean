/- The plain laws on what the functions answer; the last one: the law FnExactLeastInWindow answers true for all arguments. Proved in this text: its theorems. Conditions: as each theorem states them. -/
import Derived.Test.YtccekbbefllbgaaCFnExactLeastInWindowP
import Derived.Test.YtccekbbefllbgaaCFnExactLeastInWindowF0
import Derived.Test.YtccekbbefllbgaaCFnExactLeastInWindowF1
import Derived.Deep.Slices
import Derived.Deep.Fields
import Derived.ChangeSame
import Derived.ChangeSlices
import Derived.Lib.SmallJoins
import Derived.ProofKit
import Derived.OpenShut
import Derived.ShutString
import Derived.ChangeOld
import Derived.SizedLaws
namespace Go.Proofs.Ytccekbbefllbgaa.P
open Go.RowKit Go.Proofs.YtccekbbefllbgaaW.PrintWords Go.Proofs.YtccekbbefllbgaaW.PrintLast
set_option linter.unusedVariables false
set_option linter.unusedSimpArgs false
section
open Go.ChangeShapes Go.WideShapes Go.Deep Go.ChangeAt
variable {H : Type} {enc : TypeId × Value → H} {P : Program} {w : World} {base : Nat} {spare : Nat → Bool} {held : Bool}
theorem open_pairs {t e : TypeId} {f0 f1 : Field} {fuel : Nat} {v : Value} {x : DataW H × List MemPlace} (ht : P.underlying t = some (.slice e)) (he : P.underlying e = some (.struct #[f0, f1]))
    (hone : oneCellFields P #[f0, f1] = true) (hC : P.cellsOf e = 2) (h0 : P.underlying f0.type = some (.int .i64)) (h1 : P.underlying f1.type = some (.int .i64)) (h : DataW.trod enc P w base spare held fuel t [v] = some x) :
    ∃ (a : Option Addr) (len cap : Nat) (l : List (Int × Int)), v = .slice a len cap ∧ len = l.length ∧ len ≤ cap ∧ l.length ≤ 9223372036854775807 ∧ (∀ p ∈ l, (Lit.int .i64 p.1).wf = true ∧ (Lit.int .i64 p.2).wf = true) ∧
      (0 < l.length → ∃ ad, a = some ad ∧ ∀ j p, l[j]? = some p → w.cell? (ad.add (j * 2)) = some (.int .i64 p.1) ∧ w.cell? (ad.add (j * 2 + 1)) = some (.int .i64 p.2)) := by
  rcases open_slice ht h with ⟨hcs, -⟩ | ⟨a, len, cap, m, n, D, Pl, hcs, hb, hl, hm, hmm, hx, hi⟩
  · simp at hcs
    exact ⟨none, 0, 0, [], hcs, rfl, Nat.le_refl _, by simp, by simp, by simp⟩
  · simp at hcs
    have hlm : len ≤ m := by rw [hmm]; split <;> omega
    have hget : ∀ i, i < len → ∃ p : Int × Int, w.cell? (a.add (i * 2)) = some (.int .i64 p.1) ∧ w.cell? (a.add (i * 2 + 1)) = some (.int .i64 p.2) ∧ (Lit.int .i64 p.1).wf = true ∧ (Lit.int .i64 p.2).wf = true := by
      intro i him
      obtain ⟨cs', hc, ht'⟩ := hi i (by omega)
      rw [hC] at hc
      obtain ⟨y0, y1, n', hy, -, t0, t1⟩ := trod_struct2 he ht'
      obtain ⟨_, hcl, hat⟩ := World.cells?_some hc
      obtain ⟨o0, k0⟩ := hone_of hone 0 f0 rfl
      obtain ⟨o1, k1⟩ := hone_of hone 1 f1 rfl
      have c0 := hat (i := 0) (by omega)
      have c1 := hat (i := 1) (by omega)
      match cs', hcl with
      | [u0, u1], _ =>
        simp only [o0, k0, List.drop_zero, List.take_succ_cons, List.take_zero] at t0
        simp only [o1, k1, List.drop_succ_cons, List.drop_zero, List.take_succ_cons, List.take_zero] at t1
        obtain ⟨z0, e0, -, w0⟩ := DataW.trod_int h0 t0
        obtain ⟨z1, e1, -, w1⟩ := DataW.trod_int h1 t1
        simp at e0 e1
        subst e0 e1
        refine ⟨(z0, z1), ?_, ?_, w0, w1⟩
        · simpa [Go.Deep.add_add] using c0
        · simpa [Go.Deep.add_add] using c1
    let g : Nat → Int × Int := fun i => if hi : i < len then (hget i hi).choose else (0, 0)
    have hg : ∀ i, i < len → w.cell? (a.add (i * 2)) = some (.int .i64 (g i).1) ∧ w.cell? (a.add (i * 2 + 1)) = some (.int .i64 (g i).2) ∧ (Lit.int .i64 (g i).1).wf = true ∧ (Lit.int .i64 (g i).2).wf = true := by
      intro i hi
      have := (hget i hi).choose_spec
      simpa [g, hi] using this
    refine ⟨some a, len, cap, (List.range len).map g, hcs, by simp, hl, by simp; unfold maxLen at hm; omega, ?_, ?_⟩
    · intro p hp
      simp at hp
      obtain ⟨i, hi, rfl⟩ := hp
      exact ⟨(hg i hi).2.2.1, (hg i hi).2.2.2⟩
    · intro _
      refine ⟨a, rfl, fun j p hj => ?_⟩
      simp [List.getElem?_map] at hj
      obtain ⟨i, hij, rfl⟩ := hj
      have hjl : j < len := by
        have := (List.getElem?_eq_some_iff.1 hij).1
        simpa using this
      have : i = j := by
        have := List.getElem?_range hjl
        rw [this] at hij
        simpa using hij.symm
      subst this
      exact ⟨(hg i hjl).1, (hg i hjl).2.1⟩
theorem open_nums {t e : TypeId} {k : IntKind} {fuel : Nat} {v : Value} {x : DataW H × List MemPlace} (ht : P.underlying t = some (.slice e)) (he : P.underlying e = some (.int k)) (hc : P.cellsOf e = 1)
    (h : DataW.trod enc P w base spare held fuel t [v] = some x) :
    ∃ (a : Option Addr) (len cap : Nat) (l : List Int), v = .slice a len cap ∧ len = l.length ∧ len ≤ cap ∧ l.length ≤ 9223372036854775807 ∧ (∀ n ∈ l, (Lit.int k n).wf = true) ∧ (Kd.int k).C w a l.length l := by
  rcases open_ints ht he hc h with ⟨hcs, -⟩ | ⟨a, len, cap, zs, hcs, hb, hl, hm, hz, hx, hcell, hwf⟩
  · simp at hcs
    exact ⟨none, 0, 0, [], hcs, rfl, Nat.le_refl _, by simp, by simp, Kd.C_nil _ _⟩
  · simp at hcs
    have hlz : len ≤ zs.length := by rw [hz]; split <;> omega
    have hlen : (zs.take len).length = len := by simp; omega
    have hmax : (zs.take len).length ≤ 9223372036854775807 := by rw [hlen]; unfold maxLen at hm; omega
    refine ⟨some a, len, cap, zs.take len, hcs, hlen.symm, hl, hmax, fun n hn => hwf n (List.mem_of_mem_take hn), ?_⟩
    refine Kd.C_of_reads (d := (0 : Int)) (h1 := fun _ => rfl) ⟨rfl, hmax, fun hn => ⟨a, rfl, fun i hi => ?_⟩⟩
    rw [hlen] at hi
    rw [hcell i (by omega)]
    congr 2
    simp [List.getD, hi]
end
end Go.Proofs.Ytccekbbefllbgaa.P
namespace Go.Proofs.Ytccekbbefllbgaa.P
open Go.RowKit Go.Proofs.YtccekbbefllbgaaW.PrintWords Go.Proofs.YtccekbbefllbgaaW.PrintLast
set_option linter.unusedVariables false
set_option linter.unusedSimpArgs false
theorem Ev.get {α : Type} {g : Nat → Option α} {r : α} (h : Ev g r) : ∃ K, ∀ k, K ≤ k → g k = some r := h
theorem Ev.mk' {α : Type} {g : Nat → Option α} {r : α} (K : Nat) (h : ∀ k, K ≤ k → g (k + 1) = some r) : Ev g r :=
  ⟨K + 1, fun k hk => by obtain ⟨m, rfl⟩ : ∃ m, k = m + 1 := ⟨k - 1, by omega⟩; exact h m (by omega)⟩
theorem Ev.pos {α : Type} {c : Prop} [Decidable c] {g f : Nat → Option α} {r : α} (hc : c) (h : Ev g r) : Ev (fun k => if c then g k else f k) r := by
  obtain ⟨K, h⟩ := h
  exact ⟨K, fun k hk => by show (if c then g k else f k) = some r; rw [if_pos hc]; exact h k hk⟩
theorem Ev.neg {α : Type} {c : Prop} [Decidable c] {g f : Nat → Option α} {r : α} (hc : ¬ c) (h : Ev f r) : Ev (fun k => if c then g k else f k) r := by
  obtain ⟨K, h⟩ := h
  exact ⟨K, fun k hk => by show (if c then g k else f k) = some r; rw [if_neg hc]; exact h k hk⟩
theorem Ev.let_ {α β : Type} {f : Nat → α → Option β} {a : α} {r : β} (k : Ev (fun n => f n a) r) : Ev (fun n => (some a).bind (f n)) r := k
theorem Ev.some_ {α : Type} {a r : α} (h : a = r) : Ev (fun _ => some a) r := ⟨0, fun _ _ => by rw [h]⟩
theorem Ev.eq_ {α : Type} {g : Nat → Option α} {a r : α} (h : Ev g a) (e : a = r) : Ev g r := e ▸ h
theorem wrap_id {n : Int} (h1 : -9223372036854775808 ≤ n) (h2 : n ≤ 9223372036854775807) : wrap64 n = n := by unfold wrap64; omega
theorem wf_int {n : Int} (h : (Lit.int .i64 n).wf = true) : -9223372036854775808 ≤ n ∧ n ≤ 9223372036854775807 := by
  unfold Lit.wf at h
  simp only [Bool.and_eq_true, decide_eq_true_eq] at h
  exact h
theorem obind {α β : Type} (a : α) (f : α → Option β) : (some a).bind f = f a := id rfl
end Go.Proofs.Ytccekbbefllbgaa.P
namespace Go.Proofs.Ytccekbbefllbgaa.P
open Go.RowKit Go.Proofs.YtccekbbefllbgaaW.PrintWords Go.Proofs.YtccekbbefllbgaaW.PrintLast
set_option linter.unusedVariables false
set_option linter.unusedSimpArgs false
def left (l : List SRule) (n : Int) : Bool := !(l.any (crosses n))
def goodRules (l : List SRule) : Bool := decide (l.length ≤ 12) && l.all okRule
theorem okRule_iff (x : SRule) : okRule x = true ↔ 2 ≤ x.f0 ∧ x.f0 ≤ 60 ∧ 0 ≤ x.f1 ∧ x.f1 < x.f0 := by
  unfold okRule; simp
theorem l1In_ok (a b c : Int) : spec_l1In.f a b c = some (decide (b ≤ a) && decide (a ≤ c)) := by
  unfold spec_l1In.f
  by_cases h : b ≤ a <;> simp [h]
theorem siRule_ok (x : SRule) : spec_siRule.f x.f0 x.f1 = some (okRule x) := by
  unfold spec_siRule.f okRule
  simp only [l1In_ok, Option.bind_some]
  by_cases h1 : 2 ≤ x.f0
  · by_cases h2 : x.f0 ≤ 60
    · have : wrap64 (x.f0 - 1) = x.f0 - 1 := wrap_id (by omega) (by omega)
      rw [this]
      by_cases h3 : 0 ≤ x.f1
      · simp [h1, h2, h3]; omega
      · simp [h1, h2, h3]
    · simp [h1, h2]
  · simp [h1]
theorem rd_drop (l : List SRule) (k : Nat) (h : k < l.length) : l.drop k = rd_Rule l k :: l.drop (k + 1) := drop_rd l k h
theorem siGood_l0 (l : List SRule) (hm : l.length ≤ 12) : ∀ d i : Nat, i + d = l.length → Ev (fun k => spec_siGood.l0 k l l.length i) ((l.drop i).all okRule)
  | 0, i, h => Ev.mk' 0 fun k _ => by
    simp only [spec_siGood.l0]
    rw [if_neg (by omega), List.drop_eq_nil_of_le (by omega)]; rfl
  | d + 1, i, h => by
    obtain ⟨K, ih⟩ := siGood_l0 l hm d (i + 1) (by omega)
    dsimp only at ih
    refine Ev.mk' K fun k hk => ?_
    simp only [spec_siGood.l0]
    rw [if_pos (by omega), if_pos (by omega), if_pos (by omega), siRule_ok, rd_drop l i (by omega), List.all_cons, Option.bind_some]
    rw [show wrap64 ((i : Int) + 1) = ((i + 1 : Nat) : Int) from wrap_id (by omega) (by omega), ih k hk]
    cases okRule (rd_Rule l i) <;> simp
theorem siGood_ev (l : List SRule) : Ev (fun k => spec_siGood.f k l) (goodRules l) := by
  unfold goodRules
  by_cases h : l.length ≤ 12
  · obtain ⟨K, ih⟩ := siGood_l0 l h l.length 0 (by omega)
    refine ⟨K, fun k hk => ?_⟩
    simp only [spec_siGood.f]
    rw [if_neg (by omega)]
    simpa [h] using ih k hk
  · refine ⟨0, fun k _ => ?_⟩
    simp only [spec_siGood.f]
    rw [if_pos (by omega)]
    simp [h]
theorem areRules_ok (l : List SRule) : impl_areRules.f l = some (goodRules l) := rfl
theorem good_all {l : List SRule} (h : goodRules l = true) : l.length ≤ 12 ∧ l.all okRule = true := by
  unfold goodRules at h
  simpa using h
theorem siRest_ok (n : Int) (x : SRule) (h : okRule x = true) : spec_siRest.f n x.f0 = some (n % x.f0) := by
  have := mod_ok n x.f0 ((okRule_iff x).1 h).1 ((okRule_iff x).1 h).2.1
  exact this
theorem siFirst_l0 (n : Int) (l : List SRule) (hm : l.length ≤ 9223372036854775807) (hl : l.all okRule = true) : ∀ d i : Nat, i + d = l.length → Ev (fun k => spec_siFirst.l0 k n l l.length i) (firstIx (crosses n) (l.drop i) i)
  | 0, i, h => Ev.mk' 0 fun k _ => by
    simp only [spec_siFirst.l0]
    rw [if_neg (by omega), List.drop_eq_nil_of_le (by omega)]; rfl
  | d + 1, i, h => by
    obtain ⟨K, ih⟩ := siFirst_l0 n l hm hl d (i + 1) (by omega)
    dsimp only at ih
    refine Ev.mk' K fun k hk => ?_
    simp only [spec_siFirst.l0]
    rw [if_pos (by omega), if_pos (by omega), if_pos (by omega), siRest_ok n _ (List.all_eq_true.mp hl _ (rd_mem l i (by omega))), rd_drop l i (by omega), Option.bind_some]
    rw [show wrap64 ((i : Int) + 1) = ((i + 1 : Nat) : Int) from wrap_id (by omega) (by omega), ih k hk]
    rw [firstIx]
    by_cases hc : n % (rd_Rule l i).f0 = (rd_Rule l i).f1
    · rw [if_pos hc, if_pos (by simp [crosses, hc])]
    · rw [if_neg hc, if_neg (by simp [crosses, hc])]; rfl
theorem siFirst_ev (n : Int) (l : List SRule) (hm : l.length ≤ 9223372036854775807) (hl : l.all okRule = true) : Ev (fun k => spec_siFirst.f k l n) (firstIx (crosses n) l 0) :=
  siFirst_l0 n l hm hl l.length 0 (by omega)
theorem first_left (n : Int) (l : List SRule) : decide (firstIx (crosses n) l 0 < 0) = left l n := by
  have h := firstIx_any (crosses n) l 0 (by omega)
  unfold left
  rw [← h]
  by_cases hc : 0 ≤ firstIx (crosses n) l 0
  · simp [hc, Int.not_lt.mpr hc]
  · simp [hc, Int.not_le.mp hc]
theorem siLeft_ev (n : Int) (l : List SRule) (hm : l.length ≤ 9223372036854775807) (hl : l.all okRule = true) : Ev (fun k => spec_siLeft.f k l n) (left l n) := by
  obtain ⟨K, h⟩ := siFirst_ev n l hm hl
  refine ⟨K, fun k hk => ?_⟩
  simp only [spec_siLeft.f, h k hk, Option.bind_some, first_left]
theorem isLeft_ok (n : Int) (l : List SRule) (hl : l.all okRule = true) : impl_isLeft.f l n = some (left l n) := by
  simp only [impl_isLeft.f, impl_firstRule.f, if_pos hl, Option.bind_some, first_left]
end Go.Proofs.Ytccekbbefllbgaa.P
namespace Go.Proofs.Ytccekbbefllbgaa.P
open Go.RowKit Go.Proofs.YtccekbbefllbgaaW.PrintWords Go.Proofs.YtccekbbefllbgaaW.PrintLast
set_option linter.unusedVariables false
set_option linter.unusedSimpArgs false
def cvRule (p : SLRule) : SRule := ⟨p.f0, p.f1⟩
theorem rdL_drop (l : List SLRule) (k : Nat) (h : k < l.length) : l.drop k = rd_LRule l k :: l.drop (k + 1) := by
  rw [List.drop_eq_getElem_cons h]
  simp [rd_LRule, List.getD, h]
theorem take_set {α : Type} (l : List α) (i : Nat) (v : α) (h : i < l.length) : (l.set i v).take (i + 1) = l.take i ++ [v] := by
  rw [List.take_succ_eq_append_getElem (by simpa using h)]
  simp only [List.take_set, List.getElem_set_self]
  rw [List.set_eq_of_length_le (by simp; omega)]
theorem toRuleS_l0 (l : List SLRule) (hm : l.length ≤ 17592186044416) : ∀ (d i : Nat) (x : List SRule), i + d = l.length → x.length = l.length → Ev (fun k => laws_toRuleS.l0 k l x i) (x.take i ++ (l.drop i).map cvRule)
  | 0, i, x, h, hx => Ev.mk' 0 fun k _ => by
    simp only [laws_toRuleS.l0]
    rw [if_neg (by omega), List.drop_eq_nil_of_le (by omega), List.take_of_length_le (by omega)]; simp
  | d + 1, i, x, h, hx => by
    obtain ⟨K, ih⟩ := toRuleS_l0 l hm d (i + 1) (x.set i (cvRule (rd_LRule l i))) (by omega) (by simpa using hx)
    dsimp only at ih
    refine Ev.mk' K fun k hk => ?_
    simp only [laws_toRuleS.l0, laws_toRule.f, Option.bind_some]
    rw [if_pos (by omega), if_pos (by omega), if_pos (by omega)]
    rw [show wrap64 ((i : Int) + 1) = ((i + 1 : Nat) : Int) from wrap_id (by omega) (by omega)]
    have := ih k hk
    rw [take_set x i _ (by omega)] at this
    rw [rdL_drop l i (by omega), List.map_cons]
    simpa [cvRule] using this
theorem toRuleS_ev (l : List SLRule) (hm : l.length ≤ 17592186044416) : Ev (fun k => laws_toRuleS.f k l) (l.map cvRule) := by
  obtain ⟨K, ih⟩ := toRuleS_l0 l hm l.length 0 (List.replicate l.length zRule) (by omega) (by simp)
  dsimp only at ih
  refine ⟨K, fun k hk => ?_⟩
  simp only [laws_toRuleS.f]
  rw [if_pos (by omega), if_pos (by simpa using hm)]
  simpa using ih k hk
theorem eqRule_self (x : SRule) : laws_eqRule.f x.f0 x.f1 x.f0 x.f1 = some true := by simp [laws_eqRule.f]
theorem eqRuleS_l0 (l : List SRule) (hm : l.length ≤ 17592186044416) : ∀ (d i : Nat), i + d = l.length → Ev (fun k => laws_eqRuleS.l0 k l l i) true
  | 0, i, h => Ev.mk' 0 fun k _ => by
    simp only [laws_eqRuleS.l0]
    rw [if_neg (by omega)]
  | d + 1, i, h => by
    obtain ⟨K, ih⟩ := eqRuleS_l0 l hm d (i + 1) (by omega)
    dsimp only at ih
    refine Ev.mk' K fun k hk => ?_
    simp only [laws_eqRuleS.l0]
    rw [if_pos (by omega), if_pos (by omega), if_pos (by omega), eqRule_self]
    rw [show wrap64 ((i : Int) + 1) = ((i + 1 : Nat) : Int) from wrap_id (by omega) (by omega)]
    simpa using ih k hk
theorem eqRuleS_ev (l : List SRule) (hm : l.length ≤ 17592186044416) : Ev (fun k => laws_eqRuleS.f k l l) true := by
  obtain ⟨K, ih⟩ := eqRuleS_l0 l hm l.length 0 (by omega)
  refine ⟨K, fun k hk => ?_⟩
  simp only [laws_eqRuleS.f]
  rw [if_pos trivial]
  exact ih k hk
theorem szRuleS_ok (l : List SLRule) (hm : l.length ≤ 9223372036854775807) : laws_szRuleS.f l 1048576 = some (if l.length ≤ 1048576 then 1048576 - (l.length : Int) else -1) := by
  unfold laws_szRuleS.f
  have : wrap64 (1048576 - (l.length : Int)) = 1048576 - (l.length : Int) := wrap_id (by omega) (by omega)
  rw [this]
  by_cases h : l.length ≤ 1048576
  · rw [if_neg (by omega), if_pos h]
  · rw [if_pos (by omega), if_neg h]
end Go.Proofs.Ytccekbbefllbgaa.P
namespace Go.Proofs.Ytccekbbefllbgaa.P
open Go.RowKit Go.Proofs.YtccekbbefllbgaaW.PrintWords Go.Proofs.YtccekbbefllbgaaW.PrintLast
set_option linter.unusedVariables false
set_option linter.unusedSimpArgs false
def lefts (l : List SRule) (i : Int) : Nat → List Int
  | 0 => []
  | m + 1 => (if left l i = true then [i] else []) ++ lefts l (i + 1) m
theorem lefts_length (l : List SRule) (m : Nat) : ∀ i, (lefts l i m).length ≤ m := by
  induction m with
  | zero => intro i; simp [lefts]
  | succ m ih =>
    intro i
    have := ih (i + 1)
    simp only [lefts, List.length_append]
    split <;> simp <;> omega
theorem leftBetween_l0 (l : List SRule) (hl : l.all okRule = true) (hi : Int) (h2 : hi ≤ 4611686018427387904) : ∀ (m : Nat) (i : Int) (acc : List Int), i + m = hi + 1 → -4611686018427387904 ≤ i → acc.length + m < 17592186044416 → Ev (fun k => impl_leftBetween.l0 k l hi acc i) (acc ++ lefts l i m)
  | 0, i, acc, h, h0, h1 => Ev.mk' 0 fun k _ => by
    simp only [impl_leftBetween.l0]
    rw [if_neg (by omega)]; simp [lefts]
  | m + 1, i, acc, h, h0, h1 => by
    simp only [lefts]
    by_cases hc : left l i = true
    · obtain ⟨K, ih⟩ := leftBetween_l0 l hl hi h2 m (i + 1) (acc ++ [i]) (by omega) (by omega) (by simp; omega)
      dsimp only at ih
      refine Ev.mk' K fun k hk => ?_
      simp only [impl_leftBetween.l0, isLeft_ok i l hl, Option.bind_some]
      rw [if_pos (by omega), if_pos hc, if_pos (by omega), wrap_id (by omega) (by omega), ih k hk, if_pos hc]
      simp
    · obtain ⟨K, ih⟩ := leftBetween_l0 l hl hi h2 m (i + 1) acc (by omega) (by omega) (by omega)
      dsimp only at ih
      refine Ev.mk' K fun k hk => ?_
      simp only [impl_leftBetween.l0, isLeft_ok i l hl, Option.bind_some]
      rw [if_pos (by omega), if_neg hc, wrap_id (by omega) (by omega), ih k hk, if_neg hc]
      simp
def leftsTo (l : List SRule) (lo hi : Int) : List Int := lefts l lo (hi + 1 - lo).toNat
theorem leftBetween_ev (l : List SRule) (hl : l.all okRule = true) (lo hi : Int) (h0 : -4611686018427387904 ≤ lo) (h2 : hi ≤ 4611686018427387904) (h1 : hi - lo < 17592186044415) : Ev (fun k => impl_leftBetween.f k l lo hi) (leftsTo l lo hi) := by
  unfold leftsTo
  by_cases h : lo ≤ hi + 1
  · obtain ⟨K, ih⟩ := leftBetween_l0 l hl hi h2 (hi + 1 - lo).toNat lo [] (by omega) h0 (by simp; omega)
    refine ⟨K, fun k hk => ?_⟩
    simp only [impl_leftBetween.f]
    simpa using ih k hk
  · refine Ev.mk' 0 fun k _ => ?_
    simp only [impl_leftBetween.f, impl_leftBetween.l0]
    rw [if_neg (by omega), show (hi + 1 - lo).toNat = 0 by omega]; rfl
end Go.Proofs.Ytccekbbefllbgaa.P
namespace Go.Proofs.Ytccekbbefllbgaa.P
open Go.RowKit Go.Proofs.YtccekbbefllbgaaW.PrintWords Go.Proofs.YtccekbbefllbgaaW.PrintLast
set_option linter.unusedVariables false
set_option linter.unusedSimpArgs false
theorem rd_dropG (l : List Int) (k : Nat) (h : k < l.length) : l.drop k = rd l k :: l.drop (k + 1) := by
  rw [List.drop_eq_getElem_cons h]
  simp [rd, List.getD, h]
def dif : Int → List Int → List Int
  | _, [] => []
  | a, b :: t => wrap64 (b - a) :: dif b t
def frm : Int → List Int → List Int
  | _, [] => []
  | a, b :: t => a :: frm b t
theorem dif_length : ∀ (l : List Int) (a : Int), (dif a l).length = l.length
  | [], _ => rfl
  | b :: t, a => by simp [dif, dif_length t b]
theorem frm_length : ∀ (l : List Int) (a : Int), (frm a l).length = l.length
  | [], _ => rfl
  | b :: t, a => by simp [frm, frm_length t b]
def gapsL (l : List Int) : List Int := dif (rd l 0) (l.drop 1)
def fromL (l : List Int) : List Int := frm (rd l 0) (l.drop 1)
theorem gapsL_length (l : List Int) : (gapsL l).length = l.length - 1 := by simp [gapsL, dif_length]
theorem fromL_length (l : List Int) : (fromL l).length = l.length - 1 := by simp [fromL, frm_length]
theorem gapsOf_l0 (l : List Int) (hm : l.length < 17592186044416) : ∀ (d i : Nat) (a b : List Int), i + 1 + d = l.length → a.length ≤ i → b.length ≤ i → Ev (fun k => impl_gapsOf.l0 k l a b ((i + 1 : Nat) : Int)) (a ++ frm (rd l i) (l.drop (i + 1)), b ++ dif (rd l i) (l.drop (i + 1)))
  | 0, i, a, b, h, ha, hb => Ev.mk' 0 fun k _ => by
    simp only [impl_gapsOf.l0]
    rw [if_neg (by omega), List.drop_eq_nil_of_le (by omega)]; simp [frm, dif]
  | d + 1, i, a, b, h, ha, hb => by
    obtain ⟨K, ih⟩ := gapsOf_l0 l hm d (i + 1) (a ++ [rd l i]) (b ++ [wrap64 (rd l ((i + 1 : Nat) : Int) - rd l i)]) (by omega) (by simp; omega) (by simp; omega)
    dsimp only at ih
    refine Ev.mk' K fun k hk => ?_
    simp only [impl_gapsOf.l0]
    rw [show wrap64 (((i + 1 : Nat) : Int) - 1) = (i : Int) by rw [wrap_id (by omega) (by omega)]; omega]
    rw [if_pos (by omega), if_pos (by omega), if_pos (by omega), if_pos (by omega), if_pos (by omega), if_pos (by omega)]
    rw [show wrap64 (((i + 1 : Nat) : Int) + 1) = ((i + 1 + 1 : Nat) : Int) from wrap_id (by omega) (by omega), ih k hk]
    rw [rd_dropG l (i + 1) (by omega), frm, dif]
    simp
theorem gapsOf_ev (l : List Int) (hm : l.length < 17592186044416) : Ev (fun k => impl_gapsOf.f k l) (fromL l, gapsL l) := by
  cases l with
  | nil =>
    refine Ev.mk' 0 fun k _ => ?_
    simp only [impl_gapsOf.f, impl_gapsOf.l0]
    rw [if_neg (by simp)]; rfl
  | cons x t =>
    obtain ⟨K, ih⟩ := gapsOf_l0 (x :: t) hm t.length 0 [] [] (by simp; omega) (by simp) (by simp)
    exact ⟨K, fun k hk => ih k hk⟩
end Go.Proofs.Ytccekbbefllbgaa.P
namespace Go.Proofs.Ytccekbbefllbgaa.P
open Go.RowKit Go.Proofs.YtccekbbefllbgaaW.PrintWords Go.Proofs.YtccekbbefllbgaaW.PrintLast
set_option linter.unusedVariables false
set_option linter.unusedSimpArgs false
theorem gcd_l0 : ∀ (n m : Nat), Ev (fun k => impl_gcd.l0 k (m : Int) (n : Int)) ((Nat.gcd m n : Nat) : Int) := by
  intro n
  induction n using Nat.strongRecOn with
  | _ n ih =>
    intro m
    by_cases h : n = 0
    · subst h
      refine Ev.mk' 0 fun k _ => ?_
      simp only [impl_gcd.l0]
      rw [if_neg (by omega)]; simp
    · obtain ⟨K, h2⟩ := ih (m % n) (Nat.mod_lt _ (by omega)) n
      dsimp only at h2
      refine Ev.mk' K fun k hk => ?_
      simp only [impl_gcd.l0]
      rw [if_pos (by omega), if_neg (by omega), show Int.tmod (m : Int) (n : Int) = ((m % n : Nat) : Int) from rfl, h2 k hk]
      rw [Nat.gcd_comm m n, Nat.gcd_rec n m, Nat.gcd_comm]
theorem siCommon_l0 : ∀ (k : Nat) (a b : Int), spec_siCommon.l0 k a b = impl_gcd.l0 k a b
  | 0, _, _ => rfl
  | k + 1, a, b => by simp only [spec_siCommon.l0, impl_gcd.l0, siCommon_l0 k]
def perN : Nat → List SRule → Option Nat
  | p, [] => some p
  | p, x :: t => if Nat.lcm p x.f0.toNat > 100000 then none else perN (Nat.lcm p x.f0.toNat) t
theorem lcm_step (p e : Nat) : p / Nat.gcd p e * e = Nat.lcm p e := by
  rw [Nat.lcm, Nat.mul_comm p e, Nat.mul_div_assoc _ (Nat.gcd_dvd_left p e), Nat.mul_comm]
theorem lcm_pos' {p e : Nat} (h : 0 < p) (h2 : 0 < e) : 0 < Nat.lcm p e := Nat.lcm_pos h h2
theorem step_val (p : Nat) (e : Int) (hp : 0 < p) (hp2 : p ≤ 100000) (h1 : 2 ≤ e) (h2 : e ≤ 60) :
    wrap64 (wrap64 (Int.tdiv (p : Int) ((Nat.gcd p e.toNat : Nat) : Int)) * e) = ((Nat.lcm p e.toNat : Nat) : Int) := by
  have hd : Int.tdiv (p : Int) ((Nat.gcd p e.toNat : Nat) : Int) = ((p / Nat.gcd p e.toNat : Nat) : Int) := rfl
  have hq : p / Nat.gcd p e.toNat ≤ 100000 := Nat.le_trans (Nat.div_le_self _ _) hp2
  rw [hd, show wrap64 ((p / Nat.gcd p e.toNat : Nat) : Int) = ((p / Nat.gcd p e.toNat : Nat) : Int) from by generalize p / Nat.gcd p e.toNat = q at hq ⊢; exact wrap_id (by omega) (by omega)]
  have hm : ((p / Nat.gcd p e.toNat : Nat) : Int) * e = ((Nat.lcm p e.toNat : Nat) : Int) := by
    rw [← lcm_step p e.toNat, Int.natCast_mul, Int.toNat_of_nonneg (by omega)]
  rw [hm]
  have hl : Nat.lcm p e.toNat ≤ 100000 * 60 := by
    rw [← lcm_step]; exact Nat.mul_le_mul hq (by omega)
  exact wrap_id (by omega) (by omega)
theorem lcmOf_l0 (l : List SRule) (hm : l.length ≤ 12) (hl : l.all okRule = true) : ∀ (d i p : Nat), i + d = l.length → 0 < p → p ≤ 100000 →
    Ev (fun k => impl_lcmOf.l0 k p l l.length i) (match perN p (l.drop i) with | some q => ((q : Int), true) | none => (0, false)) ∧
    Ev (fun k => spec_siPeriod.l0 k p l l.length i) (match perN p (l.drop i) with | some q => (q : Int) | none => 0)
  | 0, i, p, h, h1, h2 => by
    rw [List.drop_eq_nil_of_le (by omega)]
    constructor
    · refine Ev.mk' 0 fun k _ => ?_
      simp only [impl_lcmOf.l0]
      rw [if_neg (by omega)]; rfl
    · refine Ev.mk' 0 fun k _ => ?_
      simp only [spec_siPeriod.l0]
      rw [if_neg (by omega)]; rfl
  | d + 1, i, p, h, h1, h2 => by
    have ho := (okRule_iff _).1 (List.all_eq_true.mp hl _ (rd_mem l i (by omega)))
    have he : ((rd_Rule l i).f0.toNat : Int) = (rd_Rule l i).f0 := Int.toNat_of_nonneg (by omega)
    obtain ⟨Kg, hg⟩ := gcd_l0 (rd_Rule l i).f0.toNat p
    dsimp only at hg
    rw [he] at hg
    have hs := step_val p (rd_Rule l i).f0 h1 h2 ho.1 ho.2.1
    have hg0 : ((Nat.gcd p (rd_Rule l i).f0.toNat : Nat) : Int) ≠ 0 := by
      have := Nat.gcd_pos_of_pos_left (rd_Rule l i).f0.toNat h1
      omega
    have hpos := lcm_pos' (e := (rd_Rule l i).f0.toNat) h1 (by omega)
    rw [rd_drop l i (by omega), perN]
    by_cases hc : Nat.lcm p (rd_Rule l i).f0.toNat > 100000
    · rw [if_pos hc]
      constructor
      · refine Ev.mk' Kg fun k hk => ?_
        simp only [impl_lcmOf.l0, impl_gcd.f, hg k hk, Option.bind_some, hs]
        rw [if_pos (by omega), if_pos (by omega), if_pos (by omega), if_neg hg0, if_pos (by omega)]
      · refine Ev.mk' Kg fun k hk => ?_
        simp only [spec_siPeriod.l0, spec_siCommon.f, siCommon_l0, hg k hk, Option.bind_some, hs]
        rw [if_pos (by omega), if_pos (by omega), if_pos (by omega), if_neg hg0, if_pos (by omega)]
    · rw [if_neg hc]
      obtain ⟨⟨K1, i1⟩, ⟨K2, i2⟩⟩ := lcmOf_l0 l hm hl d (i + 1) (Nat.lcm p (rd_Rule l i).f0.toNat) (by omega) hpos (by omega)
      dsimp only at i1 i2
      constructor
      · refine Ev.mk' (Kg + K1) fun k hk => ?_
        simp only [impl_lcmOf.l0, impl_gcd.f, hg k (by omega), Option.bind_some, hs]
        rw [if_pos (by omega), if_pos (by omega), if_pos (by omega), if_neg hg0, if_neg (by omega), show wrap64 ((i : Int) + 1) = ((i + 1 : Nat) : Int) from wrap_id (by omega) (by omega), i1 k (by omega)]
      · refine Ev.mk' (Kg + K2) fun k hk => ?_
        simp only [spec_siPeriod.l0, spec_siCommon.f, siCommon_l0, hg k (by omega), Option.bind_some, hs]
        rw [if_pos (by omega), if_pos (by omega), if_pos (by omega), if_neg hg0, if_neg (by omega), show wrap64 ((i : Int) + 1) = ((i + 1 : Nat) : Int) from wrap_id (by omega) (by omega), i2 k (by omega)]
theorem perN_pos : ∀ (l : List SRule) (p q : Nat), l.all okRule = true → 0 < p → p ≤ 100000 → perN p l = some q → 0 < q ∧ q ≤ 100000
  | [], p, q, _, h, h2, he => by simp [perN] at he; omega
  | x :: t, p, q, ha, h, h2, he => by
    rw [perN] at he
    simp only [List.all_cons, Bool.and_eq_true] at ha
    have hx := (okRule_iff x).1 ha.1
    split at he
    · simp at he
    · exact perN_pos t _ q ha.2 (lcm_pos' h (by omega)) (by omega) he
def period (l : List SRule) : Option Nat := if goodRules l = true then perN 1 l else none
theorem period_some {l : List SRule} {p : Nat} (h : period l = some p) : goodRules l = true ∧ 0 < p ∧ p ≤ 100000 := by
  unfold period at h
  split at h
  · next hg => exact ⟨hg, perN_pos l 1 p (good_all hg).2 (by omega) (by omega) h⟩
  · simp at h
theorem periodOf_ev (l : List SRule) : Ev (fun k => impl_periodOf.f k l) (match period l with | some q => ((q : Int), true) | none => (0, false)) := by
  unfold period
  by_cases hg : goodRules l = true
  · rw [if_pos hg]
    obtain ⟨⟨K1, i1⟩, -⟩ := lcmOf_l0 l (good_all hg).1 (good_all hg).2 l.length 0 1 (by omega) (by omega) (by omega)
    refine ⟨K1, fun k hk => ?_⟩
    have i1 : impl_lcmOf.l0 k 1 l l.length 0 = _ := i1 k hk
    simp only [impl_periodOf.f, areRules_ok, hg, Option.bind_some, if_true, impl_lcmOf.f, i1, List.drop_zero]
  · rw [if_neg hg]
    refine ⟨0, fun k _ => ?_⟩
    simp only [impl_periodOf.f, areRules_ok, Option.bind_some]
    rw [if_neg hg]
theorem siPeriod_ev (l : List SRule) (hg : goodRules l = true) : Ev (fun k => spec_siPeriod.f k l) (match period l with | some q => (q : Int) | none => 0) := by
  unfold period
  rw [if_pos hg]
  obtain ⟨-, ⟨K1, i1⟩⟩ := lcmOf_l0 l (good_all hg).1 (good_all hg).2 l.length 0 1 (by omega) (by omega) (by omega)
  exact ⟨K1, fun k hk => i1 k hk⟩
end Go.Proofs.Ytccekbbefllbgaa.P
namespace Go.Proofs.Ytccekbbefllbgaa.P
open Go.RowKit Go.Proofs.YtccekbbefllbgaaW.PrintWords Go.Proofs.YtccekbbefllbgaaW.PrintLast
set_option linter.unusedVariables false
set_option linter.unusedSimpArgs false
def perL (l : List SRule) (p : Nat) : List Int := leftsTo l 0 ((p : Int) - 1)
theorem perL_length (l : List SRule) (p : Nat) : (perL l p).length ≤ p := by
  have := lefts_length l ((p : Int) - 1 + 1 - 0).toNat 0
  unfold perL leftsTo
  omega
def perL1 (l : List SRule) (p : Nat) : List Int := perL l p ++ [wrap64 (rd (perL l p) 0 + (p : Int))]
def gpL (l : List SRule) : List Int × Bool := match period l with | some p => (perL l p, decide ((perL l p).length > 0)) | none => ([], false)
theorem decide_len (l : List Int) : decide ((l.length : Int) > 0) = decide (l.length > 0) := by
  rw [Bool.eq_iff_iff]; simp
theorem gpLeft_l0 (l : List SRule) (p : Nat) (hp : period l = some p) : ∀ (m : Nat) (i : Int) (acc : List Int), i + m = p → 0 ≤ i → acc.length + m < 17592186044416 → Ev (fun k => spec_gpLeft.l0 k l acc i) (acc ++ lefts l i m, decide ((acc ++ lefts l i m).length > 0))
  | 0, i, acc, h, h0, h1 => by
    obtain ⟨hg, hp0, hp1⟩ := period_some hp
    obtain ⟨K, hK⟩ := siPeriod_ev l hg
    dsimp only at hK
    rw [hp] at hK
    refine Ev.mk' K fun k hk => ?_
    simp only [spec_gpLeft.l0, hK k hk, Option.bind_some]
    rw [if_neg (by omega), decide_len]; simp [lefts]
  | m + 1, i, acc, h, h0, h1 => by
    obtain ⟨hg, hp0, hp1⟩ := period_some hp
    obtain ⟨K2, hK⟩ := siPeriod_ev l hg
    dsimp only at hK
    rw [hp] at hK
    obtain ⟨K1, h3⟩ := siLeft_ev i l (by have := (good_all hg).1; omega) (good_all hg).2
    dsimp only at h3
    simp only [lefts]
    by_cases hc : left l i = true
    · obtain ⟨K, ih⟩ := gpLeft_l0 l p hp m (i + 1) (acc ++ [i]) (by omega) (by omega) (by simp; omega)
      dsimp only at ih
      refine Ev.mk' (K + K1 + K2) fun k hk => ?_
      simp only [spec_gpLeft.l0, hK k (by omega), h3 k (by omega), Option.bind_some]
      rw [if_pos (by omega), if_pos hc, if_pos (by omega), wrap_id (by omega) (by omega), ih k (by omega)]
      simp [hc]
    · obtain ⟨K, ih⟩ := gpLeft_l0 l p hp m (i + 1) acc (by omega) (by omega) (by omega)
      dsimp only at ih
      refine Ev.mk' (K + K1 + K2) fun k hk => ?_
      simp only [spec_gpLeft.l0, hK k (by omega), h3 k (by omega), Option.bind_some]
      rw [if_pos (by omega), if_neg hc, wrap_id (by omega) (by omega), ih k (by omega)]
      simp [hc]
theorem gpLeft_ev (l : List SRule) : Ev (fun k => spec_gpLeft.f k l) (gpL l) := by
  obtain ⟨K1, h1⟩ := siGood_ev l
  dsimp only at h1
  unfold gpL
  by_cases hg : goodRules l = true
  · obtain ⟨K2, h2⟩ := siPeriod_ev l hg
    dsimp only at h2
    cases hp : period l with
    | none =>
      rw [hp] at h2
      refine Ev.mk' (K1 + K2) fun k hk => ?_
      simp (disch := omega) only [spec_gpLeft.f, h1, h2, hg, Option.bind_some, if_true, spec_gpLeft.j0]
      simp
    | some p =>
      rw [hp] at h2
      obtain ⟨-, hp0, hp1⟩ := period_some hp
      obtain ⟨K3, h3⟩ := gpLeft_l0 l p hp p 0 [] (by omega) (by omega) (by simp; omega)
      dsimp only at h3
      refine Ev.mk' (K1 + K2 + K3) fun k hk => ?_
      have e : (((p : Nat) : Int) == 0) = false := by simp; omega
      simp (disch := omega) only [spec_gpLeft.f, h1, h2, h3, hg, e, Option.bind_some, if_true, spec_gpLeft.j0]
      unfold perL leftsTo
      rw [show ((p : Int) - 1 + 1 - 0).toNat = p by omega]
      simp
  · have hp : period l = none := by unfold period; rw [if_neg hg]
    rw [hp]
    refine Ev.mk' (K1) fun k hk => ?_
    simp (disch := omega) only [spec_gpLeft.f, h1, Option.bind_some, spec_gpLeft.j0]
    rw [if_neg hg]; rfl
theorem frm_snoc (x : Int) : ∀ (t : List Int) (a : Int), frm a (t ++ [x]) = a :: t
  | [], a => rfl
  | b :: t, a => by simp [frm, frm_snoc x t b]
theorem rd_zero_app (l : List Int) (x : Int) (h : l ≠ []) : rd (l ++ [x]) 0 = rd l 0 := by
  cases l with
  | nil => exact absurd rfl h
  | cons y t => simp [rd]
theorem fromL_snoc (l : List Int) (x : Int) (h : l ≠ []) : fromL (l ++ [x]) = l := by
  unfold fromL
  rw [rd_zero_app l x h]
  cases l with
  | nil => exact absurd rfl h
  | cons y t => simp [rd, frm_snoc]
def pgaps (l : List SRule) : List Int × List Int × Bool := match period l with
  | some p => if perL l p = [] then ([], [], false) else (perL l p, gapsL (perL1 l p), true)
  | none => ([], [], false)
theorem periodGaps_ev (l : List SRule) : Ev (fun k => impl_periodGaps.f k l) (pgaps l) := by
  obtain ⟨K1, h1⟩ := periodOf_ev l
  dsimp only at h1
  unfold pgaps
  cases hp : period l with
  | none =>
    rw [hp] at h1
    refine ⟨K1, fun k hk => ?_⟩
    simp (disch := omega) only [impl_periodGaps.f, h1, Option.bind_some]
    simp
  | some p =>
    rw [hp] at h1
    obtain ⟨hg, hp0, hp1⟩ := period_some hp
    have hl := perL_length l p
    obtain ⟨K2, h2⟩ := leftBetween_ev l (good_all hg).2 0 ((p : Int) - 1) (by omega) (by omega) (by omega)
    obtain ⟨K3, h3⟩ := gapsOf_ev (perL1 l p) (by simp [perL1]; omega)
    dsimp only at h2 h3
    refine ⟨K1 + K2 + K3, fun k hk => ?_⟩
    simp (disch := omega) only [impl_periodGaps.f, h1, Option.bind_some, if_true]
    rw [wrap_id (by omega) (by omega), h2 k (by omega), show leftsTo l 0 ((p : Int) - 1) = perL l p from rfl]
    simp only [Option.bind_some]
    by_cases he : perL l p = []
    · rw [if_pos he, if_pos (by rw [he]; rfl)]
    · have : 0 < (perL l p).length := List.length_pos_iff.mpr he
      rw [if_neg he, if_neg (by omega), if_pos (by omega), if_pos (by omega), show perL l p ++ [wrap64 (rd (perL l p) 0 + (p : Int))] = perL1 l p from rfl, h3 k (by omega)]
      simp only [Option.bind_some]
      rw [show fromL (perL1 l p) = perL l p from fromL_snoc _ _ he]
end Go.Proofs.Ytccekbbefllbgaa.P
namespace Go.Proofs.Ytccekbbefllbgaa.P
open Go.RowKit Go.Proofs.YtccekbbefllbgaaW.PrintWords Go.Proofs.YtccekbbefllbgaaW.PrintLast
set_option linter.unusedVariables false
set_option linter.unusedSimpArgs false
theorem rd_app_left (l : List Int) (x : Int) (i : Nat) (h : i < l.length) : rd (l ++ [x]) i = rd l i := by
  unfold rd
  simp only [Int.toNat_natCast, List.getD_eq_getElem?_getD]
  rw [List.getElem?_append_left h]
theorem rd_app_last (l : List Int) (x : Int) : rd (l ++ [x]) (l.length : Int) = x := by
  simp [rd]
theorem gpGaps_l0 (l : List SRule) (L : List Int) (q : Int) (hl : L.length ≤ 100000) (hpos : 0 < L.length) (hper : Ev (fun k => spec_siPeriod.f k l) q) (M : List Int) (hM : M = L ++ [wrap64 (rd L 0 + q)]) : ∀ (d i : Nat) (acc : List Int), i + d = L.length → acc.length ≤ i → Ev (fun k => spec_gpGaps.l0 k l L acc L L.length i) (acc ++ dif (rd M i) (M.drop (i + 1)), L, true)
  | 0, i, acc, h, ha => Ev.mk' 0 fun k _ => by
    have hlen : M.length = L.length + 1 := by rw [hM]; simp
    simp only [spec_gpGaps.l0]
    rw [if_neg (by omega), List.drop_eq_nil_of_le (by omega)]; simp [dif]
  | d + 1, i, acc, h, ha => by
    obtain ⟨K2, hK⟩ := hper
    dsimp only at hK
    have hlen : M.length = L.length + 1 := by rw [hM]; simp
    have hri : rd M (i : Int) = rd L i := by rw [hM]; exact rd_app_left _ _ i (by omega)
    obtain ⟨K, ih⟩ := gpGaps_l0 l L q hl hpos ⟨K2, hK⟩ M hM d (i + 1) (acc ++ [wrap64 (rd M ((i + 1 : Nat) : Int) - rd M i)]) (by omega) (by simp; omega)
    dsimp only at ih
    refine Ev.mk' (K + K2) fun k hk => ?_
    simp only [spec_gpGaps.l0]
    rw [if_pos (by omega), if_pos (by omega), if_pos (by omega), if_pos (by omega), hK k (by omega)]
    simp only [obind]
    rw [show wrap64 ((i : Int) + 1) = ((i + 1 : Nat) : Int) from wrap_id (by omega) (by omega)]
    rw [rd_dropG M (i + 1) (by omega), dif]
    by_cases hc : i + 1 < L.length
    · rw [if_pos (by omega), if_pos (by omega), if_pos (by omega)]
      have e : rd M ((i + 1 : Nat) : Int) = rd L ((i + 1 : Nat) : Int) := by rw [hM]; exact rd_app_left _ _ (i + 1) hc
      rw [← e, ← hri, ih k (by omega)]
      simp
    · rw [if_neg (by omega), if_pos (by omega)]
      have e : rd M ((i + 1 : Nat) : Int) = wrap64 (rd L 0 + q) := by
        rw [hM, show i + 1 = L.length by omega]; exact rd_app_last _ _
      rw [← e, ← hri, ih k (by omega)]
      simp
def gpG (l : List SRule) : List Int × List Int × Bool := ((pgaps l).2.1, (pgaps l).1, (pgaps l).2.2)
theorem gpGaps_ev (l : List SRule) : Ev (fun k => spec_gpGaps.f k l) (gpG l) := by
  obtain ⟨K1, h1⟩ := gpLeft_ev l
  dsimp only at h1
  unfold gpG pgaps
  cases hp : period l with
  | none =>
    refine ⟨K1, fun k hk => ?_⟩
    simp only [spec_gpGaps.f, h1 k hk, gpL, hp, obind]
    simp
  | some p =>
    by_cases he : perL l p = []
    · refine ⟨K1, fun k hk => ?_⟩
      simp only [spec_gpGaps.f, h1 k hk, gpL, hp, obind, he]
      simp
    · have hpos : 0 < (perL l p).length := List.length_pos_iff.mpr he
      obtain ⟨hg, hp0, hp1⟩ := period_some hp
      have hper := siPeriod_ev l hg
      rw [hp] at hper
      have hl := perL_length l p
      obtain ⟨K2, h2⟩ := gpGaps_l0 l (perL l p) p (by omega) hpos hper (perL1 l p) rfl (perL l p).length 0 [] (by omega) (by simp)
      have h2 : ∀ k, K2 ≤ k → spec_gpGaps.l0 k l (perL l p) [] (perL l p) (perL l p).length 0 = _ := h2
      refine ⟨K1 + K2, fun k hk => ?_⟩
      simp (disch := omega) only [spec_gpGaps.f, h1, gpL, hp, obind, h2]
      simp [he, hpos, gapsL]
end Go.Proofs.Ytccekbbefllbgaa.P
namespace Go.Proofs.Ytccekbbefllbgaa.P
open Go.RowKit Go.Proofs.YtccekbbefllbgaaW.PrintWords Go.Proofs.YtccekbbefllbgaaW.PrintLast
set_option linter.unusedVariables false
set_option linter.unusedSimpArgs false
def cntP (l : List SRule) (ap : Int) : List Int → Int
  | [] => 0
  | x :: t => (if left l (wrap64 (x + ap)) = true then 1 else 0) + cntP l ap t
theorem pairs_l0 (l : List SRule) (hm : l.length ≤ 12) (ho : l.all okRule = true) (L : List Int) (hL : L.length ≤ 4611686018427387904) (ap : Int) : ∀ (d i : Nat) (c : Int), i + d = L.length → 0 ≤ c → c ≤ i →
    Ev (fun k => spec_PairsInPeriod.l0 k l ap c L L.length i) (c + cntP l ap (L.drop i), true) ∧ Ev (fun k => impl_PairsInPeriod.l0 k l ap c L L.length i) (c + cntP l ap (L.drop i), true)
  | 0, i, c, h, h0, h1 => by
    rw [List.drop_eq_nil_of_le (by omega)]
    constructor
    · refine Ev.mk' 0 fun k _ => ?_
      simp only [spec_PairsInPeriod.l0]
      rw [if_neg (by omega)]; simp [cntP]
    · refine Ev.mk' 0 fun k _ => ?_
      simp only [impl_PairsInPeriod.l0]
      rw [if_neg (by omega)]; simp [cntP]
  | d + 1, i, c, h, h0, h1 => by
    rw [rd_dropG L i (by omega), cntP]
    obtain ⟨K1, h3⟩ := siLeft_ev (wrap64 (rd L i + ap)) l (by omega) ho
    dsimp only at h3
    have h4 := isLeft_ok (wrap64 (rd L i + ap)) l ho
    by_cases hc : left l (wrap64 (rd L i + ap)) = true
    · obtain ⟨⟨Ks, ihs⟩, ⟨Ki, ihi⟩⟩ := pairs_l0 l hm ho L hL ap d (i + 1) (c + 1) (by omega) (by omega) (by omega)
      dsimp only at ihs ihi
      have e : c + ((1 : Int) + cntP l ap (L.drop (i + 1))) = c + 1 + cntP l ap (L.drop (i + 1)) := by omega
      rw [if_pos hc, e]
      constructor
      · refine Ev.mk' (Ks + K1) fun k hk => ?_
        simp only [spec_PairsInPeriod.l0]
        rw [if_pos (by omega), if_pos (by omega), if_pos (by omega), h3 k (by omega), obind, if_pos hc]
        rw [show wrap64 ((i : Int) + 1) = ((i + 1 : Nat) : Int) from wrap_id (by omega) (by omega), show wrap64 (c + 1) = c + 1 from wrap_id (by omega) (by omega), ihs k (by omega)]
      · refine Ev.mk' Ki fun k hk => ?_
        simp only [impl_PairsInPeriod.l0]
        rw [if_pos (by omega), if_pos (by omega), if_pos (by omega), h4, obind, if_pos hc]
        rw [show wrap64 ((i : Int) + 1) = ((i + 1 : Nat) : Int) from wrap_id (by omega) (by omega), show wrap64 (c + 1) = c + 1 from wrap_id (by omega) (by omega), ihi k (by omega)]
    · obtain ⟨⟨Ks, ihs⟩, ⟨Ki, ihi⟩⟩ := pairs_l0 l hm ho L hL ap d (i + 1) c (by omega) (by omega) (by omega)
      dsimp only at ihs ihi
      have e : c + ((0 : Int) + cntP l ap (L.drop (i + 1))) = c + cntP l ap (L.drop (i + 1)) := by omega
      rw [if_neg hc, e]
      constructor
      · refine Ev.mk' (Ks + K1) fun k hk => ?_
        simp only [spec_PairsInPeriod.l0]
        rw [if_pos (by omega), if_pos (by omega), if_pos (by omega), h3 k (by omega), obind, if_neg hc]
        rw [show wrap64 ((i : Int) + 1) = ((i + 1 : Nat) : Int) from wrap_id (by omega) (by omega), ihs k (by omega)]
      · refine Ev.mk' Ki fun k hk => ?_
        simp only [impl_PairsInPeriod.l0]
        rw [if_pos (by omega), if_pos (by omega), if_pos (by omega), h4, obind, if_neg hc]
        rw [show wrap64 ((i : Int) + 1) = ((i + 1 : Nat) : Int) from wrap_id (by omega) (by omega), ihi k (by omega)]
theorem pgaps_len1 (l : List SRule) : (pgaps l).1.length ≤ 100000 := by
  unfold pgaps
  cases hp : period l with
  | none => simp
  | some p =>
    obtain ⟨hg, hp0, hp1⟩ := period_some hp
    have hl := perL_length l p
    by_cases he : perL l p = []
    · simp [he]
    · simp only [he, if_false]; omega
def vPairs (l : List SRule) (ap : Int) : Int × Bool := if (pgaps l).2.2 = true ∧ 0 ≤ ap ∧ ap ≤ 1000 then (cntP l ap (pgaps l).1, true) else (0, false)
theorem pgaps_good {l : List SRule} (h : (pgaps l).2.2 = true) : goodRules l = true := by
  unfold pgaps at h
  cases hp : period l with
  | none => simp [hp] at h
  | some p => exact (period_some hp).1
theorem gpL_pgaps (l : List SRule) : (gpL l).2 = (pgaps l).2.2 ∧ ((pgaps l).2.2 = true → (gpL l).1 = (pgaps l).1) := by
  unfold gpL pgaps
  cases hp : period l with
  | none => simp
  | some p =>
    by_cases he : perL l p = []
    · simp [he]
    · have : 0 < (perL l p).length := List.length_pos_iff.mpr he
      simp [he, this]
theorem PairsInPeriod_main (l : List SRule) (ap : Int) : Ev (fun k => spec_PairsInPeriod.f k l ap) (vPairs l ap) ∧ Ev (fun k => impl_PairsInPeriod.f k l ap) (vPairs l ap) := by
  obtain ⟨K1, h1⟩ := gpLeft_ev l
  obtain ⟨K2, h2⟩ := periodGaps_ev l
  dsimp only at h1 h2
  have hgp := gpL_pgaps l
  unfold vPairs
  by_cases hg : (pgaps l).2.2 = true
  · have hgo := good_all (pgaps_good hg)
    have hl := pgaps_len1 l
    by_cases ha : 0 ≤ ap ∧ ap ≤ 1000
    · obtain ⟨⟨K3, h3⟩, ⟨K4, h4⟩⟩ := pairs_l0 l hgo.1 hgo.2 (pgaps l).1 (by omega) ap (pgaps l).1.length 0 0 (by omega) (by omega) (by omega)
      have h3 : ∀ k, K3 ≤ k → spec_PairsInPeriod.l0 k l ap 0 (pgaps l).1 (pgaps l).1.length 0 = _ := h3
      have h4 : ∀ k, K4 ≤ k → impl_PairsInPeriod.l0 k l ap 0 (pgaps l).1 (pgaps l).1.length 0 = _ := h4
      rw [List.drop_zero] at h3 h4
      rw [if_pos ⟨hg, ha⟩]
      have c1 : ¬ ap < 0 := by omega
      have c2 : ¬ ap > 1000 := by omega
      constructor
      · refine Ev.mk' (K1 + K3) fun k hk => ?_
        simp (disch := omega) only [spec_PairsInPeriod.f, h1, obind, hgp.1, hg, hgp.2 hg, if_true, l1In_ok, ha.1, ha.2, decide_true, Bool.and_self, Bool.not_true]
        simp (disch := omega) only [spec_PairsInPeriod.j0, h3, Bool.false_eq_true, if_false]
        simp
      · refine Ev.mk' (K2 + K4) fun k hk => ?_
        simp (disch := omega) only [impl_PairsInPeriod.f, h2, obind, hg, if_true, if_neg c1]
        simp (disch := omega) only [impl_PairsInPeriod.j0, c2, decide_false, h4, Bool.false_eq_true, if_false]
        simp
    · rw [if_neg (by simp [hg]; omega)]
      constructor
      · refine Ev.mk' K1 fun k hk => ?_
        simp (disch := omega) only [spec_PairsInPeriod.f, h1, obind, hgp.1, hg, if_true, l1In_ok]
        have : (decide (0 ≤ ap) && decide (ap ≤ 1000)) = false := by simp; omega
        rw [this]
        simp [spec_PairsInPeriod.j0]
      · refine Ev.mk' K2 fun k hk => ?_
        simp (disch := omega) only [impl_PairsInPeriod.f, h2, obind, hg, if_true]
        by_cases c1 : ap < 0
        · simp [c1, impl_PairsInPeriod.j0]
        · have c2 : ap > 1000 := by omega
          simp [c1, c2, impl_PairsInPeriod.j0]
  · rw [if_neg (by simp [hg])]
    constructor
    · refine Ev.mk' K1 fun k hk => ?_
      simp (disch := omega) only [spec_PairsInPeriod.f, h1, obind, hgp.1, hg]
      simp [spec_PairsInPeriod.j0]
    · refine Ev.mk' K2 fun k hk => ?_
      simp (disch := omega) only [impl_PairsInPeriod.f, h2, obind, hg]
      simp [impl_PairsInPeriod.j0]
end Go.Proofs.Ytccekbbefllbgaa.P
namespace Go.Proofs.Ytccekbbefllbgaa.P
open Go.RowKit Go.Proofs.YtccekbbefllbgaaW.PrintWords Go.Proofs.YtccekbbefllbgaaW.PrintLast
set_option linter.unusedVariables false
set_option linter.unusedSimpArgs false
def Inc : Int → List Int → Prop
  | _, [] => True
  | a, b :: t => a < b ∧ Inc b t
theorem lefts_ge (l : List SRule) : ∀ (m : Nat) (i x : Int), x ∈ lefts l i m → i ≤ x ∧ x < i + m
  | 0, i, x, h => by simp [lefts] at h
  | m + 1, i, x, h => by
    simp only [lefts, List.mem_append] at h
    rcases h with h | h
    · split at h
      · simp at h; omega
      · simp at h
    · have := lefts_ge l m (i + 1) x h; omega
theorem lefts_inc (l : List SRule) : ∀ (m : Nat) (i a : Int), a < i → Inc a (lefts l i m)
  | 0, i, a, h => trivial
  | m + 1, i, a, h => by
    simp only [lefts]
    split
    · exact ⟨h, lefts_inc l m (i + 1) i (by omega)⟩
    · exact lefts_inc l m (i + 1) a (by omega)
theorem inc_snoc : ∀ (t : List Int) (a x : Int), Inc a t → a < x → (∀ y ∈ t, y < x) → Inc a (t ++ [x])
  | [], a, x, _, h, _ => ⟨h, trivial⟩
  | b :: t, a, x, hi, h, hy => ⟨hi.1, inc_snoc t b x hi.2 (hy b (by simp)) (fun y hy' => hy y (by simp [hy']))⟩
theorem dif_pos : ∀ (t : List Int) (a : Int), Inc a t → (∀ y ∈ a :: t, 0 ≤ y ∧ y ≤ 4611686018427387904) → ∀ g ∈ dif a t, 1 ≤ g
  | [], a, _, _, g, h => by simp [dif] at h
  | b :: t, a, hi, hb, g, h => by
    simp only [dif, List.mem_cons] at h
    have h1 := hb a (by simp)
    have h2 := hb b (by simp)
    rcases h with rfl | h
    · rw [wrap_id (by omega) (by omega)]
      have := hi.1; omega
    · exact dif_pos t b hi.2 (fun y hy => hb y (by simp only [List.mem_cons] at hy ⊢; exact Or.inr hy)) g h
theorem perL_mem {l : List SRule} {p : Nat} {x : Int} (h : x ∈ perL l p) : 0 ≤ x ∧ x < p := by
  have := lefts_ge l _ _ x h
  omega
theorem pgaps_pos (l : List SRule) : ∀ g ∈ (pgaps l).2.1, 1 ≤ g := by
  unfold pgaps
  cases hp : period l with
  | none => simp
  | some p =>
    obtain ⟨hg, hp0, hp1⟩ := period_some hp
    by_cases he : perL l p = []
    · simp [he]
    · simp only [he, if_false]
      have hmem : ∀ x ∈ perL l p, 0 ≤ x ∧ x < p := fun x hx => perL_mem hx
      have hinc : ∀ a, a < 0 → Inc a (perL l p) := fun a ha => lefts_inc l _ 0 a ha
      unfold gapsL perL1
      cases hL : perL l p with
      | nil => exact absurd hL he
      | cons y t =>
        rw [hL] at hmem hinc
        have hy := hmem y (by simp)
        have hr : rd (y :: t) 0 = y := by simp [rd]
        have hr2 : rd (y :: t ++ [wrap64 (rd (y :: t) 0 + (p : Int))]) 0 = y := by simp [rd]
        rw [hr2, hr, wrap_id (by omega) (by omega)]
        simp only [List.cons_append, List.drop_succ_cons, List.drop_zero]
        have h2 := (hinc (-1) (by omega)).2
        refine dif_pos _ y (inc_snoc t y (y + p) h2 (by omega) (fun z hz => ?_)) ?_
        · have := hmem z (by simp [hz]); omega
        · intro z hz
          simp only [List.mem_cons, List.mem_append, List.mem_singleton, List.not_mem_nil, or_false] at hz
          rcases hz with rfl | hz | rfl
          · omega
          · have := hmem z (by simp [hz]); omega
          · omega
def runs : Int → Int → List Int → Int
  | m, _, [] => m
  | m, r, g :: t => let r' := if g = 1 then r + 1 else 1; runs (mx m r') r' t
theorem most_mx (a b : Int) : spec_l1Most.f a b = some (mx a b) := by
  unfold spec_l1Most.f mx
  by_cases h : a > b
  · rw [if_pos h, if_neg (by omega)]
  · rw [if_neg h]
    by_cases h2 : a < b
    · rw [if_pos h2]
    · rw [if_neg h2]; congr 1; omega
theorem specRun_l0 (G : List Int) (h1 : 0 < G.length) (h2 : G.length ≤ 100000) : ∀ (d i : Nat) (m r : Int), i + d = 2 * G.length → 1 ≤ r → r ≤ i + 1 → Ev (fun k => spec_LongestRunLeft.l0 k G m r i) (runs m r ((G ++ G).drop i), true)
  | 0, i, m, r, h, h3, h4 => Ev.mk' 0 fun k _ => by
    simp only [spec_LongestRunLeft.l0]
    rw [wrap_id (by omega) (by omega), if_neg (by omega), List.drop_eq_nil_of_le (by simp; omega)]; rfl
  | d + 1, i, m, r, h, h3, h4 => by
    have hlt : i < (G ++ G).length := by simp; omega
    have hrd : rd G (Int.tmod (i : Int) (G.length : Int)) = rd (G ++ G) i := by
      rw [show Int.tmod (i : Int) (G.length : Int) = ((i % G.length : Nat) : Int) from rfl]
      unfold rd
      simp only [Int.toNat_natCast, List.getD_eq_getElem?_getD]
      by_cases hc : i < G.length
      · rw [Nat.mod_eq_of_lt hc, List.getElem?_append_left hc]
      · rw [List.getElem?_append_right (by omega), Nat.mod_eq_sub_mod (by omega), Nat.mod_eq_of_lt (by omega)]
    have hmod : (i % G.length : Nat) < G.length := Nat.mod_lt _ h1
    rw [rd_dropG (G ++ G) i hlt, runs]
    by_cases hc : rd (G ++ G) i = 1
    · obtain ⟨K, ih⟩ := specRun_l0 G h1 h2 d (i + 1) (mx m (r + 1)) (r + 1) (by omega) (by omega) (by omega)
      dsimp only at ih
      refine Ev.mk' K fun k hk => ?_
      simp only [spec_LongestRunLeft.l0]
      rw [wrap_id (n := 2 * (G.length : Int)) (by omega) (by omega), if_pos (by omega), if_neg (by omega), hrd]
      rw [show Int.tmod (i : Int) (G.length : Int) = ((i % G.length : Nat) : Int) from rfl, if_pos (by omega), if_pos (by omega), if_pos hc]
      rw [show wrap64 ((i : Int) + 1) = ((i + 1 : Nat) : Int) from wrap_id (by omega) (by omega), show wrap64 (r + 1) = r + 1 from wrap_id (by omega) (by omega), most_mx, obind, ih k hk]
      simp only [hc, if_true]
    · obtain ⟨K, ih⟩ := specRun_l0 G h1 h2 d (i + 1) (mx m 1) 1 (by omega) (by omega) (by omega)
      dsimp only at ih
      refine Ev.mk' K fun k hk => ?_
      simp only [spec_LongestRunLeft.l0]
      rw [wrap_id (n := 2 * (G.length : Int)) (by omega) (by omega), if_pos (by omega), if_neg (by omega), hrd]
      rw [show Int.tmod (i : Int) (G.length : Int) = ((i % G.length : Nat) : Int) from rfl, if_pos (by omega), if_pos (by omega), if_neg hc]
      rw [show wrap64 ((i : Int) + 1) = ((i + 1 : Nat) : Int) from wrap_id (by omega) (by omega), most_mx, obind, ih k hk]
      simp only [hc, if_false]
def runs2 : Int → Int → List Int → Int × Int
  | m, r, [] => (m, r)
  | m, r, g :: t => let r' := if g = 1 then r + 1 else 1; runs2 (mx m r') r' t
theorem runs_app : ∀ (s t : List Int) (m r : Int), runs m r (s ++ t) = runs (runs2 m r s).1 (runs2 m r s).2 t
  | [], t, m, r => rfl
  | g :: s, t, m, r => by simp only [List.cons_append, runs, runs2]; exact runs_app s t _ _
theorem runs_fst (m r : Int) : ∀ (s : List Int) (m r : Int), runs m r s = (runs2 m r s).1
  | [], m, r => rfl
  | g :: s, m, r => by simp only [runs, runs2]; exact runs_fst m r s _ _
theorem runs2_bound : ∀ (s : List Int) (m r : Int), 1 ≤ r → 1 ≤ (runs2 m r s).2 ∧ (runs2 m r s).2 ≤ r + s.length
  | [], m, r, h => by simp [runs2]; omega
  | g :: s, m, r, h => by
    simp only [runs2]
    split
    · have := runs2_bound s (mx m (r + 1)) (r + 1) (by omega)
      simp only [List.length_cons]; omega
    · have := runs2_bound s (mx m 1) 1 (by omega)
      simp only [List.length_cons]; omega
theorem implRun_l1 (G : List Int) (hp : ∀ g ∈ G, 1 ≤ g) (h2 : G.length ≤ 100000) (q B : Int) (hB : B ≤ 1000000) (R : Int → Int → Int × Bool) (hq : ∀ m r, 1 ≤ r → r ≤ B → Ev (fun k => impl_LongestRunLeft.l0 k G m r (wrap64 (q + 1))) (R m r)) :
    ∀ (d i : Nat) (m r : Int), i + d = G.length → 1 ≤ r → r + d ≤ B → Ev (fun k => impl_LongestRunLeft.l1 k G m r q G G.length i) (R (runs2 m r (G.drop i)).1 (runs2 m r (G.drop i)).2)
  | 0, i, m, r, h, h3, h4 => by
    obtain ⟨K, hK⟩ := hq m r h3 (by omega)
    dsimp only at hK
    refine Ev.mk' K fun k hk => ?_
    simp only [impl_LongestRunLeft.l1]
    rw [if_neg (by omega), List.drop_eq_nil_of_le (by omega), hK k hk]; rfl
  | d + 1, i, m, r, h, h3, h4 => by
    have hg : 1 ≤ rd G i := by
      have hd := rd_dropG G i (by omega)
      exact hp _ (List.mem_of_mem_drop (i := i) (by rw [hd]; simp))
    rw [rd_dropG G i (by omega), runs2]
    by_cases hc : rd G i = 1
    · obtain ⟨K, ih⟩ := implRun_l1 G hp h2 q B hB R hq d (i + 1) (mx m (r + 1)) (r + 1) (by omega) (by omega) (by omega)
      dsimp only at ih
      refine Ev.mk' K fun k hk => ?_
      simp only [impl_LongestRunLeft.l1]
      rw [if_pos (by omega), if_pos (by omega), if_pos (by omega), if_neg (by omega)]
      rw [show wrap64 ((i : Int) + 1) = ((i + 1 : Nat) : Int) from wrap_id (by omega) (by omega), show wrap64 (r + 1) = r + 1 from wrap_id (by omega) (by omega), ih k hk]
      simp only [hc, if_true]
    · obtain ⟨K, ih⟩ := implRun_l1 G hp h2 q B hB R hq d (i + 1) (mx m 1) 1 (by omega) (by omega) (by omega)
      dsimp only at ih
      refine Ev.mk' K fun k hk => ?_
      simp only [impl_LongestRunLeft.l1]
      rw [if_pos (by omega), if_pos (by omega), if_pos (by omega), if_pos (by omega)]
      rw [show wrap64 ((i : Int) + 1) = ((i + 1 : Nat) : Int) from wrap_id (by omega) (by omega), ih k hk]
      simp only [hc, if_false]
theorem implRun_ev (G : List Int) (hp : ∀ g ∈ G, 1 ≤ g) (h2 : G.length ≤ 100000) : Ev (fun k => impl_LongestRunLeft.l0 k G 1 1 0) (runs 1 1 (G ++ G), true) := by
  have e2 : ∀ m r, 1 ≤ r → r ≤ 1000000 → Ev (fun k => impl_LongestRunLeft.l0 k G m r (wrap64 (1 + 1))) (m, true) := fun m r _ _ => Ev.mk' 0 fun k _ => by
    simp only [impl_LongestRunLeft.l0]
    rw [if_neg (by rw [wrap_id (by omega) (by omega)]; omega)]
  have e1 : ∀ m r, 1 ≤ r → r ≤ 800000 → Ev (fun k => impl_LongestRunLeft.l0 k G m r 1) ((runs2 m r G).1, true) := fun m r h h' => by
    obtain ⟨K, hK⟩ := implRun_l1 G hp h2 1 1000000 (by omega) (fun m _ => (m, true)) e2 G.length 0 m r (by omega) h (by omega)
    have hK : ∀ k, K ≤ k → impl_LongestRunLeft.l1 k G m r 1 G G.length 0 = _ := hK
    refine Ev.mk' K fun k hk => ?_
    simp only [impl_LongestRunLeft.l0]
    rw [if_pos (by omega), hK k hk]; rfl
  obtain ⟨K, hK⟩ := implRun_l1 G hp h2 0 800000 (by omega) (fun m r => ((runs2 m r G).1, true)) (fun m r h h' => by
    rw [show wrap64 (0 + 1) = 1 from wrap_id (by omega) (by omega)]; exact e1 m r h h') G.length 0 1 1 (by omega) (by omega) (by omega)
  have hK : ∀ k, K ≤ k → impl_LongestRunLeft.l1 k G 1 1 0 G G.length 0 = _ := hK
  refine Ev.mk' K fun k hk => ?_
  simp only [impl_LongestRunLeft.l0]
  rw [if_pos (by omega), hK k hk, runs_app, runs_fst 0 0, List.drop_zero]
def vRunLeft (l : List SRule) : Int × Bool := if (pgaps l).2.2 = true ∧ l.length ≠ 0 then (runs 1 1 ((pgaps l).2.1 ++ (pgaps l).2.1), true) else (0, false)
theorem pgaps_len2 (l : List SRule) : (pgaps l).2.1.length ≤ 100000 ∧ ((pgaps l).2.2 = true → 0 < (pgaps l).2.1.length) := by
  unfold pgaps
  cases hp : period l with
  | none => simp
  | some p =>
    obtain ⟨hg, hp0, hp1⟩ := period_some hp
    have hl := perL_length l p
    by_cases he : perL l p = []
    · simp [he]
    · have : 0 < (perL l p).length := List.length_pos_iff.mpr he
      simp only [he, if_false, gapsL_length]
      simp [perL1]; omega
theorem LongestRunLeft_main (l : List SRule) : Ev (fun k => spec_LongestRunLeft.f k l) (vRunLeft l) ∧ Ev (fun k => impl_LongestRunLeft.f k l) (vRunLeft l) := by
  obtain ⟨K1, h1⟩ := gpGaps_ev l
  obtain ⟨K2, h2⟩ := periodGaps_ev l
  dsimp only at h1 h2
  have hb := pgaps_len2 l
  unfold vRunLeft
  have e : ((l.length : Int) == 0) = decide (l.length = 0) := by rw [Bool.eq_iff_iff]; simp
  by_cases hg : (pgaps l).2.2 = true
  · by_cases hl : l.length = 0
    · rw [if_neg (by simp [hl])]
      constructor
      · refine Ev.mk' K1 fun k hk => ?_
        simp (disch := omega) only [spec_LongestRunLeft.f, h1, obind, gpG, hg, if_true, e, hl, decide_true]
        simp [spec_LongestRunLeft.j0]
      · refine Ev.mk' K2 fun k hk => ?_
        simp (disch := omega) only [impl_LongestRunLeft.f, h2, obind, hg, if_true, e, hl, decide_true]
        simp [impl_LongestRunLeft.j0]
    · rw [if_pos ⟨hg, hl⟩]
      obtain ⟨K3, h3⟩ := specRun_l0 (pgaps l).2.1 (hb.2 hg) hb.1 (2 * (pgaps l).2.1.length) 0 1 1 (by omega) (by omega) (by omega)
      have h3 : ∀ k, K3 ≤ k → spec_LongestRunLeft.l0 k (pgaps l).2.1 1 1 0 = _ := h3
      obtain ⟨K4, h4⟩ := implRun_ev (pgaps l).2.1 (pgaps_pos l) hb.1
      dsimp only at h4
      rw [List.drop_zero] at h3
      constructor
      · refine Ev.mk' (K1 + K3) fun k hk => ?_
        simp (disch := omega) only [spec_LongestRunLeft.f, h1, obind, gpG, hg, if_true, e, hl, decide_false]
        simp (disch := omega) only [spec_LongestRunLeft.j0, h3, Bool.false_eq_true, if_false]
      · refine Ev.mk' (K2 + K4) fun k hk => ?_
        simp (disch := omega) only [impl_LongestRunLeft.f, h2, obind, hg, if_true, e, hl, decide_false]
        simp (disch := omega) only [impl_LongestRunLeft.j0, h4, Bool.false_eq_true, if_false]
  · rw [if_neg (by simp [hg])]
    constructor
    · refine Ev.mk' K1 fun k hk => ?_
      simp (disch := omega) only [spec_LongestRunLeft.f, h1, obind, gpG, hg]
      simp [spec_LongestRunLeft.j0]
    · refine Ev.mk' K2 fun k hk => ?_
      simp (disch := omega) only [impl_LongestRunLeft.f, h2, obind, hg]
      simp [impl_LongestRunLeft.j0]
end Go.Proofs.Ytccekbbefllbgaa.P
namespace Go.Proofs.Ytccekbbefllbgaa.P
open Go.RowKit Go.Proofs.YtccekbbefllbgaaW.PrintWords Go.Proofs.YtccekbbefllbgaaW.PrintLast
set_option linter.unusedVariables false
set_option linter.unusedSimpArgs false
theorem lefts_snoc (l : List SRule) : ∀ (m : Nat) (i : Int), lefts l i (m + 1) = lefts l i m ++ (if left l (i + m) = true then [i + (m : Int)] else [])
  | 0, i => by simp [lefts]
  | m + 1, i => by
    rw [lefts, lefts_snoc l m (i + 1), lefts]
    rw [show i + 1 + (m : Int) = i + ((m + 1 : Nat) : Int) by omega]
    simp
def cw (l : List SRule) (w : Nat) (n : Int) : Int := ((lefts l n w).length : Int)
def b2i (b : Bool) : Int := if b = true then 1 else 0
theorem len_if (b : Bool) (x : Int) : (((if b = true then [x] else []) : List Int).length : Int) = b2i b := by cases b <;> rfl
theorem cw_step (l : List SRule) (w : Nat) (n : Int) : cw l w (n + 1) = cw l w n - b2i (left l n) + b2i (left l (n + w)) := by
  have h1 : ((lefts l n (w + 1)).length : Int) = b2i (left l n) + cw l w (n + 1) := by rw [lefts, List.length_append, Int.natCast_add, len_if]; rfl
  have h2 : ((lefts l n (w + 1)).length : Int) = cw l w n + b2i (left l (n + w)) := by rw [lefts_snoc, List.length_append, Int.natCast_add, len_if]; rfl
  omega
theorem cw_bound (l : List SRule) (w : Nat) (n : Int) : 0 ≤ cw l w n ∧ cw l w n ≤ w := by
  have := lefts_length l w n
  unfold cw; omega
def cws (l : List SRule) (w : Nat) : Int → Nat → List Int
  | _, 0 => []
  | n, m + 1 => cw l w n :: cws l w (n + 1) m
theorem cws_length (l : List SRule) (w : Nat) : ∀ (m : Nat) (n : Int), (cws l w n m).length = m
  | 0, _ => rfl
  | m + 1, n => by simp [cws, cws_length l w m]
theorem cws_snoc (l : List SRule) (w : Nat) : ∀ (m : Nat) (n : Int), cws l w n (m + 1) = cws l w n m ++ [cw l w (n + m)]
  | 0, n => by simp [cws]
  | m + 1, n => by
    rw [cws, cws_snoc l w m (n + 1), cws]
    rw [show n + 1 + (m : Int) = n + ((m + 1 : Nat) : Int) by omega]; rfl
theorem maxFrom_snoc : ∀ (t : List Int) (m x : Int), maxFrom m (t ++ [x]) = mx (maxFrom m t) x
  | [], m, x => rfl
  | y :: t, m, x => by simp only [List.cons_append, maxFrom]; exact maxFrom_snoc t _ x
theorem minFrom_snoc : ∀ (t : List Int) (m x : Int), minFrom m (t ++ [x]) = mn (minFrom m t) x
  | [], m, x => rfl
  | y :: t, m, x => by simp only [List.cons_append, minFrom]; exact minFrom_snoc t _ x
theorem maxFrom_ge' : ∀ (t : List Int) (m : Int), m ≤ maxFrom m t
  | [], m => Int.le_refl _
  | x :: t, m => by
    have := maxFrom_ge' t (mx m x)
    simp only [maxFrom]
    have : m ≤ mx m x := by unfold mx; split <;> omega
    omega
theorem minFrom_le' : ∀ (t : List Int) (m : Int), minFrom m t ≤ m
  | [], m => Int.le_refl _
  | x :: t, m => by
    have := minFrom_le' t (mn m x)
    simp only [minFrom]
    have : mn m x ≤ m := by unfold mn; split <;> omega
    omega
theorem perN_dvd : ∀ (l : List SRule) (p q : Nat), perN p l = some q → p ∣ q ∧ ∀ x ∈ l, x.f0.toNat ∣ q
  | [], p, q, h => by simp [perN] at h; subst h; exact ⟨Nat.dvd_refl _, by simp⟩
  | x :: t, p, q, h => by
    rw [perN] at h
    split at h
    · simp at h
    · obtain ⟨h1, h2⟩ := perN_dvd t _ q h
      refine ⟨Nat.dvd_trans (Nat.dvd_lcm_left _ _) h1, fun y hy => ?_⟩
      simp only [List.mem_cons] at hy
      rcases hy with rfl | hy
      · exact Nat.dvd_trans (Nat.dvd_lcm_right _ _) h1
      · exact h2 y hy
theorem left_period (l : List SRule) (p : Nat) (hp : period l = some p) (n : Int) : left l (n + p) = left l n := by
  obtain ⟨hg, -, -⟩ := period_some hp
  have hd : ∀ x ∈ l, x.f0.toNat ∣ p := by
    unfold period at hp
    rw [if_pos hg] at hp
    exact (perN_dvd l 1 p hp).2
  have ho := (good_all hg).2
  have : ∀ x ∈ l, crosses (n + p) x = crosses n x := by
    intro x hx
    have h2 := (okRule_iff x).1 (List.all_eq_true.mp ho x hx)
    obtain ⟨c, hc⟩ := hd x hx
    have e : (p : Int) = x.f0 * (c : Int) := by
      have : (p : Int) = ((x.f0.toNat : Nat) : Int) * (c : Int) := by rw [hc]; simp
      rw [this, Int.toNat_of_nonneg (by omega)]
    unfold crosses
    rw [e, Int.add_mul_emod_self_left]
  unfold left
  congr 1
  rw [Bool.eq_iff_iff]
  simp only [List.any_eq_true]
  constructor
  · rintro ⟨x, hx, h⟩; exact ⟨x, hx, by rw [← this x hx]; exact h⟩
  · rintro ⟨x, hx, h⟩; exact ⟨x, hx, by rw [this x hx]; exact h⟩
theorem cw_period (l : List SRule) (p : Nat) (hp : period l = some p) (w : Nat) : ∀ n : Int, cw l w (n + p) = cw l w n := by
  induction w with
  | zero => intro n; simp [cw, lefts]
  | succ w ih =>
    intro n
    have h := ih (n + 1)
    rw [show n + 1 + (p : Int) = n + p + 1 by omega] at h
    unfold cw at h ⊢
    simp only [lefts, List.length_append, left_period l p hp n]
    split <;> simp <;> omega
theorem implWin_l0 (l : List SRule) (ho : l.all okRule = true) (w : Nat) (hw : w ≤ 200) (p : Nat) (hp : p ≤ 100000) : ∀ (d i : Nat) (acc : List Int), i + d = p → acc.length ≤ i → Ev (fun k => impl_windowsOf.l0 k l w (cw l w i) acc p i) (acc ++ cws l w i d, true)
  | 0, i, acc, h, ha => Ev.mk' 0 fun k _ => by
    simp only [impl_windowsOf.l0]
    rw [if_neg (by omega)]; simp [cws]
  | d + 1, i, acc, h, ha => by
    obtain ⟨K, ih⟩ := implWin_l0 l ho w hw p hp d (i + 1) (acc ++ [cw l w i]) (by omega) (by simp; omega)
    have ih : ∀ k, K ≤ k → impl_windowsOf.l0 k l w (cw l w ((i + 1 : Nat) : Int)) (acc ++ [cw l w i]) p ((i + 1 : Nat) : Int) = _ := ih
    have hs : cw l w ((i + 1 : Nat) : Int) = cw l w i - b2i (left l i) + b2i (left l (i + w)) := cw_step l w i
    have hb := cw_bound l w i
    refine Ev.mk' K fun k hk => ?_
    have ih := ih k hk
    rw [List.append_assoc] at ih
    simp only [impl_windowsOf.l0]
    rw [if_pos (by omega), if_pos (by omega), obind, isLeft_ok _ l ho, obind]
    rw [show wrap64 ((i : Int) + (w : Int)) = (i : Int) + w from wrap_id (by omega) (by omega), isLeft_ok _ l ho, obind, obind]
    rw [show wrap64 ((i : Int) + 1) = ((i + 1 : Nat) : Int) from wrap_id (by omega) (by omega)]
    rw [show wrap64 (cw l w i - 1) = cw l w i - 1 from wrap_id (by omega) (by omega), show wrap64 (cw l w i - 1 + 1) = cw l w i from by rw [wrap_id (by omega) (by omega)]; omega, show wrap64 (cw l w i + 1) = cw l w i + 1 from wrap_id (by omega) (by omega)]
    rw [hs] at ih
    unfold b2i at ih
    cases h1 : left l i <;> cases h2 : left l ((i : Int) + w) <;> simp [h1, h2] at ih ⊢ <;> rw [ih] <;> rfl
theorem specWin_l0 (l : List SRule) (hm : l.length ≤ 12) (ho : l.all okRule = true) (w : Nat) (hw : w ≤ 200) (R : Int × Int × Bool) (hR : Ev (fun k => spec_gpWindows.l1 k l w (cw l w 0) (cw l w 0) (cw l w 0) 0) R) : ∀ (d i : Nat), i + d = w → Ev (fun k => spec_gpWindows.l0 k l w (cw l i 0) i) R
  | 0, i, h => by
    obtain ⟨K, hK⟩ := hR
    have : i = w := by omega
    subst this
    refine Ev.mk' K fun k hk => ?_
    simp only [spec_gpWindows.l0]
    rw [if_neg (by omega)]
    exact hK k hk
  | d + 1, i, h => by
    obtain ⟨K, ih⟩ := specWin_l0 l hm ho w hw R hR d (i + 1) (by omega)
    have ih : ∀ k, K ≤ k → spec_gpWindows.l0 k l w (cw l (i + 1) 0) ((i + 1 : Nat) : Int) = _ := ih
    obtain ⟨K1, h3⟩ := siLeft_ev i l (by omega) ho
    dsimp only at h3
    have hs : cw l (i + 1) 0 = cw l i 0 + b2i (left l i) := by
      unfold cw b2i
      rw [lefts_snoc, List.length_append, Int.zero_add]
      split <;> simp
    have hb := cw_bound l i 0
    refine Ev.mk' (K + K1) fun k hk => ?_
    have ih := ih k (by omega)
    simp only [spec_gpWindows.l0]
    rw [if_pos (by omega), h3 k (by omega), obind]
    rw [show wrap64 ((i : Int) + 1) = ((i + 1 : Nat) : Int) from wrap_id (by omega) (by omega), show wrap64 (cw l i 0 + 1) = cw l i 0 + 1 from wrap_id (by omega) (by omega)]
    rw [hs] at ih
    unfold b2i at ih
    cases h1 : left l i <;> simp [h1] at ih ⊢ <;> rw [ih]
theorem least_mn (a b : Int) : spec_l1Least.f a b = some (mn a b) := by
  unfold spec_l1Least.f mn
  by_cases h : a < b
  · rw [if_pos h, if_neg (by omega)]
  · rw [if_neg h]
    by_cases h2 : b < a
    · rw [if_pos h2]
    · rw [if_neg h2]; congr 1; omega
theorem specWin_l1 (l : List SRule) (p : Nat) (hp : period l = some p) (w : Nat) (hw : w ≤ 200) : ∀ (d i : Nat) (a b : Int), i + d = p → Ev (fun k => spec_gpWindows.l1 k l w (cw l w i) a b i) (maxFrom a (cws l w ((i : Int) + 1) d), minFrom b (cws l w ((i : Int) + 1) d), true)
  | 0, i, a, b, h => by
    obtain ⟨hg, hp0, hp1⟩ := period_some hp
    obtain ⟨K, hK⟩ := siPeriod_ev l hg
    dsimp only at hK
    rw [hp] at hK
    refine Ev.mk' K fun k hk => ?_
    simp only [spec_gpWindows.l1]
    rw [hK k hk, obind, if_neg (by simp only []; omega)]; rfl
  | d + 1, i, a, b, h => by
    obtain ⟨hg, hp0, hp1⟩ := period_some hp
    obtain ⟨K0, hK⟩ := siPeriod_ev l hg
    dsimp only at hK
    rw [hp] at hK
    have hgo := good_all hg
    obtain ⟨K1, h3⟩ := siLeft_ev i l (by omega) hgo.2
    obtain ⟨K2, h4⟩ := siLeft_ev ((i : Int) + w) l (by omega) hgo.2
    dsimp only at h3 h4
    have hs : cw l w ((i + 1 : Nat) : Int) = cw l w i - b2i (left l i) + b2i (left l (i + w)) := cw_step l w i
    have hs' : cw l w ((i : Int) + 1) = cw l w ((i + 1 : Nat) : Int) := rfl
    have hb := cw_bound l w i
    have hb2 := cw_bound l w ((i + 1 : Nat) : Int)
    obtain ⟨K, ih⟩ := specWin_l1 l p hp w hw d (i + 1) (mx a (cw l w ((i + 1 : Nat) : Int))) (mn b (cw l w ((i + 1 : Nat) : Int))) (by omega)
    have ih : ∀ k, K ≤ k → spec_gpWindows.l1 k l w (cw l w ((i + 1 : Nat) : Int)) (mx a (cw l w ((i + 1 : Nat) : Int))) (mn b (cw l w ((i + 1 : Nat) : Int))) ((i + 1 : Nat) : Int) = _ := ih
    have key : ∀ (c : Int) (k : Nat), K + K2 + 1 ≤ k → c + b2i (left l (i + w)) = cw l w ((i + 1 : Nat) : Int) → -1 ≤ c → c ≤ 200 → spec_gpWindows.j3 k l w c a b i = some (maxFrom a (cws l w ((i : Int) + 1) (d + 1)), minFrom b (cws l w ((i : Int) + 1) (d + 1)), true) := by
      intro c k hk hc c0 c1
      obtain ⟨k, rfl⟩ : ∃ m, k = m + 1 := ⟨k - 1, by omega⟩
      have ih := ih k (by omega)
      simp only [spec_gpWindows.j3]
      rw [show wrap64 ((i : Int) + (w : Int)) = (i : Int) + w from wrap_id (by omega) (by omega), h4 k (by omega), obind]
      rw [show wrap64 ((i : Int) + 1) = ((i + 1 : Nat) : Int) from wrap_id (by omega) (by omega), show wrap64 (c + 1) = c + 1 from wrap_id (by omega) (by omega)]
      simp only [most_mx, least_mn, cws, maxFrom, minFrom, hs']
      rw [show ((i : Int) + 1 + 1) = ((i + 1 : Nat) : Int) + 1 from rfl, ← ih, ← hc]
      unfold b2i
      cases left l ((i : Int) + w) <;> simp [obind]
    refine Ev.mk' (K + K0 + K1 + K2 + 1) fun k hk => ?_
    simp only [spec_gpWindows.l1]
    rw [hK k (by omega), obind, if_pos (by simp only []; omega), h3 k (by omega), obind]
    rw [show wrap64 (cw l w i - 1) = cw l w i - 1 from wrap_id (by omega) (by omega)]
    cases h1 : left l i
    · rw [if_neg (by simp)]
      exact key _ k (by omega) (by rw [hs, h1]; simp [b2i]) (by omega) (by omega)
    · rw [if_pos rfl]
      exact key _ k (by omega) (by rw [hs, h1]; simp [b2i]) (by omega) (by omega)
def vWin (l : List SRule) (w : Int) : Int × Int × Bool := if (pgaps l).2.2 = true ∧ 0 ≤ w ∧ w ≤ 200 then (maxFrom (cw l w.toNat 0) (cws l w.toNat 1 ((period l).getD 0)), minFrom (cw l w.toNat 0) (cws l w.toNat 1 ((period l).getD 0)), true) else (0, 0, false)
theorem gpWindows_ev (l : List SRule) (w : Int) : Ev (fun k => spec_gpWindows.f k l w) (vWin l w) := by
  obtain ⟨K1, h1⟩ := gpLeft_ev l
  dsimp only at h1
  have hgp := gpL_pgaps l
  unfold vWin
  by_cases hg : (pgaps l).2.2 = true
  · have hgo := good_all (pgaps_good hg)
    by_cases ha : 0 ≤ w ∧ w ≤ 200
    · rw [if_pos ⟨hg, ha⟩]
      cases hp : period l with
      | none => simp [pgaps, hp] at hg
      | some p =>
        obtain ⟨-, hp0, hp1⟩ := period_some hp
        have hw : ((w.toNat : Nat) : Int) = w := Int.toNat_of_nonneg ha.1
        have e1 := specWin_l1 l p hp w.toNat (by omega) p 0 (cw l w.toNat 0) (cw l w.toNat 0) (by omega)
        obtain ⟨K2, h2⟩ := specWin_l0 l hgo.1 hgo.2 w.toNat (by omega) _ e1 w.toNat 0 (by omega)
        have h2 : ∀ k, K2 ≤ k → spec_gpWindows.l0 k l (w.toNat : Nat) 0 0 = _ := h2
        rw [hw] at h2
        refine Ev.mk' (K1 + K2) fun k hk => ?_
        simp (disch := omega) only [spec_gpWindows.f, h1, obind, hgp.1, hg, if_true, l1In_ok, ha.1, ha.2, decide_true, Bool.and_self, Bool.not_true]
        simp (disch := omega) only [spec_gpWindows.j0, h2, Bool.false_eq_true, if_false]
        rfl
    · rw [if_neg (by simp [hg]; omega)]
      refine Ev.mk' K1 fun k hk => ?_
      simp (disch := omega) only [spec_gpWindows.f, h1, obind, hgp.1, hg, if_true, l1In_ok]
      have : (decide (0 ≤ w) && decide (w ≤ 200)) = false := by simp; omega
      rw [this]
      simp [spec_gpWindows.j0]
  · rw [if_neg (by simp [hg])]
    refine Ev.mk' K1 fun k hk => ?_
    simp (disch := omega) only [spec_gpWindows.f, h1, obind, hgp.1, hg]
    simp [spec_gpWindows.j0]
theorem windowsOf_ev (l : List SRule) (w : Int) : Ev (fun k => impl_windowsOf.f k l w) (if (pgaps l).2.2 = true ∧ 0 ≤ w ∧ w ≤ 200 then (cws l w.toNat 0 ((period l).getD 0), true) else ([], false)) := by
  obtain ⟨K1, h1⟩ := periodGaps_ev l
  dsimp only at h1
  by_cases hg : (pgaps l).2.2 = true
  · have hgo := good_all (pgaps_good hg)
    by_cases ha : 0 ≤ w ∧ w ≤ 200
    · rw [if_pos ⟨hg, ha⟩]
      cases hp : period l with
      | none => simp [pgaps, hp] at hg
      | some p =>
        obtain ⟨-, hp0, hp1⟩ := period_some hp
        have hw : ((w.toNat : Nat) : Int) = w := Int.toNat_of_nonneg ha.1
        obtain ⟨K2, h2⟩ := periodOf_ev l
        dsimp only at h2
        rw [hp] at h2
        obtain ⟨K3, h3⟩ := leftBetween_ev l hgo.2 0 (w - 1) (by omega) (by omega) (by omega)
        dsimp only at h3
        obtain ⟨K4, h4⟩ := implWin_l0 l hgo.2 w.toNat (by omega) p hp1 p 0 [] (by omega) (by simp)
        have h4 : ∀ k, K4 ≤ k → impl_windowsOf.l0 k l (w.toNat : Nat) (cw l w.toNat 0) [] p 0 = _ := h4
        rw [hw] at h4
        have e : ((leftsTo l 0 (w - 1)).length : Int) = cw l w.toNat 0 := by
          unfold leftsTo cw
          rw [show (w - 1 + 1 - 0).toNat = w.toNat by omega]
        have c1 : ¬ w < 0 := by omega
        have c2 : ¬ w > 200 := by omega
        refine Ev.mk' (K1 + K2 + K3 + K4) fun k hk => ?_
        simp (disch := omega) only [impl_windowsOf.f, h1, obind, hg, if_true, if_neg c1]
        simp (disch := omega) only [impl_windowsOf.j0, c2, decide_false, Bool.false_eq_true, if_false, h2, obind]
        rw [wrap_id (by omega) (by omega), h3 k (by omega), obind, e, h4 k (by omega)]
        rfl
    · rw [if_neg (by simp [hg]; omega)]
      refine Ev.mk' K1 fun k hk => ?_
      simp (disch := omega) only [impl_windowsOf.f, h1, obind, hg, if_true]
      by_cases c1 : w < 0
      · simp [c1, impl_windowsOf.j0]
      · have c2 : w > 200 := by omega
        simp [c1, c2, impl_windowsOf.j0]
  · rw [if_neg (by simp [hg])]
    refine Ev.mk' K1 fun k hk => ?_
    simp (disch := omega) only [impl_windowsOf.f, h1, obind, hg]
    simp [impl_windowsOf.j0]
theorem cws_max (l : List SRule) (p : Nat) (hp : period l = some p) (w : Nat) : ∃ t, cws l w 0 p = cw l w 0 :: t ∧ maxFrom (cw l w 0) (cws l w 1 p) = maxFrom (cw l w 0) t ∧ minFrom (cw l w 0) (cws l w 1 p) = minFrom (cw l w 0) t := by
  obtain ⟨-, hp0, -⟩ := period_some hp
  obtain ⟨q, rfl⟩ : ∃ q, p = q + 1 := ⟨p - 1, by omega⟩
  refine ⟨cws l w 1 q, rfl, ?_, ?_⟩
  · rw [cws_snoc, maxFrom_snoc]
    have : cw l w (1 + (q : Int)) = cw l w 0 := by
      have := cw_period l (q + 1) hp w 0
      rw [← this]; congr 1; omega
    rw [this]
    have := maxFrom_ge' (cws l w 1 q) (cw l w 0)
    unfold mx; split <;> omega
  · rw [cws_snoc, minFrom_snoc]
    have : cw l w (1 + (q : Int)) = cw l w 0 := by
      have := cw_period l (q + 1) hp w 0
      rw [← this]; congr 1; omega
    rw [this]
    have := minFrom_le' (cws l w 1 q) (cw l w 0)
    unfold mn; split <;> omega
def vMost (l : List SRule) (w : Int) : Int × Bool := ((vWin l w).1, (vWin l w).2.2)
def vLeast (l : List SRule) (w : Int) : Int × Bool := ((vWin l w).2.1, (vWin l w).2.2)
theorem MostInWindow_main (l : List SRule) (w : Int) : Ev (fun k => spec_MostInWindow.f k l w) (vMost l w) ∧ Ev (fun k => impl_MostInWindow.f k l w) (vMost l w) := by
  obtain ⟨K1, h1⟩ := gpWindows_ev l w
  obtain ⟨K2, h2⟩ := windowsOf_ev l w
  dsimp only at h1 h2
  constructor
  · refine ⟨K1, fun k hk => ?_⟩
    simp (disch := omega) only [spec_MostInWindow.f, h1, obind, vMost]
  · refine ⟨K2, fun k hk => ?_⟩
    simp (disch := omega) only [impl_MostInWindow.f, h2, obind, vMost, vWin]
    by_cases hg : (pgaps l).2.2 = true ∧ 0 ≤ w ∧ w ≤ 200
    · simp only [if_pos hg]
      cases hp : period l with
      | none => simp [pgaps, hp] at hg
      | some p =>
        obtain ⟨t, e, e1, -⟩ := cws_max l p hp w.toNat
        simp only [Option.getD_some, e, slices_Max_int_int.f, obind, if_true, e1]
    · simp only [if_neg hg]; simp
theorem LeastInWindow_main (l : List SRule) (w : Int) : Ev (fun k => spec_LeastInWindow.f k l w) (vLeast l w) ∧ Ev (fun k => impl_LeastInWindow.f k l w) (vLeast l w) := by
  obtain ⟨K1, h1⟩ := gpWindows_ev l w
  obtain ⟨K2, h2⟩ := windowsOf_ev l w
  dsimp only at h1 h2
  constructor
  · refine ⟨K1, fun k hk => ?_⟩
    simp (disch := omega) only [spec_LeastInWindow.f, h1, obind, vLeast]
  · refine ⟨K2, fun k hk => ?_⟩
    simp (disch := omega) only [impl_LeastInWindow.f, h2, obind, vLeast, vWin]
    by_cases hg : (pgaps l).2.2 = true ∧ 0 ≤ w ∧ w ≤ 200
    · simp only [if_pos hg]
      cases hp : period l with
      | none => simp [pgaps, hp] at hg
      | some p =>
        obtain ⟨t, e, -, e1⟩ := cws_max l p hp w.toNat
        simp only [Option.getD_some, e, slices_Min_int_int.f, obind, if_true, e1]
    · simp only [if_neg hg]; simp
end Go.Proofs.Ytccekbbefllbgaa.P
namespace Go.Proofs.Ytccekbbefllbgaa.P
open Go.RowKit Go.Proofs.YtccekbbefllbgaaW.PrintWords Go.Proofs.YtccekbbefllbgaaW.PrintLast
set_option linter.unusedVariables false
set_option linter.unusedSimpArgs false
theorem FnExactLeastInWindow : laws_FnExactLeastInWindow.Pure := by
  intro l0 a1 hl w1
  by_cases hs : l0.length ≤ 1048576
  · obtain ⟨K1, h1⟩ := toRuleS_ev l0 (by omega)
    obtain ⟨K2, h2⟩ := eqRuleS_ev (l0.map cvRule) (by simp; omega)
    obtain ⟨⟨K3, h3⟩, ⟨K4, h4⟩⟩ := LeastInWindow_main (l0.map cvRule) a1
    dsimp only at h1 h2 h3 h4
    have n0 : ¬ (1048576 - (l0.length : Int) < 0) := by omega
    refine ⟨K1 + K2 + K3 + K4 + 3, ?_⟩
    simp (disch := omega) only [laws_FnExactLeastInWindow.f, szRuleS_ok l0 hl, if_pos hs, obind, if_neg n0, h1, h2, h3, h4, bne_self_eq_false, if_true, Bool.false_eq_true, if_false]
    simp (disch := omega) only [laws_FnExactLeastInWindow.j0, szRuleS_ok l0 hl, if_pos hs, obind, if_neg n0, h1, h2, h3, h4, bne_self_eq_false, if_true, Bool.false_eq_true, if_false]
  · refine ⟨0, ?_⟩
    simp only [laws_FnExactLeastInWindow.f, szRuleS_ok l0 hl, if_neg hs, obind]
    simp
end Go.Proofs.Ytccekbbefllbgaa.P
