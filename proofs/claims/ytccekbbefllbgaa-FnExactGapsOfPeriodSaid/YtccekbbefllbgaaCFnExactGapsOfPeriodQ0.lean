/- The plain laws on what the functions answer; the last one: the law FnExactGapsOfPeriod answers true for all arguments. Proved in this text: its theorems. Conditions: as each theorem states them. -/
import Derived.Test.YtccekbbefllbgaaCFnExactGapsOfPeriodP
import Derived.Test.YtccekbbefllbgaaCFnExactGapsOfPeriodF0
import Derived.Test.YtccekbbefllbgaaCFnExactGapsOfPeriodF1
import Derived.Deep.Slices
import Derived.Deep.Fields
import Derived.ChangeSame
import Derived.ChangeSlices
import Derived.Lib.SmallJoins
import Derived.ProofKit
import Derived.OpenShut
import Derived.ShutString
import Derived.ChangeOld
import Derived.SizedLaws
namespace Go.Proofs.Ytccekbbefllbgaa.P
open Go.RowKit Go.Proofs.YtccekbbefllbgaaW.PrintWords Go.Proofs.YtccekbbefllbgaaW.PrintLast
set_option linter.unusedVariables false
set_option linter.unusedSimpArgs false
section
open Go.ChangeShapes Go.WideShapes Go.Deep Go.ChangeAt
variable {H : Type} {enc : TypeId × Value → H} {P : Program} {w : World} {base : Nat} {spare : Nat → Bool} {held : Bool}
theorem open_pairs {t e : TypeId} {f0 f1 : Field} {fuel : Nat} {v : Value} {x : DataW H × List MemPlace} (ht : P.underlying t = some (.slice e)) (he : P.underlying e = some (.struct #[f0, f1]))
    (hone : oneCellFields P #[f0, f1] = true) (hC : P.cellsOf e = 2) (h0 : P.underlying f0.type = some (.int .i64)) (h1 : P.underlying f1.type = some (.int .i64)) (h : DataW.trod enc P w base spare held fuel t [v] = some x) :
    ∃ (a : Option Addr) (len cap : Nat) (l : List (Int × Int)), v = .slice a len cap ∧ len = l.length ∧ len ≤ cap ∧ l.length ≤ 9223372036854775807 ∧ (∀ p ∈ l, (Lit.int .i64 p.1).wf = true ∧ (Lit.int .i64 p.2).wf = true) ∧
      (0 < l.length → ∃ ad, a = some ad ∧ ∀ j p, l[j]? = some p → w.cell? (ad.add (j * 2)) = some (.int .i64 p.1) ∧ w.cell? (ad.add (j * 2 + 1)) = some (.int .i64 p.2)) := by
  rcases open_slice ht h with ⟨hcs, -⟩ | ⟨a, len, cap, m, n, D, Pl, hcs, hb, hl, hm, hmm, hx, hi⟩
  · simp at hcs
    exact ⟨none, 0, 0, [], hcs, rfl, Nat.le_refl _, by simp, by simp, by simp⟩
  · simp at hcs
    have hlm : len ≤ m := by rw [hmm]; split <;> omega
    have hget : ∀ i, i < len → ∃ p : Int × Int, w.cell? (a.add (i * 2)) = some (.int .i64 p.1) ∧ w.cell? (a.add (i * 2 + 1)) = some (.int .i64 p.2) ∧ (Lit.int .i64 p.1).wf = true ∧ (Lit.int .i64 p.2).wf = true := by
      intro i him
      obtain ⟨cs', hc, ht'⟩ := hi i (by omega)
      rw [hC] at hc
      obtain ⟨y0, y1, n', hy, -, t0, t1⟩ := trod_struct2 he ht'
      obtain ⟨_, hcl, hat⟩ := World.cells?_some hc
      obtain ⟨o0, k0⟩ := hone_of hone 0 f0 rfl
      obtain ⟨o1, k1⟩ := hone_of hone 1 f1 rfl
      have c0 := hat (i := 0) (by omega)
      have c1 := hat (i := 1) (by omega)
      match cs', hcl with
      | [u0, u1], _ =>
        simp only [o0, k0, List.drop_zero, List.take_succ_cons, List.take_zero] at t0
        simp only [o1, k1, List.drop_succ_cons, List.drop_zero, List.take_succ_cons, List.take_zero] at t1
        obtain ⟨z0, e0, -, w0⟩ := DataW.trod_int h0 t0
        obtain ⟨z1, e1, -, w1⟩ := DataW.trod_int h1 t1
        simp at e0 e1
        subst e0 e1
        refine ⟨(z0, z1), ?_, ?_, w0, w1⟩
        · simpa [Go.Deep.add_add] using c0
        · simpa [Go.Deep.add_add] using c1
    let g : Nat → Int × Int := fun i => if hi : i < len then (hget i hi).choose else (0, 0)
    have hg : ∀ i, i < len → w.cell? (a.add (i * 2)) = some (.int .i64 (g i).1) ∧ w.cell? (a.add (i * 2 + 1)) = some (.int .i64 (g i).2) ∧ (Lit.int .i64 (g i).1).wf = true ∧ (Lit.int .i64 (g i).2).wf = true := by
      intro i hi
      have := (hget i hi).choose_spec
      simpa [g, hi] using this
    refine ⟨some a, len, cap, (List.range len).map g, hcs, by simp, hl, by simp; unfold maxLen at hm; omega, ?_, ?_⟩
    · intro p hp
      simp at hp
      obtain ⟨i, hi, rfl⟩ := hp
      exact ⟨(hg i hi).2.2.1, (hg i hi).2.2.2⟩
    · intro _
      refine ⟨a, rfl, fun j p hj => ?_⟩
      simp [List.getElem?_map] at hj
      obtain ⟨i, hij, rfl⟩ := hj
      have hjl : j < len := by
        have := (List.getElem?_eq_some_iff.1 hij).1
        simpa using this
      have : i = j := by
        have := List.getElem?_range hjl
        rw [this] at hij
        simpa using hij.symm
      subst this
      exact ⟨(hg i hjl).1, (hg i hjl).2.1⟩
theorem open_nums {t e : TypeId} {k : IntKind} {fuel : Nat} {v : Value} {x : DataW H × List MemPlace} (ht : P.underlying t = some (.slice e)) (he : P.underlying e = some (.int k)) (hc : P.cellsOf e = 1)
    (h : DataW.trod enc P w base spare held fuel t [v] = some x) :
    ∃ (a : Option Addr) (len cap : Nat) (l : List Int), v = .slice a len cap ∧ len = l.length ∧ len ≤ cap ∧ l.length ≤ 9223372036854775807 ∧ (∀ n ∈ l, (Lit.int k n).wf = true) ∧ (Kd.int k).C w a l.length l := by
  rcases open_ints ht he hc h with ⟨hcs, -⟩ | ⟨a, len, cap, zs, hcs, hb, hl, hm, hz, hx, hcell, hwf⟩
  · simp at hcs
    exact ⟨none, 0, 0, [], hcs, rfl, Nat.le_refl _, by simp, by simp, Kd.C_nil _ _⟩
  · simp at hcs
    have hlz : len ≤ zs.length := by rw [hz]; split <;> omega
    have hlen : (zs.take len).length = len := by simp; omega
    have hmax : (zs.take len).length ≤ 9223372036854775807 := by rw [hlen]; unfold maxLen at hm; omega
    refine ⟨some a, len, cap, zs.take len, hcs, hlen.symm, hl, hmax, fun n hn => hwf n (List.mem_of_mem_take hn), ?_⟩
    refine Kd.C_of_reads (d := (0 : Int)) (h1 := fun _ => rfl) ⟨rfl, hmax, fun hn => ⟨a, rfl, fun i hi => ?_⟩⟩
    rw [hlen] at hi
    rw [hcell i (by omega)]
    congr 2
    simp [List.getD, hi]
end
end Go.Proofs.Ytccekbbefllbgaa.P
namespace Go.Proofs.Ytccekbbefllbgaa.P
open Go.RowKit Go.Proofs.YtccekbbefllbgaaW.PrintWords Go.Proofs.YtccekbbefllbgaaW.PrintLast
set_option linter.unusedVariables false
set_option linter.unusedSimpArgs false
theorem Ev.get {α : Type} {g : Nat → Option α} {r : α} (h : Ev g r) : ∃ K, ∀ k, K ≤ k → g k = some r := h
theorem Ev.mk' {α : Type} {g : Nat → Option α} {r : α} (K : Nat) (h : ∀ k, K ≤ k → g (k + 1) = some r) : Ev g r :=
  ⟨K + 1, fun k hk => by obtain ⟨m, rfl⟩ : ∃ m, k = m + 1 := ⟨k - 1, by omega⟩; exact h m (by omega)⟩
theorem Ev.pos {α : Type} {c : Prop} [Decidable c] {g f : Nat → Option α} {r : α} (hc : c) (h : Ev g r) : Ev (fun k => if c then g k else f k) r := by
  obtain ⟨K, h⟩ := h
  exact ⟨K, fun k hk => by show (if c then g k else f k) = some r; rw [if_pos hc]; exact h k hk⟩
theorem Ev.neg {α : Type} {c : Prop} [Decidable c] {g f : Nat → Option α} {r : α} (hc : ¬ c) (h : Ev f r) : Ev (fun k => if c then g k else f k) r := by
  obtain ⟨K, h⟩ := h
  exact ⟨K, fun k hk => by show (if c then g k else f k) = some r; rw [if_neg hc]; exact h k hk⟩
theorem Ev.let_ {α β : Type} {f : Nat → α → Option β} {a : α} {r : β} (k : Ev (fun n => f n a) r) : Ev (fun n => (some a).bind (f n)) r := k
theorem Ev.some_ {α : Type} {a r : α} (h : a = r) : Ev (fun _ => some a) r := ⟨0, fun _ _ => by rw [h]⟩
theorem Ev.eq_ {α : Type} {g : Nat → Option α} {a r : α} (h : Ev g a) (e : a = r) : Ev g r := e ▸ h
theorem wrap_id {n : Int} (h1 : -9223372036854775808 ≤ n) (h2 : n ≤ 9223372036854775807) : wrap64 n = n := by unfold wrap64; omega
theorem wf_int {n : Int} (h : (Lit.int .i64 n).wf = true) : -9223372036854775808 ≤ n ∧ n ≤ 9223372036854775807 := by
  unfold Lit.wf at h
  simp only [Bool.and_eq_true, decide_eq_true_eq] at h
  exact h
theorem obind {α β : Type} (a : α) (f : α → Option β) : (some a).bind f = f a := id rfl
end Go.Proofs.Ytccekbbefllbgaa.P
namespace Go.Proofs.Ytccekbbefllbgaa.P
open Go.RowKit Go.Proofs.YtccekbbefllbgaaW.PrintWords Go.Proofs.YtccekbbefllbgaaW.PrintLast
set_option linter.unusedVariables false
set_option linter.unusedSimpArgs false
def left (l : List SRule) (n : Int) : Bool := !(l.any (crosses n))
def goodRules (l : List SRule) : Bool := decide (l.length ≤ 12) && l.all okRule
theorem okRule_iff (x : SRule) : okRule x = true ↔ 2 ≤ x.f0 ∧ x.f0 ≤ 60 ∧ 0 ≤ x.f1 ∧ x.f1 < x.f0 := by
  unfold okRule; simp
theorem l1In_ok (a b c : Int) : spec_l1In.f a b c = some (decide (b ≤ a) && decide (a ≤ c)) := by
  unfold spec_l1In.f
  by_cases h : b ≤ a <;> simp [h]
theorem siRule_ok (x : SRule) : spec_siRule.f x.f0 x.f1 = some (okRule x) := by
  unfold spec_siRule.f okRule
  simp only [l1In_ok, Option.bind_some]
  by_cases h1 : 2 ≤ x.f0
  · by_cases h2 : x.f0 ≤ 60
    · have : wrap64 (x.f0 - 1) = x.f0 - 1 := wrap_id (by omega) (by omega)
      rw [this]
      by_cases h3 : 0 ≤ x.f1
      · simp [h1, h2, h3]; omega
      · simp [h1, h2, h3]
    · simp [h1, h2]
  · simp [h1]
theorem rd_drop (l : List SRule) (k : Nat) (h : k < l.length) : l.drop k = rd_Rule l k :: l.drop (k + 1) := drop_rd l k h
theorem siGood_l0 (l : List SRule) (hm : l.length ≤ 12) : ∀ d i : Nat, i + d = l.length → Ev (fun k => spec_siGood.l0 k l l.length i) ((l.drop i).all okRule)
  | 0, i, h => Ev.mk' 0 fun k _ => by
    simp only [spec_siGood.l0]
    rw [if_neg (by omega), List.drop_eq_nil_of_le (by omega)]; rfl
  | d + 1, i, h => by
    obtain ⟨K, ih⟩ := siGood_l0 l hm d (i + 1) (by omega)
    dsimp only at ih
    refine Ev.mk' K fun k hk => ?_
    simp only [spec_siGood.l0]
    rw [if_pos (by omega), if_pos (by omega), if_pos (by omega), siRule_ok, rd_drop l i (by omega), List.all_cons, Option.bind_some]
    rw [show wrap64 ((i : Int) + 1) = ((i + 1 : Nat) : Int) from wrap_id (by omega) (by omega), ih k hk]
    cases okRule (rd_Rule l i) <;> simp
theorem siGood_ev (l : List SRule) : Ev (fun k => spec_siGood.f k l) (goodRules l) := by
  unfold goodRules
  by_cases h : l.length ≤ 12
  · obtain ⟨K, ih⟩ := siGood_l0 l h l.length 0 (by omega)
    refine ⟨K, fun k hk => ?_⟩
    simp only [spec_siGood.f]
    rw [if_neg (by omega)]
    simpa [h] using ih k hk
  · refine ⟨0, fun k _ => ?_⟩
    simp only [spec_siGood.f]
    rw [if_pos (by omega)]
    simp [h]
theorem areRules_ok (l : List SRule) : impl_areRules.f l = some (goodRules l) := rfl
theorem good_all {l : List SRule} (h : goodRules l = true) : l.length ≤ 12 ∧ l.all okRule = true := by
  unfold goodRules at h
  simpa using h
theorem siRest_ok (n : Int) (x : SRule) (h : okRule x = true) : spec_siRest.f n x.f0 = some (n % x.f0) := by
  have := mod_ok n x.f0 ((okRule_iff x).1 h).1 ((okRule_iff x).1 h).2.1
  exact this
theorem siFirst_l0 (n : Int) (l : List SRule) (hm : l.length ≤ 9223372036854775807) (hl : l.all okRule = true) : ∀ d i : Nat, i + d = l.length → Ev (fun k => spec_siFirst.l0 k n l l.length i) (firstIx (crosses n) (l.drop i) i)
  | 0, i, h => Ev.mk' 0 fun k _ => by
    simp only [spec_siFirst.l0]
    rw [if_neg (by omega), List.drop_eq_nil_of_le (by omega)]; rfl
  | d + 1, i, h => by
    obtain ⟨K, ih⟩ := siFirst_l0 n l hm hl d (i + 1) (by omega)
    dsimp only at ih
    refine Ev.mk' K fun k hk => ?_
    simp only [spec_siFirst.l0]
    rw [if_pos (by omega), if_pos (by omega), if_pos (by omega), siRest_ok n _ (List.all_eq_true.mp hl _ (rd_mem l i (by omega))), rd_drop l i (by omega), Option.bind_some]
    rw [show wrap64 ((i : Int) + 1) = ((i + 1 : Nat) : Int) from wrap_id (by omega) (by omega), ih k hk]
    rw [firstIx]
    by_cases hc : n % (rd_Rule l i).f0 = (rd_Rule l i).f1
    · rw [if_pos hc, if_pos (by simp [crosses, hc])]
    · rw [if_neg hc, if_neg (by simp [crosses, hc])]; rfl
theorem siFirst_ev (n : Int) (l : List SRule) (hm : l.length ≤ 9223372036854775807) (hl : l.all okRule = true) : Ev (fun k => spec_siFirst.f k l n) (firstIx (crosses n) l 0) :=
  siFirst_l0 n l hm hl l.length 0 (by omega)
theorem first_left (n : Int) (l : List SRule) : decide (firstIx (crosses n) l 0 < 0) = left l n := by
  have h := firstIx_any (crosses n) l 0 (by omega)
  unfold left
  rw [← h]
  by_cases hc : 0 ≤ firstIx (crosses n) l 0
  · simp [hc, Int.not_lt.mpr hc]
  · simp [hc, Int.not_le.mp hc]
theorem siLeft_ev (n : Int) (l : List SRule) (hm : l.length ≤ 9223372036854775807) (hl : l.all okRule = true) : Ev (fun k => spec_siLeft.f k l n) (left l n) := by
  obtain ⟨K, h⟩ := siFirst_ev n l hm hl
  refine ⟨K, fun k hk => ?_⟩
  simp only [spec_siLeft.f, h k hk, Option.bind_some, first_left]
theorem isLeft_ok (n : Int) (l : List SRule) (hl : l.all okRule = true) : impl_isLeft.f l n = some (left l n) := by
  simp only [impl_isLeft.f, impl_firstRule.f, if_pos hl, Option.bind_some, first_left]
end Go.Proofs.Ytccekbbefllbgaa.P
namespace Go.Proofs.Ytccekbbefllbgaa.P
open Go.RowKit Go.Proofs.YtccekbbefllbgaaW.PrintWords Go.Proofs.YtccekbbefllbgaaW.PrintLast
set_option linter.unusedVariables false
set_option linter.unusedSimpArgs false
def cvRule (p : SLRule) : SRule := ⟨p.f0, p.f1⟩
theorem rdL_drop (l : List SLRule) (k : Nat) (h : k < l.length) : l.drop k = rd_LRule l k :: l.drop (k + 1) := by
  rw [List.drop_eq_getElem_cons h]
  simp [rd_LRule, List.getD, h]
theorem take_set {α : Type} (l : List α) (i : Nat) (v : α) (h : i < l.length) : (l.set i v).take (i + 1) = l.take i ++ [v] := by
  rw [List.take_succ_eq_append_getElem (by simpa using h)]
  simp only [List.take_set, List.getElem_set_self]
  rw [List.set_eq_of_length_le (by simp; omega)]
theorem toRuleS_l0 (l : List SLRule) (hm : l.length ≤ 17592186044416) : ∀ (d i : Nat) (x : List SRule), i + d = l.length → x.length = l.length → Ev (fun k => laws_toRuleS.l0 k l x i) (x.take i ++ (l.drop i).map cvRule)
  | 0, i, x, h, hx => Ev.mk' 0 fun k _ => by
    simp only [laws_toRuleS.l0]
    rw [if_neg (by omega), List.drop_eq_nil_of_le (by omega), List.take_of_length_le (by omega)]; simp
  | d + 1, i, x, h, hx => by
    obtain ⟨K, ih⟩ := toRuleS_l0 l hm d (i + 1) (x.set i (cvRule (rd_LRule l i))) (by omega) (by simpa using hx)
    dsimp only at ih
    refine Ev.mk' K fun k hk => ?_
    simp only [laws_toRuleS.l0, laws_toRule.f, Option.bind_some]
    rw [if_pos (by omega), if_pos (by omega), if_pos (by omega)]
    rw [show wrap64 ((i : Int) + 1) = ((i + 1 : Nat) : Int) from wrap_id (by omega) (by omega)]
    have := ih k hk
    rw [take_set x i _ (by omega)] at this
    rw [rdL_drop l i (by omega), List.map_cons]
    simpa [cvRule] using this
theorem toRuleS_ev (l : List SLRule) (hm : l.length ≤ 17592186044416) : Ev (fun k => laws_toRuleS.f k l) (l.map cvRule) := by
  obtain ⟨K, ih⟩ := toRuleS_l0 l hm l.length 0 (List.replicate l.length zRule) (by omega) (by simp)
  dsimp only at ih
  refine ⟨K, fun k hk => ?_⟩
  simp only [laws_toRuleS.f]
  rw [if_pos (by omega), if_pos (by simpa using hm)]
  simpa using ih k hk
theorem eqRule_self (x : SRule) : laws_eqRule.f x.f0 x.f1 x.f0 x.f1 = some true := by simp [laws_eqRule.f]
theorem eqRuleS_l0 (l : List SRule) (hm : l.length ≤ 17592186044416) : ∀ (d i : Nat), i + d = l.length → Ev (fun k => laws_eqRuleS.l0 k l l i) true
  | 0, i, h => Ev.mk' 0 fun k _ => by
    simp only [laws_eqRuleS.l0]
    rw [if_neg (by omega)]
  | d + 1, i, h => by
    obtain ⟨K, ih⟩ := eqRuleS_l0 l hm d (i + 1) (by omega)
    dsimp only at ih
    refine Ev.mk' K fun k hk => ?_
    simp only [laws_eqRuleS.l0]
    rw [if_pos (by omega), if_pos (by omega), if_pos (by omega), eqRule_self]
    rw [show wrap64 ((i : Int) + 1) = ((i + 1 : Nat) : Int) from wrap_id (by omega) (by omega)]
    simpa using ih k hk
theorem eqRuleS_ev (l : List SRule) (hm : l.length ≤ 17592186044416) : Ev (fun k => laws_eqRuleS.f k l l) true := by
  obtain ⟨K, ih⟩ := eqRuleS_l0 l hm l.length 0 (by omega)
  refine ⟨K, fun k hk => ?_⟩
  simp only [laws_eqRuleS.f]
  rw [if_pos trivial]
  exact ih k hk
theorem szRuleS_ok (l : List SLRule) (hm : l.length ≤ 9223372036854775807) : laws_szRuleS.f l 1048576 = some (if l.length ≤ 1048576 then 1048576 - (l.length : Int) else -1) := by
  unfold laws_szRuleS.f
  have : wrap64 (1048576 - (l.length : Int)) = 1048576 - (l.length : Int) := wrap_id (by omega) (by omega)
  rw [this]
  by_cases h : l.length ≤ 1048576
  · rw [if_neg (by omega), if_pos h]
  · rw [if_pos (by omega), if_neg h]
end Go.Proofs.Ytccekbbefllbgaa.P
namespace Go.Proofs.Ytccekbbefllbgaa.P
open Go.RowKit Go.Proofs.YtccekbbefllbgaaW.PrintWords Go.Proofs.YtccekbbefllbgaaW.PrintLast
set_option linter.unusedVariables false
set_option linter.unusedSimpArgs false
def lefts (l : List SRule) (i : Int) : Nat → List Int
  | 0 => []
  | m + 1 => (if left l i = true then [i] else []) ++ lefts l (i + 1) m
theorem lefts_length (l : List SRule) (m : Nat) : ∀ i, (lefts l i m).length ≤ m := by
  induction m with
  | zero => intro i; simp [lefts]
  | succ m ih =>
    intro i
    have := ih (i + 1)
    simp only [lefts, List.length_append]
    split <;> simp <;> omega
theorem leftBetween_l0 (l : List SRule) (hl : l.all okRule = true) (hi : Int) (h2 : hi ≤ 4611686018427387904) : ∀ (m : Nat) (i : Int) (acc : List Int), i + m = hi + 1 → -4611686018427387904 ≤ i → acc.length + m < 17592186044416 → Ev (fun k => impl_leftBetween.l0 k l hi acc i) (acc ++ lefts l i m)
  | 0, i, acc, h, h0, h1 => Ev.mk' 0 fun k _ => by
    simp only [impl_leftBetween.l0]
    rw [if_neg (by omega)]; simp [lefts]
  | m + 1, i, acc, h, h0, h1 => by
    simp only [lefts]
    by_cases hc : left l i = true
    · obtain ⟨K, ih⟩ := leftBetween_l0 l hl hi h2 m (i + 1) (acc ++ [i]) (by omega) (by omega) (by simp; omega)
      dsimp only at ih
      refine Ev.mk' K fun k hk => ?_
      simp only [impl_leftBetween.l0, isLeft_ok i l hl, Option.bind_some]
      rw [if_pos (by omega), if_pos hc, if_pos (by omega), wrap_id (by omega) (by omega), ih k hk, if_pos hc]
      simp
    · obtain ⟨K, ih⟩ := leftBetween_l0 l hl hi h2 m (i + 1) acc (by omega) (by omega) (by omega)
      dsimp only at ih
      refine Ev.mk' K fun k hk => ?_
      simp only [impl_leftBetween.l0, isLeft_ok i l hl, Option.bind_some]
      rw [if_pos (by omega), if_neg hc, wrap_id (by omega) (by omega), ih k hk, if_neg hc]
      simp
def leftsTo (l : List SRule) (lo hi : Int) : List Int := lefts l lo (hi + 1 - lo).toNat
theorem leftBetween_ev (l : List SRule) (hl : l.all okRule = true) (lo hi : Int) (h0 : -4611686018427387904 ≤ lo) (h2 : hi ≤ 4611686018427387904) (h1 : hi - lo < 17592186044415) : Ev (fun k => impl_leftBetween.f k l lo hi) (leftsTo l lo hi) := by
  unfold leftsTo
  by_cases h : lo ≤ hi + 1
  · obtain ⟨K, ih⟩ := leftBetween_l0 l hl hi h2 (hi + 1 - lo).toNat lo [] (by omega) h0 (by simp; omega)
    refine ⟨K, fun k hk => ?_⟩
    simp only [impl_leftBetween.f]
    simpa using ih k hk
  · refine Ev.mk' 0 fun k _ => ?_
    simp only [impl_leftBetween.f, impl_leftBetween.l0]
    rw [if_neg (by omega), show (hi + 1 - lo).toNat = 0 by omega]; rfl
end Go.Proofs.Ytccekbbefllbgaa.P
namespace Go.Proofs.Ytccekbbefllbgaa.P
open Go.RowKit Go.Proofs.YtccekbbefllbgaaW.PrintWords Go.Proofs.YtccekbbefllbgaaW.PrintLast
set_option linter.unusedVariables false
set_option linter.unusedSimpArgs false
theorem rd_dropG (l : List Int) (k : Nat) (h : k < l.length) : l.drop k = rd l k :: l.drop (k + 1) := by
  rw [List.drop_eq_getElem_cons h]
  simp [rd, List.getD, h]
def dif : Int → List Int → List Int
  | _, [] => []
  | a, b :: t => wrap64 (b - a) :: dif b t
def frm : Int → List Int → List Int
  | _, [] => []
  | a, b :: t => a :: frm b t
theorem dif_length : ∀ (l : List Int) (a : Int), (dif a l).length = l.length
  | [], _ => rfl
  | b :: t, a => by simp [dif, dif_length t b]
theorem frm_length : ∀ (l : List Int) (a : Int), (frm a l).length = l.length
  | [], _ => rfl
  | b :: t, a => by simp [frm, frm_length t b]
def gapsL (l : List Int) : List Int := dif (rd l 0) (l.drop 1)
def fromL (l : List Int) : List Int := frm (rd l 0) (l.drop 1)
theorem gapsL_length (l : List Int) : (gapsL l).length = l.length - 1 := by simp [gapsL, dif_length]
theorem fromL_length (l : List Int) : (fromL l).length = l.length - 1 := by simp [fromL, frm_length]
theorem gapsOf_l0 (l : List Int) (hm : l.length < 17592186044416) : ∀ (d i : Nat) (a b : List Int), i + 1 + d = l.length → a.length ≤ i → b.length ≤ i → Ev (fun k => impl_gapsOf.l0 k l a b ((i + 1 : Nat) : Int)) (a ++ frm (rd l i) (l.drop (i + 1)), b ++ dif (rd l i) (l.drop (i + 1)))
  | 0, i, a, b, h, ha, hb => Ev.mk' 0 fun k _ => by
    simp only [impl_gapsOf.l0]
    rw [if_neg (by omega), List.drop_eq_nil_of_le (by omega)]; simp [frm, dif]
  | d + 1, i, a, b, h, ha, hb => by
    obtain ⟨K, ih⟩ := gapsOf_l0 l hm d (i + 1) (a ++ [rd l i]) (b ++ [wrap64 (rd l ((i + 1 : Nat) : Int) - rd l i)]) (by omega) (by simp; omega) (by simp; omega)
    dsimp only at ih
    refine Ev.mk' K fun k hk => ?_
    simp only [impl_gapsOf.l0]
    rw [show wrap64 (((i + 1 : Nat) : Int) - 1) = (i : Int) by rw [wrap_id (by omega) (by omega)]; omega]
    rw [if_pos (by omega), if_pos (by omega), if_pos (by omega), if_pos (by omega), if_pos (by omega), if_pos (by omega)]
    rw [show wrap64 (((i + 1 : Nat) : Int) + 1) = ((i + 1 + 1 : Nat) : Int) from wrap_id (by omega) (by omega), ih k hk]
    rw [rd_dropG l (i + 1) (by omega), frm, dif]
    simp
theorem gapsOf_ev (l : List Int) (hm : l.length < 17592186044416) : Ev (fun k => impl_gapsOf.f k l) (fromL l, gapsL l) := by
  cases l with
  | nil =>
    refine Ev.mk' 0 fun k _ => ?_
    simp only [impl_gapsOf.f, impl_gapsOf.l0]
    rw [if_neg (by simp)]; rfl
  | cons x t =>
    obtain ⟨K, ih⟩ := gapsOf_l0 (x :: t) hm t.length 0 [] [] (by simp; omega) (by simp) (by simp)
    exact ⟨K, fun k hk => ih k hk⟩
end Go.Proofs.Ytccekbbefllbgaa.P
namespace Go.Proofs.Ytccekbbefllbgaa.P
open Go.RowKit Go.Proofs.YtccekbbefllbgaaW.PrintWords Go.Proofs.YtccekbbefllbgaaW.PrintLast
set_option linter.unusedVariables false
set_option linter.unusedSimpArgs false
theorem gcd_l0 : ∀ (n m : Nat), Ev (fun k => impl_gcd.l0 k (m : Int) (n : Int)) ((Nat.gcd m n : Nat) : Int) := by
  intro n
  induction n using Nat.strongRecOn with
  | _ n ih =>
    intro m
    by_cases h : n = 0
    · subst h
      refine Ev.mk' 0 fun k _ => ?_
      simp only [impl_gcd.l0]
      rw [if_neg (by omega)]; simp
    · obtain ⟨K, h2⟩ := ih (m % n) (Nat.mod_lt _ (by omega)) n
      dsimp only at h2
      refine Ev.mk' K fun k hk => ?_
      simp only [impl_gcd.l0]
      rw [if_pos (by omega), if_neg (by omega), show Int.tmod (m : Int) (n : Int) = ((m % n : Nat) : Int) from rfl, h2 k hk]
      rw [Nat.gcd_comm m n, Nat.gcd_rec n m, Nat.gcd_comm]
theorem siCommon_l0 : ∀ (k : Nat) (a b : Int), spec_siCommon.l0 k a b = impl_gcd.l0 k a b
  | 0, _, _ => rfl
  | k + 1, a, b => by simp only [spec_siCommon.l0, impl_gcd.l0, siCommon_l0 k]
def perN : Nat → List SRule → Option Nat
  | p, [] => some p
  | p, x :: t => if Nat.lcm p x.f0.toNat > 100000 then none else perN (Nat.lcm p x.f0.toNat) t
theorem lcm_step (p e : Nat) : p / Nat.gcd p e * e = Nat.lcm p e := by
  rw [Nat.lcm, Nat.mul_comm p e, Nat.mul_div_assoc _ (Nat.gcd_dvd_left p e), Nat.mul_comm]
theorem lcm_pos' {p e : Nat} (h : 0 < p) (h2 : 0 < e) : 0 < Nat.lcm p e := Nat.lcm_pos h h2
theorem step_val (p : Nat) (e : Int) (hp : 0 < p) (hp2 : p ≤ 100000) (h1 : 2 ≤ e) (h2 : e ≤ 60) :
    wrap64 (wrap64 (Int.tdiv (p : Int) ((Nat.gcd p e.toNat : Nat) : Int)) * e) = ((Nat.lcm p e.toNat : Nat) : Int) := by
  have hd : Int.tdiv (p : Int) ((Nat.gcd p e.toNat : Nat) : Int) = ((p / Nat.gcd p e.toNat : Nat) : Int) := rfl
  have hq : p / Nat.gcd p e.toNat ≤ 100000 := Nat.le_trans (Nat.div_le_self _ _) hp2
  rw [hd, show wrap64 ((p / Nat.gcd p e.toNat : Nat) : Int) = ((p / Nat.gcd p e.toNat : Nat) : Int) from by generalize p / Nat.gcd p e.toNat = q at hq ⊢; exact wrap_id (by omega) (by omega)]
  have hm : ((p / Nat.gcd p e.toNat : Nat) : Int) * e = ((Nat.lcm p e.toNat : Nat) : Int) := by
    rw [← lcm_step p e.toNat, Int.natCast_mul, Int.toNat_of_nonneg (by omega)]
  rw [hm]
  have hl : Nat.lcm p e.toNat ≤ 100000 * 60 := by
    rw [← lcm_step]; exact Nat.mul_le_mul hq (by omega)
  exact wrap_id (by omega) (by omega)
theorem lcmOf_l0 (l : List SRule) (hm : l.length ≤ 12) (hl : l.all okRule = true) : ∀ (d i p : Nat), i + d = l.length → 0 < p → p ≤ 100000 →
    Ev (fun k => impl_lcmOf.l0 k p l l.length i) (match perN p (l.drop i) with | some q => ((q : Int), true) | none => (0, false)) ∧
    Ev (fun k => spec_siPeriod.l0 k p l l.length i) (match perN p (l.drop i) with | some q => (q : Int) | none => 0)
  | 0, i, p, h, h1, h2 => by
    rw [List.drop_eq_nil_of_le (by omega)]
    constructor
    · refine Ev.mk' 0 fun k _ => ?_
      simp only [impl_lcmOf.l0]
      rw [if_neg (by omega)]; rfl
    · refine Ev.mk' 0 fun k _ => ?_
      simp only [spec_siPeriod.l0]
      rw [if_neg (by omega)]; rfl
  | d + 1, i, p, h, h1, h2 => by
    have ho := (okRule_iff _).1 (List.all_eq_true.mp hl _ (rd_mem l i (by omega)))
    have he : ((rd_Rule l i).f0.toNat : Int) = (rd_Rule l i).f0 := Int.toNat_of_nonneg (by omega)
    obtain ⟨Kg, hg⟩ := gcd_l0 (rd_Rule l i).f0.toNat p
    dsimp only at hg
    rw [he] at hg
    have hs := step_val p (rd_Rule l i).f0 h1 h2 ho.1 ho.2.1
    have hg0 : ((Nat.gcd p (rd_Rule l i).f0.toNat : Nat) : Int) ≠ 0 := by
      have := Nat.gcd_pos_of_pos_left (rd_Rule l i).f0.toNat h1
      omega
    have hpos := lcm_pos' (e := (rd_Rule l i).f0.toNat) h1 (by omega)
    rw [rd_drop l i (by omega), perN]
    by_cases hc : Nat.lcm p (rd_Rule l i).f0.toNat > 100000
    · rw [if_pos hc]
      constructor
      · refine Ev.mk' Kg fun k hk => ?_
        simp only [impl_lcmOf.l0, impl_gcd.f, hg k hk, Option.bind_some, hs]
        rw [if_pos (by omega), if_pos (by omega), if_pos (by omega), if_neg hg0, if_pos (by omega)]
      · refine Ev.mk' Kg fun k hk => ?_
        simp only [spec_siPeriod.l0, spec_siCommon.f, siCommon_l0, hg k hk, Option.bind_some, hs]
        rw [if_pos (by omega), if_pos (by omega), if_pos (by omega), if_neg hg0, if_pos (by omega)]
    · rw [if_neg hc]
      obtain ⟨⟨K1, i1⟩, ⟨K2, i2⟩⟩ := lcmOf_l0 l hm hl d (i + 1) (Nat.lcm p (rd_Rule l i).f0.toNat) (by omega) hpos (by omega)
      dsimp only at i1 i2
      constructor
      · refine Ev.mk' (Kg + K1) fun k hk => ?_
        simp only [impl_lcmOf.l0, impl_gcd.f, hg k (by omega), Option.bind_some, hs]
        rw [if_pos (by omega), if_pos (by omega), if_pos (by omega), if_neg hg0, if_neg (by omega), show wrap64 ((i : Int) + 1) = ((i + 1 : Nat) : Int) from wrap_id (by omega) (by omega), i1 k (by omega)]
      · refine Ev.mk' (Kg + K2) fun k hk => ?_
        simp only [spec_siPeriod.l0, spec_siCommon.f, siCommon_l0, hg k (by omega), Option.bind_some, hs]
        rw [if_pos (by omega), if_pos (by omega), if_pos (by omega), if_neg hg0, if_neg (by omega), show wrap64 ((i : Int) + 1) = ((i + 1 : Nat) : Int) from wrap_id (by omega) (by omega), i2 k (by omega)]
theorem perN_pos : ∀ (l : List SRule) (p q : Nat), l.all okRule = true → 0 < p → p ≤ 100000 → perN p l = some q → 0 < q ∧ q ≤ 100000
  | [], p, q, _, h, h2, he => by simp [perN] at he; omega
  | x :: t, p, q, ha, h, h2, he => by
    rw [perN] at he
    simp only [List.all_cons, Bool.and_eq_true] at ha
    have hx := (okRule_iff x).1 ha.1
    split at he
    · simp at he
    · exact perN_pos t _ q ha.2 (lcm_pos' h (by omega)) (by omega) he
def period (l : List SRule) : Option Nat := if goodRules l = true then perN 1 l else none
theorem period_some {l : List SRule} {p : Nat} (h : period l = some p) : goodRules l = true ∧ 0 < p ∧ p ≤ 100000 := by
  unfold period at h
  split at h
  · next hg => exact ⟨hg, perN_pos l 1 p (good_all hg).2 (by omega) (by omega) h⟩
  · simp at h
theorem periodOf_ev (l : List SRule) : Ev (fun k => impl_periodOf.f k l) (match period l with | some q => ((q : Int), true) | none => (0, false)) := by
  unfold period
  by_cases hg : goodRules l = true
  · rw [if_pos hg]
    obtain ⟨⟨K1, i1⟩, -⟩ := lcmOf_l0 l (good_all hg).1 (good_all hg).2 l.length 0 1 (by omega) (by omega) (by omega)
    refine ⟨K1, fun k hk => ?_⟩
    have i1 : impl_lcmOf.l0 k 1 l l.length 0 = _ := i1 k hk
    simp only [impl_periodOf.f, areRules_ok, hg, Option.bind_some, if_true, impl_lcmOf.f, i1, List.drop_zero]
  · rw [if_neg hg]
    refine ⟨0, fun k _ => ?_⟩
    simp only [impl_periodOf.f, areRules_ok, Option.bind_some]
    rw [if_neg hg]
theorem siPeriod_ev (l : List SRule) (hg : goodRules l = true) : Ev (fun k => spec_siPeriod.f k l) (match period l with | some q => (q : Int) | none => 0) := by
  unfold period
  rw [if_pos hg]
  obtain ⟨-, ⟨K1, i1⟩⟩ := lcmOf_l0 l (good_all hg).1 (good_all hg).2 l.length 0 1 (by omega) (by omega) (by omega)
  exact ⟨K1, fun k hk => i1 k hk⟩
end Go.Proofs.Ytccekbbefllbgaa.P
namespace Go.Proofs.Ytccekbbefllbgaa.P
open Go.RowKit Go.Proofs.YtccekbbefllbgaaW.PrintWords Go.Proofs.YtccekbbefllbgaaW.PrintLast
set_option linter.unusedVariables false
set_option linter.unusedSimpArgs false
def perL (l : List SRule) (p : Nat) : List Int := leftsTo l 0 ((p : Int) - 1)
theorem perL_length (l : List SRule) (p : Nat) : (perL l p).length ≤ p := by
  have := lefts_length l ((p : Int) - 1 + 1 - 0).toNat 0
  unfold perL leftsTo
  omega
def perL1 (l : List SRule) (p : Nat) : List Int := perL l p ++ [wrap64 (rd (perL l p) 0 + (p : Int))]
def gpL (l : List SRule) : List Int × Bool := match period l with | some p => (perL l p, decide ((perL l p).length > 0)) | none => ([], false)
theorem decide_len (l : List Int) : decide ((l.length : Int) > 0) = decide (l.length > 0) := by
  rw [Bool.eq_iff_iff]; simp
theorem gpLeft_l0 (l : List SRule) (p : Nat) (hp : period l = some p) : ∀ (m : Nat) (i : Int) (acc : List Int), i + m = p → 0 ≤ i → acc.length + m < 17592186044416 → Ev (fun k => spec_gpLeft.l0 k l acc i) (acc ++ lefts l i m, decide ((acc ++ lefts l i m).length > 0))
  | 0, i, acc, h, h0, h1 => by
    obtain ⟨hg, hp0, hp1⟩ := period_some hp
    obtain ⟨K, hK⟩ := siPeriod_ev l hg
    dsimp only at hK
    rw [hp] at hK
    refine Ev.mk' K fun k hk => ?_
    simp only [spec_gpLeft.l0, hK k hk, Option.bind_some]
    rw [if_neg (by omega), decide_len]; simp [lefts]
  | m + 1, i, acc, h, h0, h1 => by
    obtain ⟨hg, hp0, hp1⟩ := period_some hp
    obtain ⟨K2, hK⟩ := siPeriod_ev l hg
    dsimp only at hK
    rw [hp] at hK
    obtain ⟨K1, h3⟩ := siLeft_ev i l (by have := (good_all hg).1; omega) (good_all hg).2
    dsimp only at h3
    simp only [lefts]
    by_cases hc : left l i = true
    · obtain ⟨K, ih⟩ := gpLeft_l0 l p hp m (i + 1) (acc ++ [i]) (by omega) (by omega) (by simp; omega)
      dsimp only at ih
      refine Ev.mk' (K + K1 + K2) fun k hk => ?_
      simp only [spec_gpLeft.l0, hK k (by omega), h3 k (by omega), Option.bind_some]
      rw [if_pos (by omega), if_pos hc, if_pos (by omega), wrap_id (by omega) (by omega), ih k (by omega)]
      simp [hc]
    · obtain ⟨K, ih⟩ := gpLeft_l0 l p hp m (i + 1) acc (by omega) (by omega) (by omega)
      dsimp only at ih
      refine Ev.mk' (K + K1 + K2) fun k hk => ?_
      simp only [spec_gpLeft.l0, hK k (by omega), h3 k (by omega), Option.bind_some]
      rw [if_pos (by omega), if_neg hc, wrap_id (by omega) (by omega), ih k (by omega)]
      simp [hc]
theorem gpLeft_ev (l : List SRule) : Ev (fun k => spec_gpLeft.f k l) (gpL l) := by
  obtain ⟨K1, h1⟩ := siGood_ev l
  dsimp only at h1
  unfold gpL
  by_cases hg : goodRules l = true
  · obtain ⟨K2, h2⟩ := siPeriod_ev l hg
    dsimp only at h2
    cases hp : period l with
    | none =>
      rw [hp] at h2
      refine Ev.mk' (K1 + K2) fun k hk => ?_
      simp (disch := omega) only [spec_gpLeft.f, h1, h2, hg, Option.bind_some, if_true, spec_gpLeft.j0]
      simp
    | some p =>
      rw [hp] at h2
      obtain ⟨-, hp0, hp1⟩ := period_some hp
      obtain ⟨K3, h3⟩ := gpLeft_l0 l p hp p 0 [] (by omega) (by omega) (by simp; omega)
      dsimp only at h3
      refine Ev.mk' (K1 + K2 + K3) fun k hk => ?_
      have e : (((p : Nat) : Int) == 0) = false := by simp; omega
      simp (disch := omega) only [spec_gpLeft.f, h1, h2, h3, hg, e, Option.bind_some, if_true, spec_gpLeft.j0]
      unfold perL leftsTo
      rw [show ((p : Int) - 1 + 1 - 0).toNat = p by omega]
      simp
  · have hp : period l = none := by unfold period; rw [if_neg hg]
    rw [hp]
    refine Ev.mk' (K1) fun k hk => ?_
    simp (disch := omega) only [spec_gpLeft.f, h1, Option.bind_some, spec_gpLeft.j0]
    rw [if_neg hg]; rfl
theorem frm_snoc (x : Int) : ∀ (t : List Int) (a : Int), frm a (t ++ [x]) = a :: t
  | [], a => rfl
  | b :: t, a => by simp [frm, frm_snoc x t b]
theorem rd_zero_app (l : List Int) (x : Int) (h : l ≠ []) : rd (l ++ [x]) 0 = rd l 0 := by
  cases l with
  | nil => exact absurd rfl h
  | cons y t => simp [rd]
theorem fromL_snoc (l : List Int) (x : Int) (h : l ≠ []) : fromL (l ++ [x]) = l := by
  unfold fromL
  rw [rd_zero_app l x h]
  cases l with
  | nil => exact absurd rfl h
  | cons y t => simp [rd, frm_snoc]
def pgaps (l : List SRule) : List Int × List Int × Bool := match period l with
  | some p => if perL l p = [] then ([], [], false) else (perL l p, gapsL (perL1 l p), true)
  | none => ([], [], false)
theorem periodGaps_ev (l : List SRule) : Ev (fun k => impl_periodGaps.f k l) (pgaps l) := by
  obtain ⟨K1, h1⟩ := periodOf_ev l
  dsimp only at h1
  unfold pgaps
  cases hp : period l with
  | none =>
    rw [hp] at h1
    refine ⟨K1, fun k hk => ?_⟩
    simp (disch := omega) only [impl_periodGaps.f, h1, Option.bind_some]
    simp
  | some p =>
    rw [hp] at h1
    obtain ⟨hg, hp0, hp1⟩ := period_some hp
    have hl := perL_length l p
    obtain ⟨K2, h2⟩ := leftBetween_ev l (good_all hg).2 0 ((p : Int) - 1) (by omega) (by omega) (by omega)
    obtain ⟨K3, h3⟩ := gapsOf_ev (perL1 l p) (by simp [perL1]; omega)
    dsimp only at h2 h3
    refine ⟨K1 + K2 + K3, fun k hk => ?_⟩
    simp (disch := omega) only [impl_periodGaps.f, h1, Option.bind_some, if_true]
    rw [wrap_id (by omega) (by omega), h2 k (by omega), show leftsTo l 0 ((p : Int) - 1) = perL l p from rfl]
    simp only [Option.bind_some]
    by_cases he : perL l p = []
    · rw [if_pos he, if_pos (by rw [he]; rfl)]
    · have : 0 < (perL l p).length := List.length_pos_iff.mpr he
      rw [if_neg he, if_neg (by omega), if_pos (by omega), if_pos (by omega), show perL l p ++ [wrap64 (rd (perL l p) 0 + (p : Int))] = perL1 l p from rfl, h3 k (by omega)]
      simp only [Option.bind_some]
      rw [show fromL (perL1 l p) = perL l p from fromL_snoc _ _ he]
end Go.Proofs.Ytccekbbefllbgaa.P
namespace Go.Proofs.Ytccekbbefllbgaa.P
open Go.RowKit Go.Proofs.YtccekbbefllbgaaW.PrintWords Go.Proofs.YtccekbbefllbgaaW.PrintLast
set_option linter.unusedVariables false
set_option linter.unusedSimpArgs false
theorem rd_app_left (l : List Int) (x : Int) (i : Nat) (h : i < l.length) : rd (l ++ [x]) i = rd l i := by
  unfold rd
  simp only [Int.toNat_natCast, List.getD_eq_getElem?_getD]
  rw [List.getElem?_append_left h]
theorem rd_app_last (l : List Int) (x : Int) : rd (l ++ [x]) (l.length : Int) = x := by
  simp [rd]
theorem gpGaps_l0 (l : List SRule) (L : List Int) (q : Int) (hl : L.length ≤ 100000) (hpos : 0 < L.length) (hper : Ev (fun k => spec_siPeriod.f k l) q) (M : List Int) (hM : M = L ++ [wrap64 (rd L 0 + q)]) : ∀ (d i : Nat) (acc : List Int), i + d = L.length → acc.length ≤ i → Ev (fun k => spec_gpGaps.l0 k l L acc L L.length i) (acc ++ dif (rd M i) (M.drop (i + 1)), L, true)
  | 0, i, acc, h, ha => Ev.mk' 0 fun k _ => by
    have hlen : M.length = L.length + 1 := by rw [hM]; simp
    simp only [spec_gpGaps.l0]
    rw [if_neg (by omega), List.drop_eq_nil_of_le (by omega)]; simp [dif]
  | d + 1, i, acc, h, ha => by
    obtain ⟨K2, hK⟩ := hper
    dsimp only at hK
    have hlen : M.length = L.length + 1 := by rw [hM]; simp
    have hri : rd M (i : Int) = rd L i := by rw [hM]; exact rd_app_left _ _ i (by omega)
    obtain ⟨K, ih⟩ := gpGaps_l0 l L q hl hpos ⟨K2, hK⟩ M hM d (i + 1) (acc ++ [wrap64 (rd M ((i + 1 : Nat) : Int) - rd M i)]) (by omega) (by simp; omega)
    dsimp only at ih
    refine Ev.mk' (K + K2) fun k hk => ?_
    simp only [spec_gpGaps.l0]
    rw [if_pos (by omega), if_pos (by omega), if_pos (by omega), if_pos (by omega), hK k (by omega)]
    simp only [obind]
    rw [show wrap64 ((i : Int) + 1) = ((i + 1 : Nat) : Int) from wrap_id (by omega) (by omega)]
    rw [rd_dropG M (i + 1) (by omega), dif]
    by_cases hc : i + 1 < L.length
    · rw [if_pos (by omega), if_pos (by omega), if_pos (by omega)]
      have e : rd M ((i + 1 : Nat) : Int) = rd L ((i + 1 : Nat) : Int) := by rw [hM]; exact rd_app_left _ _ (i + 1) hc
      rw [← e, ← hri, ih k (by omega)]
      simp
    · rw [if_neg (by omega), if_pos (by omega)]
      have e : rd M ((i + 1 : Nat) : Int) = wrap64 (rd L 0 + q) := by
        rw [hM, show i + 1 = L.length by omega]; exact rd_app_last _ _
      rw [← e, ← hri, ih k (by omega)]
      simp
def gpG (l : List SRule) : List Int × List Int × Bool := ((pgaps l).2.1, (pgaps l).1, (pgaps l).2.2)
theorem gpGaps_ev (l : List SRule) : Ev (fun k => spec_gpGaps.f k l) (gpG l) := by
  obtain ⟨K1, h1⟩ := gpLeft_ev l
  dsimp only at h1
  unfold gpG pgaps
  cases hp : period l with
  | none =>
    refine ⟨K1, fun k hk => ?_⟩
    simp only [spec_gpGaps.f, h1 k hk, gpL, hp, obind]
    simp
  | some p =>
    by_cases he : perL l p = []
    · refine ⟨K1, fun k hk => ?_⟩
      simp only [spec_gpGaps.f, h1 k hk, gpL, hp, obind, he]
      simp
    · have hpos : 0 < (perL l p).length := List.length_pos_iff.mpr he
      obtain ⟨hg, hp0, hp1⟩ := period_some hp
      have hper := siPeriod_ev l hg
      rw [hp] at hper
      have hl := perL_length l p
      obtain ⟨K2, h2⟩ := gpGaps_l0 l (perL l p) p (by omega) hpos hper (perL1 l p) rfl (perL l p).length 0 [] (by omega) (by simp)
      have h2 : ∀ k, K2 ≤ k → spec_gpGaps.l0 k l (perL l p) [] (perL l p) (perL l p).length 0 = _ := h2
      refine ⟨K1 + K2, fun k hk => ?_⟩
      simp (disch := omega) only [spec_gpGaps.f, h1, gpL, hp, obind, h2]
      simp [he, hpos, gapsL]
end Go.Proofs.Ytccekbbefllbgaa.P
namespace Go.Proofs.Ytccekbbefllbgaa.P
open Go.RowKit Go.Proofs.YtccekbbefllbgaaW.PrintWords Go.Proofs.YtccekbbefllbgaaW.PrintLast
set_option linter.unusedVariables false
set_option linter.unusedSimpArgs false
def vGaps (l : List SRule) : List Int × Bool := ((pgaps l).2.1, (pgaps l).2.2)
theorem pgaps_len3 (l : List SRule) : (pgaps l).2.1.length ≤ 100000 ∧ ((pgaps l).2.2 = false → (pgaps l).2.1 = []) := by
  unfold pgaps
  cases hp : period l with
  | none => simp
  | some p =>
    obtain ⟨hg, hp0, hp1⟩ := period_some hp
    have hl := perL_length l p
    by_cases he : perL l p = []
    · simp [he]
    · have : 0 < (perL l p).length := List.length_pos_iff.mpr he
      simp only [he, if_false, gapsL_length]
      simp [perL1]; omega
theorem vGaps_len (l : List SRule) : (vGaps l).1.length ≤ 100000 := (pgaps_len3 l).1
theorem GapsOfPeriod_main (l : List SRule) : Ev (fun k => spec_GapsOfPeriod.f k l) (vGaps l) ∧ Ev (fun k => impl_GapsOfPeriod.f k l) (vGaps l) := by
  obtain ⟨K1, h1⟩ := gpGaps_ev l
  obtain ⟨K2, h2⟩ := periodGaps_ev l
  dsimp only at h1 h2
  have h0 := (pgaps_len3 l).2
  constructor
  · refine ⟨K1, fun k hk => ?_⟩
    simp (disch := omega) only [spec_GapsOfPeriod.f, h1, obind, gpG, vGaps]
    cases hg : (pgaps l).2.2
    · simp [h0 hg]
    · simp
  · refine ⟨K2, fun k hk => ?_⟩
    simp (disch := omega) only [impl_GapsOfPeriod.f, h2, obind, vGaps]
end Go.Proofs.Ytccekbbefllbgaa.P
namespace Go.Proofs.Ytccekbbefllbgaa.P
open Go.RowKit Go.Proofs.YtccekbbefllbgaaW.PrintWords Go.Proofs.YtccekbbefllbgaaW.PrintLast
set_option linter.unusedVariables false
set_option linter.unusedSimpArgs false
def marksR (a : Int) : Nat → List SRule
  | 0 => []
  | n + 1 => ⟨a, a + 1⟩ :: marksR (a + 2) n
theorem marksR_length (n : Nat) : ∀ a, (marksR a n).length = n := by
  induction n with
  | zero => intro a; rfl
  | succ n ih => intro a; simp [marksR, ih]
theorem rd_set (l : List SRule) (i : Nat) (v : SRule) (h : i < l.length) : rd_Rule (l.set i v) i = v := by
  simp [rd_Rule, List.getD, h]
theorem markRuleS_l0 : ∀ (d i : Nat) (a : Int) (x : List SRule), i + d = x.length → 0 ≤ a → a + 2 * d ≤ 4611686018427387904 → x.length ≤ 4611686018427387904 → Ev (fun k => laws_markRuleS.l0 k x a i) (a + 2 * d, x.take i ++ marksR a d)
  | 0, i, a, x, h, h0, h1, h2 => Ev.mk' 0 fun k _ => by
    simp only [laws_markRuleS.l0]
    rw [if_neg (by omega), List.take_of_length_le (by omega)]; simp [marksR]
  | d + 1, i, a, x, h, h0, h1, h2 => by
    obtain ⟨K, ih⟩ := markRuleS_l0 d (i + 1) (a + 2) (x.set i ⟨a, a + 1⟩) (by simp; omega) (by omega) (by omega) (by simpa using h2)
    dsimp only at ih
    refine Ev.mk' K fun k hk => ?_
    simp only [laws_markRuleS.l0, Option.bind_some, Int.toNat_natCast]
    rw [if_pos (by omega), if_pos (by omega)]
    rw [show wrap64 ((i : Int) + 1) = ((i + 1 : Nat) : Int) from wrap_id (by omega) (by omega), show wrap64 (a + 1) = a + 1 from wrap_id (by omega) (by omega), show wrap64 (a + 1 + 1) = a + 2 by rw [wrap_id (by omega) (by omega)]; omega]
    rw [rd_set x i _ (by omega), List.set_set]
    have := ih k hk
    rw [take_set x i _ (by omega)] at this
    rw [this, marksR]
    simp; omega
theorem markRuleS_ev (x : List SRule) (a : Int) (h0 : 0 ≤ a) (h1 : a + 2 * x.length ≤ 4611686018427387904) (h2 : x.length ≤ 4611686018427387904) : Ev (fun k => laws_markRuleS.f k x a) (a + 2 * x.length, marksR a x.length) := by
  obtain ⟨K, ih⟩ := markRuleS_l0 x.length 0 a x (by omega) h0 h1 h2
  refine ⟨K, fun k hk => ?_⟩
  simp only [laws_markRuleS.f]
  simpa using ih k hk
theorem heldRuleS_l0 : ∀ (d : Nat) (a : Int) (p : List SRule), 0 ≤ a → a + 2 * d ≤ 4611686018427387904 → p.length + d ≤ 4611686018427387904 → Ev (fun k => laws_heldRuleS.l0 k (p ++ marksR a d) a p.length) (a + 2 * d)
  | 0, a, p, h0, h1, h2 => Ev.mk' 0 fun k _ => by
    simp only [laws_heldRuleS.l0]
    rw [if_neg (by simp [marksR])]; simp
  | d + 1, a, p, h0, h1, h2 => by
    obtain ⟨K, ih⟩ := heldRuleS_l0 d (a + 2) (p ++ [⟨a, a + 1⟩]) (by omega) (by omega) (by simp; omega)
    dsimp only at ih
    refine Ev.mk' K fun k hk => ?_
    simp only [laws_heldRuleS.l0]
    have hr : rd_Rule (p ++ marksR a (d + 1)) (p.length : Int) = ⟨a, a + 1⟩ := by simp [rd_Rule, marksR]
    rw [if_pos (by simp [marksR_length]; omega), if_pos (by omega), hr]
    rw [show wrap64 ((p.length : Int) + 1) = ((p.length + 1 : Nat) : Int) from wrap_id (by omega) (by omega), show wrap64 (a + 1) = a + 1 from wrap_id (by omega) (by omega), show wrap64 (a + 1 + 1) = a + 2 by rw [wrap_id (by omega) (by omega)]; omega]
    rw [if_pos rfl, if_pos rfl]
    have := ih k hk
    simp only [List.length_append, List.length_singleton, List.append_assoc, List.singleton_append] at this
    rw [marksR, this]
    congr 1; omega
theorem heldRuleS_ev (n : Nat) (a : Int) (h0 : 0 ≤ a) (h1 : a + 2 * n ≤ 4611686018427387904) (h2 : n ≤ 4611686018427387904) : Ev (fun k => laws_heldRuleS.f k (marksR a n) a) (a + 2 * n) := by
  obtain ⟨K, ih⟩ := heldRuleS_l0 n a [] h0 h1 (by simpa using h2)
  refine ⟨K, fun k hk => ?_⟩
  simp only [laws_heldRuleS.f]
  simpa using ih k hk
end Go.Proofs.Ytccekbbefllbgaa.P
namespace Go.Proofs.Ytccekbbefllbgaa.P
open Go.RowKit Go.Proofs.YtccekbbefllbgaaW.PrintWords Go.Proofs.YtccekbbefllbgaaW.PrintLast
set_option linter.unusedVariables false
set_option linter.unusedSimpArgs false
theorem rd_dropI (l : List Int) (k : Nat) (h : k < l.length) : l.drop k = rd l k :: l.drop (k + 1) := by
  rw [List.drop_eq_getElem_cons h]
  simp [rd, List.getD, h]
theorem eqIntS_l0 (l : List Int) (hm : l.length ≤ 17592186044416) : ∀ (d i : Nat), i + d = l.length → Ev (fun k => laws_eqIntS.l0 k l l i) true
  | 0, i, h => Ev.mk' 0 fun k _ => by
    simp only [laws_eqIntS.l0]
    rw [if_neg (by omega)]
  | d + 1, i, h => by
    obtain ⟨K, ih⟩ := eqIntS_l0 l hm d (i + 1) (by omega)
    dsimp only at ih
    refine Ev.mk' K fun k hk => ?_
    simp only [laws_eqIntS.l0]
    rw [if_pos (by omega), if_pos (by omega), if_pos (by omega), if_pos trivial]
    rw [show wrap64 ((i : Int) + 1) = ((i + 1 : Nat) : Int) from wrap_id (by omega) (by omega)]
    exact ih k hk
theorem eqIntS_ev (l : List Int) (hm : l.length ≤ 17592186044416) : Ev (fun k => laws_eqIntS.f k l l) true := by
  obtain ⟨K, ih⟩ := eqIntS_l0 l hm l.length 0 (by omega)
  refine ⟨K, fun k hk => ?_⟩
  simp only [laws_eqIntS.f]
  rw [if_pos trivial]
  exact ih k hk
end Go.Proofs.Ytccekbbefllbgaa.P
namespace Go.Proofs.Ytccekbbefllbgaa.P
open Go.RowKit Go.Proofs.YtccekbbefllbgaaW.PrintWords Go.Proofs.YtccekbbefllbgaaW.PrintLast
set_option linter.unusedVariables false
set_option linter.unusedSimpArgs false
theorem take_setI {α : Type} (l : List α) (i : Nat) (v : α) (h : i < l.length) : (l.set i v).take (i + 1) = l.take i ++ [v] := by
  rw [List.take_succ_eq_append_getElem (by simpa using h)]
  simp only [List.take_set, List.getElem_set_self]
  rw [List.set_eq_of_length_le (by simp; omega)]
def marksI (a : Int) : Nat → List Int
  | 0 => []
  | n + 1 => a :: marksI (a + 1) n
theorem marksI_length (n : Nat) : ∀ a, (marksI a n).length = n := by
  induction n with
  | zero => intro a; rfl
  | succ n ih => intro a; simp [marksI, ih]
theorem markIntS_l0 : ∀ (d i : Nat) (a : Int) (x : List Int), i + d = x.length → 0 ≤ a → a + d ≤ 4611686018427387904 → x.length ≤ 4611686018427387904 → Ev (fun k => laws_markIntS.l0 k x a i) (a + d, x.take i ++ marksI a d)
  | 0, i, a, x, h, h0, h1, h2 => Ev.mk' 0 fun k _ => by
    simp only [laws_markIntS.l0]
    rw [if_neg (by omega), List.take_of_length_le (by omega)]; simp [marksI]
  | d + 1, i, a, x, h, h0, h1, h2 => by
    obtain ⟨K, ih⟩ := markIntS_l0 d (i + 1) (a + 1) (x.set i a) (by simp; omega) (by omega) (by omega) (by simpa using h2)
    dsimp only at ih
    refine Ev.mk' K fun k hk => ?_
    simp only [laws_markIntS.l0, Int.toNat_natCast]
    rw [if_pos (by omega), if_pos (by omega)]
    rw [show wrap64 ((i : Int) + 1) = ((i + 1 : Nat) : Int) from wrap_id (by omega) (by omega), show wrap64 (a + 1) = a + 1 from wrap_id (by omega) (by omega)]
    have := ih k hk
    rw [take_setI x i _ (by omega)] at this
    rw [this, marksI]
    simp; omega
theorem markIntS_ev (x : List Int) (a : Int) (h0 : 0 ≤ a) (h1 : a + x.length ≤ 4611686018427387904) (h2 : x.length ≤ 4611686018427387904) : Ev (fun k => laws_markIntS.f k x a) (a + x.length, marksI a x.length) := by
  obtain ⟨K, ih⟩ := markIntS_l0 x.length 0 a x (by omega) h0 h1 h2
  refine ⟨K, fun k hk => ?_⟩
  simp only [laws_markIntS.f]
  simpa using ih k hk
theorem heldIntS_l0 : ∀ (d : Nat) (a : Int) (p : List Int), 0 ≤ a → a + d ≤ 4611686018427387904 → p.length + d ≤ 4611686018427387904 → Ev (fun k => laws_heldIntS.l0 k (p ++ marksI a d) a p.length) (a + d)
  | 0, a, p, h0, h1, h2 => Ev.mk' 0 fun k _ => by
    simp only [laws_heldIntS.l0]
    rw [if_neg (by simp [marksI])]; simp
  | d + 1, a, p, h0, h1, h2 => by
    obtain ⟨K, ih⟩ := heldIntS_l0 d (a + 1) (p ++ [a]) (by omega) (by omega) (by simp; omega)
    dsimp only at ih
    refine Ev.mk' K fun k hk => ?_
    simp only [laws_heldIntS.l0]
    have hr : rd (p ++ marksI a (d + 1)) (p.length : Int) = a := by simp [rd, marksI]
    rw [if_pos (by simp [marksI_length]; omega), if_pos (by omega), hr]
    rw [show wrap64 ((p.length : Int) + 1) = ((p.length + 1 : Nat) : Int) from wrap_id (by omega) (by omega), show wrap64 (a + 1) = a + 1 from wrap_id (by omega) (by omega)]
    rw [if_pos rfl]
    have := ih k hk
    simp only [List.length_append, List.length_singleton, List.append_assoc, List.singleton_append] at this
    rw [marksI, this]
    congr 1; omega
theorem heldIntS_ev (n : Nat) (a : Int) (h0 : 0 ≤ a) (h1 : a + n ≤ 4611686018427387904) (h2 : n ≤ 4611686018427387904) : Ev (fun k => laws_heldIntS.f k (marksI a n) a) (a + n) := by
  obtain ⟨K, ih⟩ := heldIntS_l0 n a [] h0 h1 (by simpa using h2)
  refine ⟨K, fun k hk => ?_⟩
  simp only [laws_heldIntS.f]
  simpa using ih k hk
end Go.Proofs.Ytccekbbefllbgaa.P
namespace Go.Proofs.Ytccekbbefllbgaa.P
open Go.RowKit Go.Proofs.YtccekbbefllbgaaW.PrintWords Go.Proofs.YtccekbbefllbgaaW.PrintLast
set_option linter.unusedVariables false
set_option linter.unusedSimpArgs false
theorem FnExactGapsOfPeriod : laws_FnExactGapsOfPeriod.Pure := by
  intro l0 hl
  by_cases hs : l0.length ≤ 1048576
  · obtain ⟨K1, h1⟩ := toRuleS_ev l0 (by omega)
    obtain ⟨K2, h2⟩ := eqRuleS_ev (l0.map cvRule) (by simp; omega)
    obtain ⟨⟨K3, h3⟩, ⟨K4, h4⟩⟩ := GapsOfPeriod_main (l0.map cvRule)
    have hb := vGaps_len (l0.map cvRule)
    obtain ⟨K5, h5⟩ := eqIntS_ev (vGaps (l0.map cvRule)).1 (by omega)
    obtain ⟨K6, h6⟩ := markRuleS_ev (l0.map cvRule) 1 (by omega) (by simp; omega) (by simp; omega)
    obtain ⟨K7, h7⟩ := markIntS_ev (vGaps (l0.map cvRule)).1 1 (by omega) (by omega) (by omega)
    obtain ⟨K8, h8⟩ := heldIntS_ev (vGaps (l0.map cvRule)).1.length 1 (by omega) (by omega) (by omega)
    dsimp only at h1 h2 h3 h4 h5 h6 h7 h8
    have n0 : ¬ (1048576 - (l0.length : Int) < 0) := by omega
    have n1 : ¬ (1 + 2 * ((l0.map cvRule).length : Int) < 0) := by omega
    have n2 : ¬ (1 + ((vGaps (l0.map cvRule)).1.length : Int) < 0) := by omega
    refine ⟨K1 + K2 + K3 + K4 + K5 + K6 + K7 + K8 + 5, ?_⟩
    simp (disch := omega) only [laws_FnExactGapsOfPeriod.f, szRuleS_ok l0 hl, if_pos hs, obind, if_neg n0, h1, h2, h3, h4, h5, h6, h7, h8, if_neg n1, if_neg n2, bne_self_eq_false, if_true, Bool.false_eq_true, if_false]
    simp (disch := omega) only [laws_FnExactGapsOfPeriod.j0, szRuleS_ok l0 hl, if_pos hs, obind, if_neg n0, h1, h2, h3, h4, h5, h6, h7, h8, if_neg n1, if_neg n2, bne_self_eq_false, if_true, Bool.false_eq_true, if_false]
    simp (disch := omega) only [laws_FnExactGapsOfPeriod.j1, szRuleS_ok l0 hl, if_pos hs, obind, if_neg n0, h1, h2, h3, h4, h5, h6, h7, h8, if_neg n1, if_neg n2, bne_self_eq_false, if_true, Bool.false_eq_true, if_false]
    simp (disch := omega) only [laws_FnExactGapsOfPeriod.j2, szRuleS_ok l0 hl, if_pos hs, obind, if_neg n0, h1, h2, h3, h4, h5, h6, h7, h8, if_neg n1, if_neg n2, bne_self_eq_false, if_true, Bool.false_eq_true, if_false]
  · refine ⟨0, ?_⟩
    simp only [laws_FnExactGapsOfPeriod.f, szRuleS_ok l0 hl, if_neg hs, obind]
    simp
end Go.Proofs.Ytccekbbefllbgaa.P
