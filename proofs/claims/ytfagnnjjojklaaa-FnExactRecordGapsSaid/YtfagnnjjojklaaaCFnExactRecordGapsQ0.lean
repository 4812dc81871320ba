/- The plain laws on what the functions answer; the last one: the law FnExactRecordGaps answers true for all arguments. Proved in this text: its theorems. Conditions: as each theorem states them. -/
import Derived.Test.YtfagnnjjojklaaaCFnExactRecordGapsP
import Derived.Test.YtfagnnjjojklaaaCFnExactRecordGapsF0
import Derived.Test.YtfagnnjjojklaaaCFnExactRecordGapsF1
import Derived.Deep.Slices
import Derived.Deep.Fields
import Derived.ChangeSame
import Derived.ChangeSlices
import Derived.Lib.SmallJoins
import Derived.ProofKit
import Derived.OpenShut
import Derived.ShutString
import Derived.ChangeOld
import Derived.SizedLaws
namespace Go.Proofs.Ytfagnnjjojklaaa.P
open Go.RowKit Go.Proofs.YtfagnnjjojklaaaW.PrintWords Go.Proofs.YtfagnnjjojklaaaW.PrintLast
set_option linter.unusedVariables false
set_option linter.unusedSimpArgs false
section
open Go.ChangeShapes Go.WideShapes Go.Deep Go.ChangeAt
variable {H : Type} {enc : TypeId × Value → H} {P : Program} {w : World} {base : Nat} {spare : Nat → Bool} {held : Bool}
theorem open_pairs {t e : TypeId} {f0 f1 : Field} {fuel : Nat} {v : Value} {x : DataW H × List MemPlace} (ht : P.underlying t = some (.slice e)) (he : P.underlying e = some (.struct #[f0, f1]))
    (hone : oneCellFields P #[f0, f1] = true) (hC : P.cellsOf e = 2) (h0 : P.underlying f0.type = some (.int .i64)) (h1 : P.underlying f1.type = some (.int .i64)) (h : DataW.trod enc P w base spare held fuel t [v] = some x) :
    ∃ (a : Option Addr) (len cap : Nat) (l : List (Int × Int)), v = .slice a len cap ∧ len = l.length ∧ len ≤ cap ∧ l.length ≤ 9223372036854775807 ∧ (∀ p ∈ l, (Lit.int .i64 p.1).wf = true ∧ (Lit.int .i64 p.2).wf = true) ∧
      (0 < l.length → ∃ ad, a = some ad ∧ ∀ j p, l[j]? = some p → w.cell? (ad.add (j * 2)) = some (.int .i64 p.1) ∧ w.cell? (ad.add (j * 2 + 1)) = some (.int .i64 p.2)) := by
  rcases open_slice ht h with ⟨hcs, -⟩ | ⟨a, len, cap, m, n, D, Pl, hcs, hb, hl, hm, hmm, hx, hi⟩
  · simp at hcs
    exact ⟨none, 0, 0, [], hcs, rfl, Nat.le_refl _, by simp, by simp, by simp⟩
  · simp at hcs
    have hlm : len ≤ m := by rw [hmm]; split <;> omega
    have hget : ∀ i, i < len → ∃ p : Int × Int, w.cell? (a.add (i * 2)) = some (.int .i64 p.1) ∧ w.cell? (a.add (i * 2 + 1)) = some (.int .i64 p.2) ∧ (Lit.int .i64 p.1).wf = true ∧ (Lit.int .i64 p.2).wf = true := by
      intro i him
      obtain ⟨cs', hc, ht'⟩ := hi i (by omega)
      rw [hC] at hc
      obtain ⟨y0, y1, n', hy, -, t0, t1⟩ := trod_struct2 he ht'
      obtain ⟨_, hcl, hat⟩ := World.cells?_some hc
      obtain ⟨o0, k0⟩ := hone_of hone 0 f0 rfl
      obtain ⟨o1, k1⟩ := hone_of hone 1 f1 rfl
      have c0 := hat (i := 0) (by omega)
      have c1 := hat (i := 1) (by omega)
      match cs', hcl with
      | [u0, u1], _ =>
        simp only [o0, k0, List.drop_zero, List.take_succ_cons, List.take_zero] at t0
        simp only [o1, k1, List.drop_succ_cons, List.drop_zero, List.take_succ_cons, List.take_zero] at t1
        obtain ⟨z0, e0, -, w0⟩ := DataW.trod_int h0 t0
        obtain ⟨z1, e1, -, w1⟩ := DataW.trod_int h1 t1
        simp at e0 e1
        subst e0 e1
        refine ⟨(z0, z1), ?_, ?_, w0, w1⟩
        · simpa [Go.Deep.add_add] using c0
        · simpa [Go.Deep.add_add] using c1
    let g : Nat → Int × Int := fun i => if hi : i < len then (hget i hi).choose else (0, 0)
    have hg : ∀ i, i < len → w.cell? (a.add (i * 2)) = some (.int .i64 (g i).1) ∧ w.cell? (a.add (i * 2 + 1)) = some (.int .i64 (g i).2) ∧ (Lit.int .i64 (g i).1).wf = true ∧ (Lit.int .i64 (g i).2).wf = true := by
      intro i hi
      have := (hget i hi).choose_spec
      simpa [g, hi] using this
    refine ⟨some a, len, cap, (List.range len).map g, hcs, by simp, hl, by simp; unfold maxLen at hm; omega, ?_, ?_⟩
    · intro p hp
      simp at hp
      obtain ⟨i, hi, rfl⟩ := hp
      exact ⟨(hg i hi).2.2.1, (hg i hi).2.2.2⟩
    · intro _
      refine ⟨a, rfl, fun j p hj => ?_⟩
      simp [List.getElem?_map] at hj
      obtain ⟨i, hij, rfl⟩ := hj
      have hjl : j < len := by
        have := (List.getElem?_eq_some_iff.1 hij).1
        simpa using this
      have : i = j := by
        have := List.getElem?_range hjl
        rw [this] at hij
        simpa using hij.symm
      subst this
      exact ⟨(hg i hjl).1, (hg i hjl).2.1⟩
theorem open_nums {t e : TypeId} {k : IntKind} {fuel : Nat} {v : Value} {x : DataW H × List MemPlace} (ht : P.underlying t = some (.slice e)) (he : P.underlying e = some (.int k)) (hc : P.cellsOf e = 1)
    (h : DataW.trod enc P w base spare held fuel t [v] = some x) :
    ∃ (a : Option Addr) (len cap : Nat) (l : List Int), v = .slice a len cap ∧ len = l.length ∧ len ≤ cap ∧ l.length ≤ 9223372036854775807 ∧ (∀ n ∈ l, (Lit.int k n).wf = true) ∧ (Kd.int k).C w a l.length l := by
  rcases open_ints ht he hc h with ⟨hcs, -⟩ | ⟨a, len, cap, zs, hcs, hb, hl, hm, hz, hx, hcell, hwf⟩
  · simp at hcs
    exact ⟨none, 0, 0, [], hcs, rfl, Nat.le_refl _, by simp, by simp, Kd.C_nil _ _⟩
  · simp at hcs
    have hlz : len ≤ zs.length := by rw [hz]; split <;> omega
    have hlen : (zs.take len).length = len := by simp; omega
    have hmax : (zs.take len).length ≤ 9223372036854775807 := by rw [hlen]; unfold maxLen at hm; omega
    refine ⟨some a, len, cap, zs.take len, hcs, hlen.symm, hl, hmax, fun n hn => hwf n (List.mem_of_mem_take hn), ?_⟩
    refine Kd.C_of_reads (d := (0 : Int)) (h1 := fun _ => rfl) ⟨rfl, hmax, fun hn => ⟨a, rfl, fun i hi => ?_⟩⟩
    rw [hlen] at hi
    rw [hcell i (by omega)]
    congr 2
    simp [List.getD, hi]
end
end Go.Proofs.Ytfagnnjjojklaaa.P
namespace Go.Proofs.Ytfagnnjjojklaaa.P
open Go.RowKit Go.Proofs.YtfagnnjjojklaaaW.PrintWords Go.Proofs.YtfagnnjjojklaaaW.PrintLast
set_option linter.unusedVariables false
set_option linter.unusedSimpArgs false
theorem Ev.get {α : Type} {g : Nat → Option α} {r : α} (h : Ev g r) : ∃ K, ∀ k, K ≤ k → g k = some r := h
theorem Ev.mk' {α : Type} {g : Nat → Option α} {r : α} (K : Nat) (h : ∀ k, K ≤ k → g (k + 1) = some r) : Ev g r :=
  ⟨K + 1, fun k hk => by obtain ⟨m, rfl⟩ : ∃ m, k = m + 1 := ⟨k - 1, by omega⟩; exact h m (by omega)⟩
theorem Ev.pos {α : Type} {c : Prop} [Decidable c] {g f : Nat → Option α} {r : α} (hc : c) (h : Ev g r) : Ev (fun k => if c then g k else f k) r := by
  obtain ⟨K, h⟩ := h
  exact ⟨K, fun k hk => by show (if c then g k else f k) = some r; rw [if_pos hc]; exact h k hk⟩
theorem Ev.neg {α : Type} {c : Prop} [Decidable c] {g f : Nat → Option α} {r : α} (hc : ¬ c) (h : Ev f r) : Ev (fun k => if c then g k else f k) r := by
  obtain ⟨K, h⟩ := h
  exact ⟨K, fun k hk => by show (if c then g k else f k) = some r; rw [if_neg hc]; exact h k hk⟩
theorem Ev.let_ {α β : Type} {f : Nat → α → Option β} {a : α} {r : β} (k : Ev (fun n => f n a) r) : Ev (fun n => (some a).bind (f n)) r := k
theorem Ev.some_ {α : Type} {a r : α} (h : a = r) : Ev (fun _ => some a) r := ⟨0, fun _ _ => by rw [h]⟩
theorem Ev.eq_ {α : Type} {g : Nat → Option α} {a r : α} (h : Ev g a) (e : a = r) : Ev g r := e ▸ h
theorem wrap_id {n : Int} (h1 : -9223372036854775808 ≤ n) (h2 : n ≤ 9223372036854775807) : wrap64 n = n := by unfold wrap64; omega
theorem wf_int {n : Int} (h : (Lit.int .i64 n).wf = true) : -9223372036854775808 ≤ n ∧ n ≤ 9223372036854775807 := by
  unfold Lit.wf at h
  simp only [Bool.and_eq_true, decide_eq_true_eq] at h
  exact h
theorem obind {α β : Type} (a : α) (f : α → Option β) : (some a).bind f = f a := id rfl
end Go.Proofs.Ytfagnnjjojklaaa.P
namespace Go.Proofs.Ytfagnnjjojklaaa.P
open Go.RowKit Go.Proofs.YtfagnnjjojklaaaW.PrintWords Go.Proofs.YtfagnnjjojklaaaW.PrintLast
set_option linter.unusedVariables false
set_option linter.unusedSimpArgs false
theorem l1In_ok (a b c : Int) : spec_l1In.f a b c = some (decide (b ≤ a) && decide (a ≤ c)) := by
  unfold spec_l1In.f
  by_cases h : b ≤ a <;> simp [h]
end Go.Proofs.Ytfagnnjjojklaaa.P
namespace Go.Proofs.Ytfagnnjjojklaaa.P
open Go.RowKit Go.Proofs.YtfagnnjjojklaaaW.PrintWords Go.Proofs.YtfagnnjjojklaaaW.PrintLast
set_option linter.unusedVariables false
set_option linter.unusedSimpArgs false
def left (l : List SRule) (n : Int) : Bool := !(l.any (crosses n))
def goodRules (l : List SRule) : Bool := decide (l.length ≤ 12) && l.all okRule
theorem okRule_iff (x : SRule) : okRule x = true ↔ 2 ≤ x.f0 ∧ x.f0 ≤ 60 ∧ 0 ≤ x.f1 ∧ x.f1 < x.f0 := by
  unfold okRule; simp
theorem siRule_ok (x : SRule) : spec_siRule.f x.f0 x.f1 = some (okRule x) := by
  unfold spec_siRule.f okRule
  simp only [l1In_ok, Option.bind_some]
  by_cases h1 : 2 ≤ x.f0
  · by_cases h2 : x.f0 ≤ 60
    · have : wrap64 (x.f0 - 1) = x.f0 - 1 := wrap_id (by omega) (by omega)
      rw [this]
      by_cases h3 : 0 ≤ x.f1
      · simp [h1, h2, h3]; omega
      · simp [h1, h2, h3]
    · simp [h1, h2]
  · simp [h1]
theorem rd_drop (l : List SRule) (k : Nat) (h : k < l.length) : l.drop k = rd_Rule l k :: l.drop (k + 1) := drop_rd l k h
theorem siGood_l0 (l : List SRule) (hm : l.length ≤ 12) : ∀ d i : Nat, i + d = l.length → Ev (fun k => spec_siGood.l0 k l l.length i) ((l.drop i).all okRule)
  | 0, i, h => Ev.mk' 0 fun k _ => by
    simp only [spec_siGood.l0]
    rw [if_neg (by omega), List.drop_eq_nil_of_le (by omega)]; rfl
  | d + 1, i, h => by
    obtain ⟨K, ih⟩ := siGood_l0 l hm d (i + 1) (by omega)
    dsimp only at ih
    refine Ev.mk' K fun k hk => ?_
    simp only [spec_siGood.l0]
    rw [if_pos (by omega), if_pos (by omega), if_pos (by omega), siRule_ok, rd_drop l i (by omega), List.all_cons, Option.bind_some]
    rw [show wrap64 ((i : Int) + 1) = ((i + 1 : Nat) : Int) from wrap_id (by omega) (by omega), ih k hk]
    cases okRule (rd_Rule l i) <;> simp
theorem siGood_ev (l : List SRule) : Ev (fun k => spec_siGood.f k l) (goodRules l) := by
  unfold goodRules
  by_cases h : l.length ≤ 12
  · obtain ⟨K, ih⟩ := siGood_l0 l h l.length 0 (by omega)
    refine ⟨K, fun k hk => ?_⟩
    simp only [spec_siGood.f]
    rw [if_neg (by omega)]
    simpa [h] using ih k hk
  · refine ⟨0, fun k _ => ?_⟩
    simp only [spec_siGood.f]
    rw [if_pos (by omega)]
    simp [h]
theorem areRules_ok (l : List SRule) : impl_areRules.f l = some (goodRules l) := rfl
theorem good_all {l : List SRule} (h : goodRules l = true) : l.length ≤ 12 ∧ l.all okRule = true := by
  unfold goodRules at h
  simpa using h
theorem siRest_ok (n : Int) (x : SRule) (h : okRule x = true) : spec_siRest.f n x.f0 = some (n % x.f0) := by
  have := mod_ok n x.f0 ((okRule_iff x).1 h).1 ((okRule_iff x).1 h).2.1
  exact this
theorem siFirst_l0 (n : Int) (l : List SRule) (hm : l.length ≤ 9223372036854775807) (hl : l.all okRule = true) : ∀ d i : Nat, i + d = l.length → Ev (fun k => spec_siFirst.l0 k n l l.length i) (firstIx (crosses n) (l.drop i) i)
  | 0, i, h => Ev.mk' 0 fun k _ => by
    simp only [spec_siFirst.l0]
    rw [if_neg (by omega), List.drop_eq_nil_of_le (by omega)]; rfl
  | d + 1, i, h => by
    obtain ⟨K, ih⟩ := siFirst_l0 n l hm hl d (i + 1) (by omega)
    dsimp only at ih
    refine Ev.mk' K fun k hk => ?_
    simp only [spec_siFirst.l0]
    rw [if_pos (by omega), if_pos (by omega), if_pos (by omega), siRest_ok n _ (List.all_eq_true.mp hl _ (rd_mem l i (by omega))), rd_drop l i (by omega), Option.bind_some]
    rw [show wrap64 ((i : Int) + 1) = ((i + 1 : Nat) : Int) from wrap_id (by omega) (by omega), ih k hk]
    rw [firstIx]
    by_cases hc : n % (rd_Rule l i).f0 = (rd_Rule l i).f1
    · rw [if_pos hc, if_pos (by simp [crosses, hc])]
    · rw [if_neg hc, if_neg (by simp [crosses, hc])]; rfl
theorem siFirst_ev (n : Int) (l : List SRule) (hm : l.length ≤ 9223372036854775807) (hl : l.all okRule = true) : Ev (fun k => spec_siFirst.f k l n) (firstIx (crosses n) l 0) :=
  siFirst_l0 n l hm hl l.length 0 (by omega)
theorem first_left (n : Int) (l : List SRule) : decide (firstIx (crosses n) l 0 < 0) = left l n := by
  have h := firstIx_any (crosses n) l 0 (by omega)
  unfold left
  rw [← h]
  by_cases hc : 0 ≤ firstIx (crosses n) l 0
  · simp [hc, Int.not_lt.mpr hc]
  · simp [hc, Int.not_le.mp hc]
theorem siLeft_ev (n : Int) (l : List SRule) (hm : l.length ≤ 9223372036854775807) (hl : l.all okRule = true) : Ev (fun k => spec_siLeft.f k l n) (left l n) := by
  obtain ⟨K, h⟩ := siFirst_ev n l hm hl
  refine ⟨K, fun k hk => ?_⟩
  simp only [spec_siLeft.f, h k hk, Option.bind_some, first_left]
theorem isLeft_ok (n : Int) (l : List SRule) (hl : l.all okRule = true) : impl_isLeft.f l n = some (left l n) := by
  simp only [impl_isLeft.f, impl_firstRule.f, if_pos hl, Option.bind_some, first_left]
end Go.Proofs.Ytfagnnjjojklaaa.P
namespace Go.Proofs.Ytfagnnjjojklaaa.P
open Go.RowKit Go.Proofs.YtfagnnjjojklaaaW.PrintWords Go.Proofs.YtfagnnjjojklaaaW.PrintLast
set_option linter.unusedVariables false
set_option linter.unusedSimpArgs false
def lefts (l : List SRule) (i : Int) : Nat → List Int
  | 0 => []
  | m + 1 => (if left l i = true then [i] else []) ++ lefts l (i + 1) m
theorem lefts_length (l : List SRule) (m : Nat) : ∀ i, (lefts l i m).length ≤ m := by
  induction m with
  | zero => intro i; simp [lefts]
  | succ m ih =>
    intro i
    have := ih (i + 1)
    simp only [lefts, List.length_append]
    split <;> simp <;> omega
theorem leftBetween_l0 (l : List SRule) (hl : l.all okRule = true) (hi : Int) (h2 : hi ≤ 4611686018427387904) : ∀ (m : Nat) (i : Int) (acc : List Int), i + m = hi + 1 → -4611686018427387904 ≤ i → acc.length + m < 17592186044416 → Ev (fun k => impl_leftBetween.l0 k l hi acc i) (acc ++ lefts l i m)
  | 0, i, acc, h, h0, h1 => Ev.mk' 0 fun k _ => by
    simp only [impl_leftBetween.l0]
    rw [if_neg (by omega)]; simp [lefts]
  | m + 1, i, acc, h, h0, h1 => by
    simp only [lefts]
    by_cases hc : left l i = true
    · obtain ⟨K, ih⟩ := leftBetween_l0 l hl hi h2 m (i + 1) (acc ++ [i]) (by omega) (by omega) (by simp; omega)
      dsimp only at ih
      refine Ev.mk' K fun k hk => ?_
      simp only [impl_leftBetween.l0, isLeft_ok i l hl, Option.bind_some]
      rw [if_pos (by omega), if_pos hc, if_pos (by omega), wrap_id (by omega) (by omega), ih k hk, if_pos hc]
      simp
    · obtain ⟨K, ih⟩ := leftBetween_l0 l hl hi h2 m (i + 1) acc (by omega) (by omega) (by omega)
      dsimp only at ih
      refine Ev.mk' K fun k hk => ?_
      simp only [impl_leftBetween.l0, isLeft_ok i l hl, Option.bind_some]
      rw [if_pos (by omega), if_neg hc, wrap_id (by omega) (by omega), ih k hk, if_neg hc]
      simp
def leftsTo (l : List SRule) (lo hi : Int) : List Int := lefts l lo (hi + 1 - lo).toNat
theorem leftBetween_ev (l : List SRule) (hl : l.all okRule = true) (lo hi : Int) (h0 : -4611686018427387904 ≤ lo) (h2 : hi ≤ 4611686018427387904) (h1 : hi - lo < 17592186044415) : Ev (fun k => impl_leftBetween.f k l lo hi) (leftsTo l lo hi) := by
  unfold leftsTo
  by_cases h : lo ≤ hi + 1
  · obtain ⟨K, ih⟩ := leftBetween_l0 l hl hi h2 (hi + 1 - lo).toNat lo [] (by omega) h0 (by simp; omega)
    refine ⟨K, fun k hk => ?_⟩
    simp only [impl_leftBetween.f]
    simpa using ih k hk
  · refine Ev.mk' 0 fun k _ => ?_
    simp only [impl_leftBetween.f, impl_leftBetween.l0]
    rw [if_neg (by omega), show (hi + 1 - lo).toNat = 0 by omega]; rfl
end Go.Proofs.Ytfagnnjjojklaaa.P
namespace Go.Proofs.Ytfagnnjjojklaaa.P
open Go.RowKit Go.Proofs.YtfagnnjjojklaaaW.PrintWords Go.Proofs.YtfagnnjjojklaaaW.PrintLast
set_option linter.unusedVariables false
set_option linter.unusedSimpArgs false
theorem siList_l0 (l : List SRule) (hm : l.length ≤ 12) (hl : l.all okRule = true) (hi : Int) (h2 : hi ≤ 4611686018427387904) : ∀ (m : Nat) (i : Int) (acc : List Int), i + m = hi + 1 → -4611686018427387904 ≤ i → acc.length + m < 17592186044416 → Ev (fun k => spec_siList.l0 k l hi acc i) (acc ++ lefts l i m)
  | 0, i, acc, h, h0, h1 => Ev.mk' 0 fun k _ => by
    simp only [spec_siList.l0]
    rw [if_neg (by omega)]; simp [lefts]
  | m + 1, i, acc, h, h0, h1 => by
    obtain ⟨K1, h3⟩ := siLeft_ev i l (by omega) hl
    dsimp only at h3
    simp only [lefts]
    by_cases hc : left l i = true
    · obtain ⟨K, ih⟩ := siList_l0 l hm hl hi h2 m (i + 1) (acc ++ [i]) (by omega) (by omega) (by simp; omega)
      dsimp only at ih
      refine Ev.mk' (K + K1) fun k hk => ?_
      simp only [spec_siList.l0, h3 k (by omega), Option.bind_some]
      rw [if_pos (by omega), if_pos hc, if_pos (by omega), wrap_id (by omega) (by omega), ih k (by omega), if_pos hc]
      simp
    · obtain ⟨K, ih⟩ := siList_l0 l hm hl hi h2 m (i + 1) acc (by omega) (by omega) (by omega)
      dsimp only at ih
      refine Ev.mk' (K + K1) fun k hk => ?_
      simp only [spec_siList.l0, h3 k (by omega), Option.bind_some]
      rw [if_pos (by omega), if_neg hc, wrap_id (by omega) (by omega), ih k (by omega), if_neg hc]
      simp
theorem siList_ev (l : List SRule) (hm : l.length ≤ 12) (hl : l.all okRule = true) (n : Int) (h0 : 0 ≤ n) (h1 : n ≤ 600) : Ev (fun k => spec_siList.f k l n) (leftsTo l 1 n) := by
  obtain ⟨K, ih⟩ := siList_l0 l hm hl n (by omega) (n + 1 - 1).toNat 1 [] (by omega) (by omega) (by simp; omega)
  exact ⟨K, fun k hk => ih k hk⟩
def mostOk (n : Int) : Bool := decide (0 ≤ n) && decide (n ≤ 600)
theorem siMost_ev (l : List SRule) (n : Int) : Ev (fun k => spec_siMost.f k l n) (goodRules l && mostOk n) := by
  obtain ⟨K, h⟩ := siGood_ev l
  refine ⟨K, fun k hk => ?_⟩
  have h := h k hk
  dsimp only at h
  simp only [spec_siMost.f, h, Option.bind_some, l1In_ok, mostOk]
  cases goodRules l <;> simp
theorem isMost_ok (n : Int) : impl_isMost.f n = some (mostOk n) := by
  unfold impl_isMost.f mostOk
  by_cases h : 0 ≤ n <;> simp [h]
theorem leftsTo_length (l : List SRule) (lo hi : Int) : (leftsTo l lo hi).length ≤ (hi + 1 - lo).toNat := lefts_length _ _ _
end Go.Proofs.Ytfagnnjjojklaaa.P
namespace Go.Proofs.Ytfagnnjjojklaaa.P
open Go.RowKit Go.Proofs.YtfagnnjjojklaaaW.PrintWords Go.Proofs.YtfagnnjjojklaaaW.PrintLast
set_option linter.unusedVariables false
set_option linter.unusedSimpArgs false
theorem rd_dropG (l : List Int) (k : Nat) (h : k < l.length) : l.drop k = rd l k :: l.drop (k + 1) := by
  rw [List.drop_eq_getElem_cons h]
  simp [rd, List.getD, h]
def dif : Int → List Int → List Int
  | _, [] => []
  | a, b :: t => wrap64 (b - a) :: dif b t
def frm : Int → List Int → List Int
  | _, [] => []
  | a, b :: t => a :: frm b t
theorem dif_length : ∀ (l : List Int) (a : Int), (dif a l).length = l.length
  | [], _ => rfl
  | b :: t, a => by simp [dif, dif_length t b]
theorem frm_length : ∀ (l : List Int) (a : Int), (frm a l).length = l.length
  | [], _ => rfl
  | b :: t, a => by simp [frm, frm_length t b]
def gapsL (l : List Int) : List Int := dif (rd l 0) (l.drop 1)
def fromL (l : List Int) : List Int := frm (rd l 0) (l.drop 1)
theorem gapsL_length (l : List Int) : (gapsL l).length = l.length - 1 := by simp [gapsL, dif_length]
theorem fromL_length (l : List Int) : (fromL l).length = l.length - 1 := by simp [fromL, frm_length]
theorem gapsOf_l0 (l : List Int) (hm : l.length < 17592186044416) : ∀ (d i : Nat) (a b : List Int), i + 1 + d = l.length → a.length ≤ i → b.length ≤ i → Ev (fun k => impl_gapsOf.l0 k l a b ((i + 1 : Nat) : Int)) (a ++ frm (rd l i) (l.drop (i + 1)), b ++ dif (rd l i) (l.drop (i + 1)))
  | 0, i, a, b, h, ha, hb => Ev.mk' 0 fun k _ => by
    simp only [impl_gapsOf.l0]
    rw [if_neg (by omega), List.drop_eq_nil_of_le (by omega)]; simp [frm, dif]
  | d + 1, i, a, b, h, ha, hb => by
    obtain ⟨K, ih⟩ := gapsOf_l0 l hm d (i + 1) (a ++ [rd l i]) (b ++ [wrap64 (rd l ((i + 1 : Nat) : Int) - rd l i)]) (by omega) (by simp; omega) (by simp; omega)
    dsimp only at ih
    refine Ev.mk' K fun k hk => ?_
    simp only [impl_gapsOf.l0]
    rw [show wrap64 (((i + 1 : Nat) : Int) - 1) = (i : Int) by rw [wrap_id (by omega) (by omega)]; omega]
    rw [if_pos (by omega), if_pos (by omega), if_pos (by omega), if_pos (by omega), if_pos (by omega), if_pos (by omega)]
    rw [show wrap64 (((i + 1 : Nat) : Int) + 1) = ((i + 1 + 1 : Nat) : Int) from wrap_id (by omega) (by omega), ih k hk]
    rw [rd_dropG l (i + 1) (by omega), frm, dif]
    simp
theorem gapsOf_ev (l : List Int) (hm : l.length < 17592186044416) : Ev (fun k => impl_gapsOf.f k l) (fromL l, gapsL l) := by
  cases l with
  | nil =>
    refine Ev.mk' 0 fun k _ => ?_
    simp only [impl_gapsOf.f, impl_gapsOf.l0]
    rw [if_neg (by simp)]; rfl
  | cons x t =>
    obtain ⟨K, ih⟩ := gapsOf_l0 (x :: t) hm t.length 0 [] [] (by simp; omega) (by simp) (by simp)
    exact ⟨K, fun k hk => ih k hk⟩
end Go.Proofs.Ytfagnnjjojklaaa.P
namespace Go.Proofs.Ytfagnnjjojklaaa.P
open Go.RowKit Go.Proofs.YtfagnnjjojklaaaW.PrintWords Go.Proofs.YtfagnnjjojklaaaW.PrintLast
set_option linter.unusedVariables false
set_option linter.unusedSimpArgs false
theorem specGapsUpTo_l0 (l : List Int) (hm : l.length < 17592186044416) : ∀ (d i : Nat) (b : List Int), i + 1 + d = l.length → b.length ≤ i → Ev (fun k => spec_GapsUpTo.l0 k l b ((i + 1 : Nat) : Int)) (b ++ dif (rd l i) (l.drop (i + 1)), true)
  | 0, i, b, h, hb => Ev.mk' 0 fun k _ => by
    simp only [spec_GapsUpTo.l0]
    rw [if_neg (by omega), List.drop_eq_nil_of_le (by omega)]; simp [dif]
  | d + 1, i, b, h, hb => by
    obtain ⟨K, ih⟩ := specGapsUpTo_l0 l hm d (i + 1) (b ++ [wrap64 (rd l ((i + 1 : Nat) : Int) - rd l i)]) (by omega) (by simp; omega)
    dsimp only at ih
    refine Ev.mk' K fun k hk => ?_
    simp only [spec_GapsUpTo.l0]
    rw [show wrap64 (((i + 1 : Nat) : Int) - 1) = (i : Int) by rw [wrap_id (by omega) (by omega)]; omega]
    rw [if_pos (by omega), if_pos (by omega), if_pos (by omega), if_pos (by omega), if_pos (by omega)]
    rw [show wrap64 (((i + 1 : Nat) : Int) + 1) = ((i + 1 + 1 : Nat) : Int) from wrap_id (by omega) (by omega), ih k hk]
    rw [rd_dropG l (i + 1) (by omega), dif]
    simp
theorem specGapsUpTo_ev (l : List Int) (hm : l.length < 17592186044416) : Ev (fun k => spec_GapsUpTo.l0 k l [] 1) (gapsL l, true) := by
  cases l with
  | nil =>
    refine Ev.mk' 0 fun k _ => ?_
    simp only [spec_GapsUpTo.l0]
    rw [if_neg (by simp)]; rfl
  | cons x t =>
    obtain ⟨K, ih⟩ := specGapsUpTo_l0 (x :: t) hm t.length 0 [] (by simp; omega) (by simp)
    exact ⟨K, fun k hk => ih k hk⟩
def gapsUpTo (l : List SRule) (n : Int) : List Int × Bool := if goodRules l = true ∧ mostOk n = true then (gapsL (leftsTo l 1 n), true) else ([], false)
theorem mostOk_iff (n : Int) : mostOk n = true ↔ 0 ≤ n ∧ n ≤ 600 := by unfold mostOk; simp
theorem gapsUpTo_len (l : List SRule) (n : Int) : (gapsUpTo l n).1.length ≤ 600 := by
  unfold gapsUpTo
  split
  · next h =>
    have := (mostOk_iff n).1 h.2
    have := leftsTo_length l 1 n
    simp only [gapsL_length]
    omega
  · simp
theorem GapsUpTo_main (l : List SRule) (n : Int) : Ev (fun k => spec_GapsUpTo.f k l n) (gapsUpTo l n) ∧ Ev (fun k => impl_GapsUpTo.f k l n) (gapsUpTo l n) := by
  obtain ⟨K1, h1⟩ := siMost_ev l n
  dsimp only at h1
  by_cases h : goodRules l = true ∧ mostOk n = true
  · have hn := (mostOk_iff n).1 h.2
    have hll := leftsTo_length l 1 n
    obtain ⟨K2, h2⟩ := siList_ev l (good_all h.1).1 (good_all h.1).2 n hn.1 hn.2
    obtain ⟨K3, h3⟩ := specGapsUpTo_ev (leftsTo l 1 n) (by omega)
    obtain ⟨K4, h4⟩ := leftBetween_ev l (good_all h.1).2 1 n (by omega) (by omega) (by omega)
    obtain ⟨K5, h5⟩ := gapsOf_ev (leftsTo l 1 n) (by omega)
    dsimp only at h2 h3 h4 h5
    unfold gapsUpTo
    rw [if_pos h]
    constructor
    · refine ⟨K1 + K2 + K3, fun k hk => ?_⟩
      simp (disch := omega) only [spec_GapsUpTo.f, h1, h2, h3, h.1, h.2, Option.bind_some, Bool.and_self, if_true]
    · refine Ev.mk' (K4 + K5) fun k hk => ?_
      simp (disch := omega) only [impl_GapsUpTo.f, impl_GapsUpTo.j0, areRules_ok, isMost_ok, h4, h5, h.1, h.2, Option.bind_some, if_true]
      simp
  · unfold gapsUpTo
    rw [if_neg h]
    constructor
    · refine ⟨K1, fun k hk => ?_⟩
      simp (disch := omega) only [spec_GapsUpTo.f, h1, Option.bind_some]
      rw [if_neg (by simpa using h)]
    · refine Ev.mk' 0 fun k hk => ?_
      simp (disch := omega) only [impl_GapsUpTo.f, impl_GapsUpTo.j0, areRules_ok, isMost_ok, Option.bind_some]
      cases hg : goodRules l
      · simp
      · have : mostOk n = false := by simpa [hg] using h
        simp [this]
end Go.Proofs.Ytfagnnjjojklaaa.P
namespace Go.Proofs.Ytfagnnjjojklaaa.P
open Go.RowKit Go.Proofs.YtfagnnjjojklaaaW.PrintWords Go.Proofs.YtfagnnjjojklaaaW.PrintLast
set_option linter.unusedVariables false
set_option linter.unusedSimpArgs false
def recZ : List Int → List Int → Int → List (List Int)
  | f :: F, g :: D, b => if g > b then [f, g] :: recZ F D g else recZ F D b
  | _, _, _ => []
theorem recZ_length : ∀ (F D : List Int) (b : Int), (recZ F D b).length ≤ D.length
  | [], _, _ => by simp [recZ]
  | _ :: _, [], _ => by simp [recZ]
  | f :: F, g :: D, b => by
    have h1 := recZ_length F D g
    have h2 := recZ_length F D b
    simp only [recZ]
    split <;> simp <;> omega
theorem implRec_l0 (F D : List Int) (hL : F.length = D.length) (hm : D.length < 100000) : ∀ (d i : Nat) (acc : List (List Int)) (b : Int), i + d = D.length → acc.length ≤ i → Ev (fun k => impl_RecordGaps.l0 k F acc b D (D.length : Int) i) (acc ++ recZ (F.drop i) (D.drop i) b, true)
  | 0, i, acc, b, h, ha => Ev.mk' 0 fun k _ => by
    simp only [impl_RecordGaps.l0]
    rw [if_neg (by omega), List.drop_of_length_le (by omega : F.length ≤ i)]; simp [recZ]
  | d + 1, i, acc, b, h, ha => by
    rw [rd_dropG F i (by omega), rd_dropG D i (by omega)]
    simp only [recZ]
    by_cases c : rd D i > b
    · obtain ⟨K, ih⟩ := implRec_l0 F D hL hm d (i + 1) (acc ++ [[rd F i, rd D i]]) (rd D i) (by omega) (by simp; omega)
      dsimp only at ih
      refine Ev.mk' K fun k hk => ?_
      simp only [impl_RecordGaps.l0]
      rw [if_pos (by omega), if_pos (by omega), if_pos (by omega), if_pos c, if_pos (by omega), if_pos (by omega), wrap_id (by omega) (by omega), show ((i : Int) + 1) = ((i + 1 : Nat) : Int) by omega, ih k hk, if_pos c]
      simp
    · obtain ⟨K, ih⟩ := implRec_l0 F D hL hm d (i + 1) acc b (by omega) (by omega)
      dsimp only at ih
      refine Ev.mk' K fun k hk => ?_
      simp only [impl_RecordGaps.l0]
      rw [if_pos (by omega), if_pos (by omega), if_pos (by omega), if_neg c, wrap_id (by omega) (by omega), show ((i : Int) + 1) = ((i + 1 : Nat) : Int) by omega, ih k hk, if_neg c]
theorem specRec_l0 (l : List Int) (hm : l.length < 100000) : ∀ (d i : Nat) (acc : List (List Int)) (b : Int), i + 1 + d = l.length → acc.length ≤ i → Ev (fun k => spec_RecordGaps.l0 k l acc b ((i + 1 : Nat) : Int)) (acc ++ recZ (frm (rd l i) (l.drop (i + 1))) (dif (rd l i) (l.drop (i + 1))) b, true)
  | 0, i, acc, b, h, ha => Ev.mk' 0 fun k _ => by
    simp only [spec_RecordGaps.l0]
    rw [if_neg (by omega), List.drop_of_length_le (by omega)]; simp [recZ, frm]
  | d + 1, i, acc, b, h, ha => by
    have e1 : wrap64 (((i + 1 : Nat) : Int) - 1) = (i : Int) := by rw [wrap_id (by omega) (by omega)]; omega
    have e2 : wrap64 (((i + 1 : Nat) : Int) + 1) = ((i + 1 + 1 : Nat) : Int) := by rw [wrap_id (by omega) (by omega)]; omega
    rw [rd_dropG l (i + 1) (by omega)]
    simp only [frm, dif, recZ]
    by_cases c : wrap64 (rd l ((i + 1 : Nat) : Int) - rd l i) > b
    · obtain ⟨K, ih⟩ := specRec_l0 l hm d (i + 1) (acc ++ [[rd l i, wrap64 (rd l ((i + 1 : Nat) : Int) - rd l i)]]) (wrap64 (rd l ((i + 1 : Nat) : Int) - rd l i)) (by omega) (by simp; omega)
      dsimp only at ih
      refine Ev.mk' K fun k hk => ?_
      simp only [spec_RecordGaps.l0, e1, e2]
      rw [if_pos (by omega), if_pos (by omega), if_pos (by omega), if_pos (by omega), if_pos c, if_pos (by omega), ih k hk, if_pos c]
      simp
    · obtain ⟨K, ih⟩ := specRec_l0 l hm d (i + 1) acc b (by omega) (by omega)
      dsimp only at ih
      refine Ev.mk' K fun k hk => ?_
      simp only [spec_RecordGaps.l0, e1, e2]
      rw [if_pos (by omega), if_pos (by omega), if_pos (by omega), if_pos (by omega), if_neg c, ih k hk, if_neg c]
def recVal (l : List SRule) (n : Int) : List (List Int) × Bool := if goodRules l = true ∧ mostOk n = true then (recZ (fromL (leftsTo l 1 n)) (gapsL (leftsTo l 1 n)) 0, true) else ([], false)
theorem recVal_len (l : List SRule) (n : Int) : (recVal l n).1.length ≤ 600 := by
  unfold recVal
  split
  · next h =>
    have := (mostOk_iff n).1 h.2
    have h1 := leftsTo_length l 1 n
    have h2 := recZ_length (fromL (leftsTo l 1 n)) (gapsL (leftsTo l 1 n)) 0
    rw [gapsL_length] at h2
    dsimp only
    omega
  · simp
theorem RecordGaps_main (l : List SRule) (n : Int) : Ev (fun k => spec_RecordGaps.f k l n) (recVal l n) ∧ Ev (fun k => impl_RecordGaps.f k l n) (recVal l n) := by
  obtain ⟨K1, h1⟩ := siMost_ev l n
  dsimp only at h1
  by_cases h : goodRules l = true ∧ mostOk n = true
  · have hn := (mostOk_iff n).1 h.2
    have hll := leftsTo_length l 1 n
    obtain ⟨K2, h2⟩ := siList_ev l (good_all h.1).1 (good_all h.1).2 n hn.1 hn.2
    obtain ⟨K4, h4⟩ := leftBetween_ev l (good_all h.1).2 1 n (by omega) (by omega) (by omega)
    obtain ⟨K5, h5⟩ := gapsOf_ev (leftsTo l 1 n) (by omega)
    obtain ⟨K6, h6⟩ := implRec_l0 (fromL (leftsTo l 1 n)) (gapsL (leftsTo l 1 n)) (by rw [gapsL_length, fromL_length]) (by rw [gapsL_length]; omega) (gapsL (leftsTo l 1 n)).length 0 [] 0 (by omega) (by simp)
    dsimp only at h2 h4 h5
    have h6 : ∀ k, K6 ≤ k → impl_RecordGaps.l0 k (fromL (leftsTo l 1 n)) [] 0 (gapsL (leftsTo l 1 n)) ((gapsL (leftsTo l 1 n)).length : Int) 0 = some (recZ (fromL (leftsTo l 1 n)) (gapsL (leftsTo l 1 n)) 0, true) := h6
    have h3 : Ev (fun k => spec_RecordGaps.l0 k (leftsTo l 1 n) [] 0 1) (recZ (fromL (leftsTo l 1 n)) (gapsL (leftsTo l 1 n)) 0, true) := by
      generalize leftsTo l 1 n = L at hll
      cases L with
      | nil => exact Ev.mk' 0 fun k _ => by simp [spec_RecordGaps.l0, fromL, gapsL, frm, dif, recZ]
      | cons x t =>
        obtain ⟨K, ih⟩ := specRec_l0 (x :: t) (by omega) t.length 0 [] 0 (by simp; omega) (by simp)
        exact ⟨K, fun k hk => ih k hk⟩
    obtain ⟨K3, h3⟩ := h3
    dsimp only at h3
    unfold recVal
    rw [if_pos h]
    constructor
    · refine ⟨K1 + K2 + K3, fun k hk => ?_⟩
      simp (disch := omega) only [spec_RecordGaps.f, h1, h2, h3, h.1, h.2, obind, Bool.and_self, if_true]
    · refine Ev.mk' (K4 + K5 + K6) fun k hk => ?_
      simp (disch := omega) only [impl_RecordGaps.f, areRules_ok, isMost_ok, h.1, h.2, obind, if_true, Bool.not_true]
      simp (disch := omega) only [impl_RecordGaps.j0, h4, h5, h6, obind, Bool.false_eq_true, if_false]
  · unfold recVal
    rw [if_neg h]
    constructor
    · refine ⟨K1, fun k hk => ?_⟩
      have hf : (goodRules l && mostOk n) = false := by
        apply Bool.eq_false_iff.2; intro h'; rw [Bool.and_eq_true] at h'; exact h h'
      simp only [spec_RecordGaps.f, h1 k hk, obind, hf, Bool.false_eq_true, if_false]
    · refine Ev.mk' 0 fun k hk => ?_
      simp only [impl_RecordGaps.f, areRules_ok, isMost_ok, obind]
      by_cases hg : goodRules l = true
      · have hf : mostOk n = false := Bool.eq_false_iff.2 fun h' => h ⟨hg, h'⟩
        rw [if_pos hg, hf]; simp [impl_RecordGaps.j0]
      · rw [if_neg hg]; simp [impl_RecordGaps.j0]
end Go.Proofs.Ytfagnnjjojklaaa.P
namespace Go.Proofs.Ytfagnnjjojklaaa.P
open Go.RowKit Go.Proofs.YtfagnnjjojklaaaW.PrintWords Go.Proofs.YtfagnnjjojklaaaW.PrintLast
set_option linter.unusedVariables false
set_option linter.unusedSimpArgs false
def cvRule (p : SLRule) : SRule := ⟨p.f0, p.f1⟩
theorem rdL_drop (l : List SLRule) (k : Nat) (h : k < l.length) : l.drop k = rd_LRule l k :: l.drop (k + 1) := by
  rw [List.drop_eq_getElem_cons h]
  simp [rd_LRule, List.getD, h]
theorem take_set {α : Type} (l : List α) (i : Nat) (v : α) (h : i < l.length) : (l.set i v).take (i + 1) = l.take i ++ [v] := by
  rw [List.take_succ_eq_append_getElem (by simpa using h)]
  simp only [List.take_set, List.getElem_set_self]
  rw [List.set_eq_of_length_le (by simp; omega)]
theorem toRuleS_l0 (l : List SLRule) (hm : l.length ≤ 17592186044416) : ∀ (d i : Nat) (x : List SRule), i + d = l.length → x.length = l.length → Ev (fun k => laws_toRuleS.l0 k l x i) (x.take i ++ (l.drop i).map cvRule)
  | 0, i, x, h, hx => Ev.mk' 0 fun k _ => by
    simp only [laws_toRuleS.l0]
    rw [if_neg (by omega), List.drop_eq_nil_of_le (by omega), List.take_of_length_le (by omega)]; simp
  | d + 1, i, x, h, hx => by
    obtain ⟨K, ih⟩ := toRuleS_l0 l hm d (i + 1) (x.set i (cvRule (rd_LRule l i))) (by omega) (by simpa using hx)
    dsimp only at ih
    refine Ev.mk' K fun k hk => ?_
    simp only [laws_toRuleS.l0, laws_toRule.f, Option.bind_some]
    rw [if_pos (by omega), if_pos (by omega), if_pos (by omega)]
    rw [show wrap64 ((i : Int) + 1) = ((i + 1 : Nat) : Int) from wrap_id (by omega) (by omega)]
    have := ih k hk
    rw [take_set x i _ (by omega)] at this
    rw [rdL_drop l i (by omega), List.map_cons]
    simpa [cvRule] using this
theorem toRuleS_ev (l : List SLRule) (hm : l.length ≤ 17592186044416) : Ev (fun k => laws_toRuleS.f k l) (l.map cvRule) := by
  obtain ⟨K, ih⟩ := toRuleS_l0 l hm l.length 0 (List.replicate l.length zRule) (by omega) (by simp)
  dsimp only at ih
  refine ⟨K, fun k hk => ?_⟩
  simp only [laws_toRuleS.f]
  rw [if_pos (by omega), if_pos (by simpa using hm)]
  simpa using ih k hk
theorem eqRule_self (x : SRule) : laws_eqRule.f x.f0 x.f1 x.f0 x.f1 = some true := by simp [laws_eqRule.f]
theorem eqRuleS_l0 (l : List SRule) (hm : l.length ≤ 17592186044416) : ∀ (d i : Nat), i + d = l.length → Ev (fun k => laws_eqRuleS.l0 k l l i) true
  | 0, i, h => Ev.mk' 0 fun k _ => by
    simp only [laws_eqRuleS.l0]
    rw [if_neg (by omega)]
  | d + 1, i, h => by
    obtain ⟨K, ih⟩ := eqRuleS_l0 l hm d (i + 1) (by omega)
    dsimp only at ih
    refine Ev.mk' K fun k hk => ?_
    simp only [laws_eqRuleS.l0]
    rw [if_pos (by omega), if_pos (by omega), if_pos (by omega), eqRule_self]
    rw [show wrap64 ((i : Int) + 1) = ((i + 1 : Nat) : Int) from wrap_id (by omega) (by omega)]
    simpa using ih k hk
theorem eqRuleS_ev (l : List SRule) (hm : l.length ≤ 17592186044416) : Ev (fun k => laws_eqRuleS.f k l l) true := by
  obtain ⟨K, ih⟩ := eqRuleS_l0 l hm l.length 0 (by omega)
  refine ⟨K, fun k hk => ?_⟩
  simp only [laws_eqRuleS.f]
  rw [if_pos trivial]
  exact ih k hk
theorem szRuleS_ok (l : List SLRule) (hm : l.length ≤ 9223372036854775807) : laws_szRuleS.f l 1048576 = some (if l.length ≤ 1048576 then 1048576 - (l.length : Int) else -1) := by
  unfold laws_szRuleS.f
  have : wrap64 (1048576 - (l.length : Int)) = 1048576 - (l.length : Int) := wrap_id (by omega) (by omega)
  rw [this]
  by_cases h : l.length ≤ 1048576
  · rw [if_neg (by omega), if_pos h]
  · rw [if_pos (by omega), if_neg h]
end Go.Proofs.Ytfagnnjjojklaaa.P
namespace Go.Proofs.Ytfagnnjjojklaaa.P
open Go.RowKit Go.Proofs.YtfagnnjjojklaaaW.PrintWords Go.Proofs.YtfagnnjjojklaaaW.PrintLast
set_option linter.unusedVariables false
set_option linter.unusedSimpArgs false
def marksR (a : Int) : Nat → List SRule
  | 0 => []
  | n + 1 => ⟨a, a + 1⟩ :: marksR (a + 2) n
theorem marksR_length (n : Nat) : ∀ a, (marksR a n).length = n := by
  induction n with
  | zero => intro a; rfl
  | succ n ih => intro a; simp [marksR, ih]
theorem rd_set (l : List SRule) (i : Nat) (v : SRule) (h : i < l.length) : rd_Rule (l.set i v) i = v := by
  simp [rd_Rule, List.getD, h]
theorem markRuleS_l0 : ∀ (d i : Nat) (a : Int) (x : List SRule), i + d = x.length → 0 ≤ a → a + 2 * d ≤ 4611686018427387904 → x.length ≤ 4611686018427387904 → Ev (fun k => laws_markRuleS.l0 k x a i) (a + 2 * d, x.take i ++ marksR a d)
  | 0, i, a, x, h, h0, h1, h2 => Ev.mk' 0 fun k _ => by
    simp only [laws_markRuleS.l0]
    rw [if_neg (by omega), List.take_of_length_le (by omega)]; simp [marksR]
  | d + 1, i, a, x, h, h0, h1, h2 => by
    obtain ⟨K, ih⟩ := markRuleS_l0 d (i + 1) (a + 2) (x.set i ⟨a, a + 1⟩) (by simp; omega) (by omega) (by omega) (by simpa using h2)
    dsimp only at ih
    refine Ev.mk' K fun k hk => ?_
    simp only [laws_markRuleS.l0, Option.bind_some, Int.toNat_natCast]
    rw [if_pos (by omega), if_pos (by omega)]
    rw [show wrap64 ((i : Int) + 1) = ((i + 1 : Nat) : Int) from wrap_id (by omega) (by omega), show wrap64 (a + 1) = a + 1 from wrap_id (by omega) (by omega), show wrap64 (a + 1 + 1) = a + 2 by rw [wrap_id (by omega) (by omega)]; omega]
    rw [rd_set x i _ (by omega), List.set_set]
    have := ih k hk
    rw [take_set x i _ (by omega)] at this
    rw [this, marksR]
    simp; omega
theorem markRuleS_ev (x : List SRule) (a : Int) (h0 : 0 ≤ a) (h1 : a + 2 * x.length ≤ 4611686018427387904) (h2 : x.length ≤ 4611686018427387904) : Ev (fun k => laws_markRuleS.f k x a) (a + 2 * x.length, marksR a x.length) := by
  obtain ⟨K, ih⟩ := markRuleS_l0 x.length 0 a x (by omega) h0 h1 h2
  refine ⟨K, fun k hk => ?_⟩
  simp only [laws_markRuleS.f]
  simpa using ih k hk
theorem heldRuleS_l0 : ∀ (d : Nat) (a : Int) (p : List SRule), 0 ≤ a → a + 2 * d ≤ 4611686018427387904 → p.length + d ≤ 4611686018427387904 → Ev (fun k => laws_heldRuleS.l0 k (p ++ marksR a d) a p.length) (a + 2 * d)
  | 0, a, p, h0, h1, h2 => Ev.mk' 0 fun k _ => by
    simp only [laws_heldRuleS.l0]
    rw [if_neg (by simp [marksR])]; simp
  | d + 1, a, p, h0, h1, h2 => by
    obtain ⟨K, ih⟩ := heldRuleS_l0 d (a + 2) (p ++ [⟨a, a + 1⟩]) (by omega) (by omega) (by simp; omega)
    dsimp only at ih
    refine Ev.mk' K fun k hk => ?_
    simp only [laws_heldRuleS.l0]
    have hr : rd_Rule (p ++ marksR a (d + 1)) (p.length : Int) = ⟨a, a + 1⟩ := by simp [rd_Rule, marksR]
    rw [if_pos (by simp [marksR_length]; omega), if_pos (by omega), hr]
    rw [show wrap64 ((p.length : Int) + 1) = ((p.length + 1 : Nat) : Int) from wrap_id (by omega) (by omega), show wrap64 (a + 1) = a + 1 from wrap_id (by omega) (by omega), show wrap64 (a + 1 + 1) = a + 2 by rw [wrap_id (by omega) (by omega)]; omega]
    rw [if_pos rfl, if_pos rfl]
    have := ih k hk
    simp only [List.length_append, List.length_singleton, List.append_assoc, List.singleton_append] at this
    rw [marksR, this]
    congr 1; omega
theorem heldRuleS_ev (n : Nat) (a : Int) (h0 : 0 ≤ a) (h1 : a + 2 * n ≤ 4611686018427387904) (h2 : n ≤ 4611686018427387904) : Ev (fun k => laws_heldRuleS.f k (marksR a n) a) (a + 2 * n) := by
  obtain ⟨K, ih⟩ := heldRuleS_l0 n a [] h0 h1 (by simpa using h2)
  refine ⟨K, fun k hk => ?_⟩
  simp only [laws_heldRuleS.f]
  simpa using ih k hk
end Go.Proofs.Ytfagnnjjojklaaa.P
namespace Go.Proofs.Ytfagnnjjojklaaa.P
open Go.RowKit Go.Proofs.YtfagnnjjojklaaaW.PrintWords Go.Proofs.YtfagnnjjojklaaaW.PrintLast
set_option linter.unusedVariables false
set_option linter.unusedSimpArgs false
theorem rd_dropI (l : List Int) (k : Nat) (h : k < l.length) : l.drop k = rd l k :: l.drop (k + 1) := by
  rw [List.drop_eq_getElem_cons h]
  simp [rd, List.getD, h]
theorem eqIntS_l0 (l : List Int) (hm : l.length ≤ 17592186044416) : ∀ (d i : Nat), i + d = l.length → Ev (fun k => laws_eqIntS.l0 k l l i) true
  | 0, i, h => Ev.mk' 0 fun k _ => by
    simp only [laws_eqIntS.l0]
    rw [if_neg (by omega)]
  | d + 1, i, h => by
    obtain ⟨K, ih⟩ := eqIntS_l0 l hm d (i + 1) (by omega)
    dsimp only at ih
    refine Ev.mk' K fun k hk => ?_
    simp only [laws_eqIntS.l0]
    rw [if_pos (by omega), if_pos (by omega), if_pos (by omega), if_pos trivial]
    rw [show wrap64 ((i : Int) + 1) = ((i + 1 : Nat) : Int) from wrap_id (by omega) (by omega)]
    exact ih k hk
theorem eqIntS_ev (l : List Int) (hm : l.length ≤ 17592186044416) : Ev (fun k => laws_eqIntS.f k l l) true := by
  obtain ⟨K, ih⟩ := eqIntS_l0 l hm l.length 0 (by omega)
  refine ⟨K, fun k hk => ?_⟩
  simp only [laws_eqIntS.f]
  rw [if_pos trivial]
  exact ih k hk
end Go.Proofs.Ytfagnnjjojklaaa.P
namespace Go.Proofs.Ytfagnnjjojklaaa.P
open Go.RowKit Go.Proofs.YtfagnnjjojklaaaW.PrintWords Go.Proofs.YtfagnnjjojklaaaW.PrintLast
set_option linter.unusedVariables false
set_option linter.unusedSimpArgs false
theorem take_setI {α : Type} (l : List α) (i : Nat) (v : α) (h : i < l.length) : (l.set i v).take (i + 1) = l.take i ++ [v] := by
  rw [List.take_succ_eq_append_getElem (by simpa using h)]
  simp only [List.take_set, List.getElem_set_self]
  rw [List.set_eq_of_length_le (by simp; omega)]
def marksI (a : Int) : Nat → List Int
  | 0 => []
  | n + 1 => a :: marksI (a + 1) n
theorem marksI_length (n : Nat) : ∀ a, (marksI a n).length = n := by
  induction n with
  | zero => intro a; rfl
  | succ n ih => intro a; simp [marksI, ih]
theorem markIntS_l0 : ∀ (d i : Nat) (a : Int) (x : List Int), i + d = x.length → 0 ≤ a → a + d ≤ 4611686018427387904 → x.length ≤ 4611686018427387904 → Ev (fun k => laws_markIntS.l0 k x a i) (a + d, x.take i ++ marksI a d)
  | 0, i, a, x, h, h0, h1, h2 => Ev.mk' 0 fun k _ => by
    simp only [laws_markIntS.l0]
    rw [if_neg (by omega), List.take_of_length_le (by omega)]; simp [marksI]
  | d + 1, i, a, x, h, h0, h1, h2 => by
    obtain ⟨K, ih⟩ := markIntS_l0 d (i + 1) (a + 1) (x.set i a) (by simp; omega) (by omega) (by omega) (by simpa using h2)
    dsimp only at ih
    refine Ev.mk' K fun k hk => ?_
    simp only [laws_markIntS.l0, Int.toNat_natCast]
    rw [if_pos (by omega), if_pos (by omega)]
    rw [show wrap64 ((i : Int) + 1) = ((i + 1 : Nat) : Int) from wrap_id (by omega) (by omega), show wrap64 (a + 1) = a + 1 from wrap_id (by omega) (by omega)]
    have := ih k hk
    rw [take_setI x i _ (by omega)] at this
    rw [this, marksI]
    simp; omega
theorem markIntS_ev (x : List Int) (a : Int) (h0 : 0 ≤ a) (h1 : a + x.length ≤ 4611686018427387904) (h2 : x.length ≤ 4611686018427387904) : Ev (fun k => laws_markIntS.f k x a) (a + x.length, marksI a x.length) := by
  obtain ⟨K, ih⟩ := markIntS_l0 x.length 0 a x (by omega) h0 h1 h2
  refine ⟨K, fun k hk => ?_⟩
  simp only [laws_markIntS.f]
  simpa using ih k hk
theorem heldIntS_l0 : ∀ (d : Nat) (a : Int) (p : List Int), 0 ≤ a → a + d ≤ 4611686018427387904 → p.length + d ≤ 4611686018427387904 → Ev (fun k => laws_heldIntS.l0 k (p ++ marksI a d) a p.length) (a + d)
  | 0, a, p, h0, h1, h2 => Ev.mk' 0 fun k _ => by
    simp only [laws_heldIntS.l0]
    rw [if_neg (by simp [marksI])]; simp
  | d + 1, a, p, h0, h1, h2 => by
    obtain ⟨K, ih⟩ := heldIntS_l0 d (a + 1) (p ++ [a]) (by omega) (by omega) (by simp; omega)
    dsimp only at ih
    refine Ev.mk' K fun k hk => ?_
    simp only [laws_heldIntS.l0]
    have hr : rd (p ++ marksI a (d + 1)) (p.length : Int) = a := by simp [rd, marksI]
    rw [if_pos (by simp [marksI_length]; omega), if_pos (by omega), hr]
    rw [show wrap64 ((p.length : Int) + 1) = ((p.length + 1 : Nat) : Int) from wrap_id (by omega) (by omega), show wrap64 (a + 1) = a + 1 from wrap_id (by omega) (by omega)]
    rw [if_pos rfl]
    have := ih k hk
    simp only [List.length_append, List.length_singleton, List.append_assoc, List.singleton_append] at this
    rw [marksI, this]
    congr 1; omega
theorem heldIntS_ev (n : Nat) (a : Int) (h0 : 0 ≤ a) (h1 : a + n ≤ 4611686018427387904) (h2 : n ≤ 4611686018427387904) : Ev (fun k => laws_heldIntS.f k (marksI a n) a) (a + n) := by
  obtain ⟨K, ih⟩ := heldIntS_l0 n a [] h0 h1 (by simpa using h2)
  refine ⟨K, fun k hk => ?_⟩
  simp only [laws_heldIntS.f]
  simpa using ih k hk
end Go.Proofs.Ytfagnnjjojklaaa.P
namespace Go.Proofs.Ytfagnnjjojklaaa.P
open Go.RowKit Go.Proofs.YtfagnnjjojklaaaW.PrintWords Go.Proofs.YtfagnnjjojklaaaW.PrintLast
set_option linter.unusedVariables false
set_option linter.unusedSimpArgs false
theorem rdI_drop (l : List (List Int)) (k : Nat) (h : k < l.length) : l.drop k = rd_Ints l k :: l.drop (k + 1) := by
  rw [List.drop_eq_getElem_cons h]
  simp [rd_Ints, List.getD, h]
theorem recZ_two : ∀ (F D : List Int) (b : Int), ∀ r ∈ recZ F D b, r.length = 2
  | [], _, _, r, h => by simp [recZ] at h
  | _ :: _, [], _, r, h => by simp [recZ] at h
  | f :: F, g :: D, b, r, h => by
    simp only [recZ] at h
    split at h
    · rcases List.mem_cons.1 h with h | h
      · rw [h]; rfl
      · exact recZ_two F D g r h
    · exact recZ_two F D b r h
def marksSS (a : Int) : Nat → List (List Int)
  | 0 => []
  | n + 1 => marksI a 2 :: marksSS (a + 2) n
theorem markIntSS_l0 : ∀ (d i : Nat) (a : Int) (x : List (List Int)), i + d = x.length → (∀ r ∈ x.drop i, r.length = 2) → 0 ≤ a → a + 2 * d ≤ 1000000 → x.length ≤ 1000000 → Ev (fun k => laws_markIntSS.l0 k x a i) (a + 2 * d, x.take i ++ marksSS a d)
  | 0, i, a, x, h, hr, h0, h1, h2 => Ev.mk' 0 fun k _ => by
    simp only [laws_markIntSS.l0]
    rw [if_neg (by omega), List.take_of_length_le (by omega)]; simp [marksSS]
  | d + 1, i, a, x, h, hr, h0, h1, h2 => by
    have hd := rdI_drop x i (by omega)
    have h2r : (rd_Ints x i).length = 2 := hr _ (by rw [hd]; exact List.mem_cons_self)
    obtain ⟨K1, hm⟩ := markIntS_ev (rd_Ints x i) a h0 (by omega) (by omega)
    rw [h2r] at hm
    dsimp only at hm
    have hs : (x.set i (marksI a 2)).drop (i + 1) = x.drop (i + 1) := List.drop_set_of_lt (by omega)
    obtain ⟨K, ih⟩ := markIntSS_l0 d (i + 1) (a + 2) (x.set i (marksI a 2)) (by simp; omega) (by rw [hs]; intro r hr'; exact hr r (by rw [hd]; exact List.mem_cons_of_mem _ hr')) (by omega) (by omega) (by simpa using h2)
    dsimp only at ih
    rw [take_setI x i _ (by omega)] at ih
    refine Ev.mk' (K + K1) fun k hk => ?_
    simp only [laws_markIntSS.l0, hm k (by omega), obind]
    rw [if_pos (by omega), if_pos (by omega), wrap_id (by omega) (by omega), show ((i : Int) + 1) = ((i + 1 : Nat) : Int) by omega, Int.toNat_natCast, show a + ((2 : Nat) : Int) = a + 2 by omega, ih k (by omega)]
    simp only [marksSS, List.append_assoc, List.cons_append, List.nil_append]
    rw [show a + 2 + 2 * (d : Int) = a + 2 * ((d + 1 : Nat) : Int) by omega]
theorem markIntSS_ev (x : List (List Int)) (hr : ∀ r ∈ x, r.length = 2) (h2 : x.length ≤ 1000) : Ev (fun k => laws_markIntSS.f k x 1) (1 + 2 * (x.length : Int), marksSS 1 x.length) := by
  obtain ⟨K, ih⟩ := markIntSS_l0 x.length 0 1 x (by omega) (by simpa using hr) (by omega) (by omega) (by omega)
  exact ⟨K, fun k hk => ih k hk⟩
theorem heldIntSS_l0 : ∀ (d : Nat) (a : Int) (p : List (List Int)), 0 ≤ a → a + 2 * d ≤ 1000000 → p.length + d ≤ 1000000 → Ev (fun k => laws_heldIntSS.l0 k (p ++ marksSS a d) a p.length) (a + 2 * d)
  | 0, a, p, h0, h1, h2 => Ev.mk' 0 fun k _ => by
    simp only [laws_heldIntSS.l0]
    rw [if_neg (by simp [marksSS])]; simp
  | d + 1, a, p, h0, h1, h2 => by
    obtain ⟨K1, hm⟩ := heldIntS_ev 2 a h0 (by omega) (by omega)
    dsimp only at hm
    obtain ⟨K, ih⟩ := heldIntSS_l0 d (a + 2) (p ++ [marksI a 2]) (by omega) (by omega) (by simp; omega)
    dsimp only at ih
    have e : p ++ marksSS a (d + 1) = (p ++ [marksI a 2]) ++ marksSS (a + 2) d := by simp [marksSS]
    have er : rd_Ints ((p ++ [marksI a 2]) ++ marksSS (a + 2) d) (p.length : Int) = marksI a 2 := by simp [rd_Ints, List.getD]
    refine Ev.mk' (K + K1) fun k hk => ?_
    rw [e]
    simp only [laws_heldIntSS.l0, er, hm k (by omega), obind]
    rw [if_pos (by simp; omega), if_pos (by omega), if_neg (by omega), wrap_id (by omega) (by omega), show ((p.length : Int) + 1) = (((p ++ [marksI a 2]).length : Nat) : Int) by simp, show a + ((2 : Nat) : Int) = a + 2 by omega, ih k (by omega)]
    rw [show a + 2 + 2 * (d : Int) = a + 2 * ((d + 1 : Nat) : Int) by omega]
theorem heldIntSS_ev (n : Nat) (h : n ≤ 1000) : Ev (fun k => laws_heldIntSS.f k (marksSS 1 n) 1) (1 + 2 * (n : Int)) := by
  obtain ⟨K, ih⟩ := heldIntSS_l0 n 1 [] (by omega) (by omega) (by simp; omega)
  exact ⟨K, fun k hk => ih k hk⟩
theorem eqIntSS_l0 (l : List (List Int)) (hr : ∀ r ∈ l, r.length = 2) (hm : l.length ≤ 1000) : ∀ (d i : Nat), i + d = l.length → Ev (fun k => laws_eqIntSS.l0 k l l i) true
  | 0, i, h => Ev.mk' 0 fun k _ => by
    simp only [laws_eqIntSS.l0]
    rw [if_neg (by omega)]
  | d + 1, i, h => by
    have hd := rdI_drop l i (by omega)
    have h2r : (rd_Ints l i).length = 2 := hr _ (List.mem_of_mem_drop (by rw [hd]; exact List.mem_cons_self))
    obtain ⟨K1, h1⟩ := eqIntS_ev (rd_Ints l i) (by omega)
    obtain ⟨K, ih⟩ := eqIntSS_l0 l hr hm d (i + 1) (by omega)
    dsimp only at h1 ih
    refine Ev.mk' (K + K1) fun k hk => ?_
    simp only [laws_eqIntSS.l0, h1 k (by omega), obind, if_true]
    rw [if_pos (by omega), if_pos (by omega), if_pos (by omega), wrap_id (by omega) (by omega), show ((i : Int) + 1) = ((i + 1 : Nat) : Int) by omega, ih k (by omega)]
theorem eqIntSS_ev (l : List (List Int)) (hr : ∀ r ∈ l, r.length = 2) (hm : l.length ≤ 1000) : Ev (fun k => laws_eqIntSS.f k l l) true := by
  obtain ⟨K, ih⟩ := eqIntSS_l0 l hr hm l.length 0 (by omega)
  refine ⟨K, fun k hk => ?_⟩
  simp only [laws_eqIntSS.f]
  rw [if_pos trivial]
  exact ih k hk
theorem recVal_two (l : List SRule) (n : Int) : ∀ r ∈ (recVal l n).1, r.length = 2 := by
  unfold recVal
  split
  · exact recZ_two _ _ _
  · simp
theorem FnExactRecordGaps : laws_FnExactRecordGaps.Pure := by
  intro l a hl _
  by_cases hs : l.length ≤ 1048576
  · obtain ⟨K1, h1⟩ := toRuleS_ev l (by omega)
    obtain ⟨K2, h2⟩ := eqRuleS_ev (l.map cvRule) (by simp; omega)
    obtain ⟨⟨K3, h3⟩, ⟨K4, h4⟩⟩ := RecordGaps_main (l.map cvRule) a
    have hb := recVal_len (l.map cvRule) a
    have ht := recVal_two (l.map cvRule) a
    obtain ⟨K5, h5⟩ := eqIntSS_ev (recVal (l.map cvRule) a).1 ht (by omega)
    obtain ⟨K6, h6⟩ := markRuleS_ev (l.map cvRule) 1 (by omega) (by simp; omega) (by simp; omega)
    obtain ⟨K7, h7⟩ := markIntSS_ev (recVal (l.map cvRule) a).1 ht (by omega)
    obtain ⟨K8, h8⟩ := heldIntSS_ev (recVal (l.map cvRule) a).1.length (by omega)
    dsimp only at h1 h2 h3 h4 h5 h6 h7 h8
    have n0 : ¬ (1048576 - (l.length : Int) < 0) := by omega
    have n1 : ¬ (1 + 2 * ((l.map cvRule).length : Int) < 0) := by omega
    have n2 : ¬ (1 + 2 * ((recVal (l.map cvRule) a).1.length : Int) < 0) := by omega
    refine ⟨K1 + K2 + K3 + K4 + K5 + K6 + K7 + K8 + 3, ?_⟩
    simp (disch := omega) only [laws_FnExactRecordGaps.f, szRuleS_ok l hl, if_pos hs, obind, if_neg n0, if_neg n1, if_neg n2, h1, h2, h3, h4, h5, h6, h7, h8, bne_self_eq_false, if_true, Bool.false_eq_true, if_false]
    simp (disch := omega) only [laws_FnExactRecordGaps.j0, szRuleS_ok l hl, if_pos hs, obind, if_neg n0, if_neg n1, if_neg n2, h1, h2, h3, h4, h5, h6, h7, h8, bne_self_eq_false, if_true, Bool.false_eq_true, if_false]
    simp (disch := omega) only [laws_FnExactRecordGaps.j1, szRuleS_ok l hl, if_pos hs, obind, if_neg n0, if_neg n1, if_neg n2, h1, h2, h3, h4, h5, h6, h7, h8, bne_self_eq_false, if_true, Bool.false_eq_true, if_false]
    simp (disch := omega) only [laws_FnExactRecordGaps.j2, szRuleS_ok l hl, if_pos hs, obind, if_neg n0, if_neg n1, if_neg n2, h1, h2, h3, h4, h5, h6, h7, h8, bne_self_eq_false, if_true, Bool.false_eq_true, if_false]
  · refine ⟨0, ?_⟩
    simp only [laws_FnExactRecordGaps.f, szRuleS_ok l hl, if_neg hs, obind]
    simp
end Go.Proofs.Ytfagnnjjojklaaa.P
