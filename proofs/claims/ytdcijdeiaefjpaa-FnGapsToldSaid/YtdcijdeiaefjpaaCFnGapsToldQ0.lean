/- The plain laws on what the functions answer; the last one: the law FnGapsTold answers true for all arguments. Proved in this text: its theorems. Conditions: as each theorem states them. -/
import Derived.Test.YtdcijdeiaefjpaaCFnGapsToldP
import Derived.Test.YtdcijdeiaefjpaaCFnGapsToldF0
import Derived.Test.YtdcijdeiaefjpaaCFnGapsToldF1
import Derived.Test.YtdcijdeiaefjpaaCFnGapsToldF2
import Derived.Test.YtdcijdeiaefjpaaCFnGapsToldF3
import Derived.Test.YtdcijdeiaefjpaaCFnGapsToldF4
import Derived.Deep.Slices
import Derived.Deep.Fields
import Derived.ChangeSame
import Derived.ChangeSlices
import Derived.Lib.SmallJoins
import Derived.ProofKit
import Derived.OpenShut
import Derived.ShutString
import Derived.ChangeOld
import Derived.SizedLaws
namespace Go.Proofs.Ytdcijdeiaefjpaa.P
open Go.RowKit Go.Proofs.YtdcijdeiaefjpaaW.PrintWords Go.Proofs.YtdcijdeiaefjpaaW.PrintLast
set_option linter.unusedVariables false
set_option linter.unusedSimpArgs false
section
open Go.ChangeShapes Go.WideShapes Go.Deep Go.ChangeAt
variable {H : Type} {enc : TypeId × Value → H} {P : Program} {w : World} {base : Nat} {spare : Nat → Bool} {held : Bool}
theorem open_pairs {t e : TypeId} {f0 f1 : Field} {fuel : Nat} {v : Value} {x : DataW H × List MemPlace} (ht : P.underlying t = some (.slice e)) (he : P.underlying e = some (.struct #[f0, f1]))
    (hone : oneCellFields P #[f0, f1] = true) (hC : P.cellsOf e = 2) (h0 : P.underlying f0.type = some (.int .i64)) (h1 : P.underlying f1.type = some (.int .i64)) (h : DataW.trod enc P w base spare held fuel t [v] = some x) :
    ∃ (a : Option Addr) (len cap : Nat) (l : List (Int × Int)), v = .slice a len cap ∧ len = l.length ∧ len ≤ cap ∧ l.length ≤ 9223372036854775807 ∧ (∀ p ∈ l, (Lit.int .i64 p.1).wf = true ∧ (Lit.int .i64 p.2).wf = true) ∧
      (0 < l.length → ∃ ad, a = some ad ∧ ∀ j p, l[j]? = some p → w.cell? (ad.add (j * 2)) = some (.int .i64 p.1) ∧ w.cell? (ad.add (j * 2 + 1)) = some (.int .i64 p.2)) := by
  rcases open_slice ht h with ⟨hcs, -⟩ | ⟨a, len, cap, m, n, D, Pl, hcs, hb, hl, hm, hmm, hx, hi⟩
  · simp at hcs
    exact ⟨none, 0, 0, [], hcs, rfl, Nat.le_refl _, by simp, by simp, by simp⟩
  · simp at hcs
    have hlm : len ≤ m := by rw [hmm]; split <;> omega
    have hget : ∀ i, i < len → ∃ p : Int × Int, w.cell? (a.add (i * 2)) = some (.int .i64 p.1) ∧ w.cell? (a.add (i * 2 + 1)) = some (.int .i64 p.2) ∧ (Lit.int .i64 p.1).wf = true ∧ (Lit.int .i64 p.2).wf = true := by
      intro i him
      obtain ⟨cs', hc, ht'⟩ := hi i (by omega)
      rw [hC] at hc
      obtain ⟨y0, y1, n', hy, -, t0, t1⟩ := trod_struct2 he ht'
      obtain ⟨_, hcl, hat⟩ := World.cells?_some hc
      obtain ⟨o0, k0⟩ := hone_of hone 0 f0 rfl
      obtain ⟨o1, k1⟩ := hone_of hone 1 f1 rfl
      have c0 := hat (i := 0) (by omega)
      have c1 := hat (i := 1) (by omega)
      match cs', hcl with
      | [u0, u1], _ =>
        simp only [o0, k0, List.drop_zero, List.take_succ_cons, List.take_zero] at t0
        simp only [o1, k1, List.drop_succ_cons, List.drop_zero, List.take_succ_cons, List.take_zero] at t1
        obtain ⟨z0, e0, -, w0⟩ := DataW.trod_int h0 t0
        obtain ⟨z1, e1, -, w1⟩ := DataW.trod_int h1 t1
        simp at e0 e1
        subst e0 e1
        refine ⟨(z0, z1), ?_, ?_, w0, w1⟩
        · simpa [Go.Deep.add_add] using c0
        · simpa [Go.Deep.add_add] using c1
    let g : Nat → Int × Int := fun i => if hi : i < len then (hget i hi).choose else (0, 0)
    have hg : ∀ i, i < len → w.cell? (a.add (i * 2)) = some (.int .i64 (g i).1) ∧ w.cell? (a.add (i * 2 + 1)) = some (.int .i64 (g i).2) ∧ (Lit.int .i64 (g i).1).wf = true ∧ (Lit.int .i64 (g i).2).wf = true := by
      intro i hi
      have := (hget i hi).choose_spec
      simpa [g, hi] using this
    refine ⟨some a, len, cap, (List.range len).map g, hcs, by simp, hl, by simp; unfold maxLen at hm; omega, ?_, ?_⟩
    · intro p hp
      simp at hp
      obtain ⟨i, hi, rfl⟩ := hp
      exact ⟨(hg i hi).2.2.1, (hg i hi).2.2.2⟩
    · intro _
      refine ⟨a, rfl, fun j p hj => ?_⟩
      simp [List.getElem?_map] at hj
      obtain ⟨i, hij, rfl⟩ := hj
      have hjl : j < len := by
        have := (List.getElem?_eq_some_iff.1 hij).1
        simpa using this
      have : i = j := by
        have := List.getElem?_range hjl
        rw [this] at hij
        simpa using hij.symm
      subst this
      exact ⟨(hg i hjl).1, (hg i hjl).2.1⟩
theorem open_nums {t e : TypeId} {k : IntKind} {fuel : Nat} {v : Value} {x : DataW H × List MemPlace} (ht : P.underlying t = some (.slice e)) (he : P.underlying e = some (.int k)) (hc : P.cellsOf e = 1)
    (h : DataW.trod enc P w base spare held fuel t [v] = some x) :
    ∃ (a : Option Addr) (len cap : Nat) (l : List Int), v = .slice a len cap ∧ len = l.length ∧ len ≤ cap ∧ l.length ≤ 9223372036854775807 ∧ (∀ n ∈ l, (Lit.int k n).wf = true) ∧ (Kd.int k).C w a l.length l := by
  rcases open_ints ht he hc h with ⟨hcs, -⟩ | ⟨a, len, cap, zs, hcs, hb, hl, hm, hz, hx, hcell, hwf⟩
  · simp at hcs
    exact ⟨none, 0, 0, [], hcs, rfl, Nat.le_refl _, by simp, by simp, Kd.C_nil _ _⟩
  · simp at hcs
    have hlz : len ≤ zs.length := by rw [hz]; split <;> omega
    have hlen : (zs.take len).length = len := by simp; omega
    have hmax : (zs.take len).length ≤ 9223372036854775807 := by rw [hlen]; unfold maxLen at hm; omega
    refine ⟨some a, len, cap, zs.take len, hcs, hlen.symm, hl, hmax, fun n hn => hwf n (List.mem_of_mem_take hn), ?_⟩
    refine Kd.C_of_reads (d := (0 : Int)) (h1 := fun _ => rfl) ⟨rfl, hmax, fun hn => ⟨a, rfl, fun i hi => ?_⟩⟩
    rw [hlen] at hi
    rw [hcell i (by omega)]
    congr 2
    simp [List.getD, hi]
end
end Go.Proofs.Ytdcijdeiaefjpaa.P
namespace Go.Proofs.Ytdcijdeiaefjpaa.P
open Go.RowKit Go.Proofs.YtdcijdeiaefjpaaW.PrintWords Go.Proofs.YtdcijdeiaefjpaaW.PrintLast
set_option linter.unusedVariables false
set_option linter.unusedSimpArgs false
theorem Ev.get {α : Type} {g : Nat → Option α} {r : α} (h : Ev g r) : ∃ K, ∀ k, K ≤ k → g k = some r := h
theorem Ev.mk' {α : Type} {g : Nat → Option α} {r : α} (K : Nat) (h : ∀ k, K ≤ k → g (k + 1) = some r) : Ev g r :=
  ⟨K + 1, fun k hk => by obtain ⟨m, rfl⟩ : ∃ m, k = m + 1 := ⟨k - 1, by omega⟩; exact h m (by omega)⟩
theorem Ev.pos {α : Type} {c : Prop} [Decidable c] {g f : Nat → Option α} {r : α} (hc : c) (h : Ev g r) : Ev (fun k => if c then g k else f k) r := by
  obtain ⟨K, h⟩ := h
  exact ⟨K, fun k hk => by show (if c then g k else f k) = some r; rw [if_pos hc]; exact h k hk⟩
theorem Ev.neg {α : Type} {c : Prop} [Decidable c] {g f : Nat → Option α} {r : α} (hc : ¬ c) (h : Ev f r) : Ev (fun k => if c then g k else f k) r := by
  obtain ⟨K, h⟩ := h
  exact ⟨K, fun k hk => by show (if c then g k else f k) = some r; rw [if_neg hc]; exact h k hk⟩
theorem Ev.let_ {α β : Type} {f : Nat → α → Option β} {a : α} {r : β} (k : Ev (fun n => f n a) r) : Ev (fun n => (some a).bind (f n)) r := k
theorem Ev.some_ {α : Type} {a r : α} (h : a = r) : Ev (fun _ => some a) r := ⟨0, fun _ _ => by rw [h]⟩
theorem Ev.eq_ {α : Type} {g : Nat → Option α} {a r : α} (h : Ev g a) (e : a = r) : Ev g r := e ▸ h
theorem wrap_id {n : Int} (h1 : -9223372036854775808 ≤ n) (h2 : n ≤ 9223372036854775807) : wrap64 n = n := by unfold wrap64; omega
theorem wf_int {n : Int} (h : (Lit.int .i64 n).wf = true) : -9223372036854775808 ≤ n ∧ n ≤ 9223372036854775807 := by
  unfold Lit.wf at h
  simp only [Bool.and_eq_true, decide_eq_true_eq] at h
  exact h
theorem obind {α β : Type} (a : α) (f : α → Option β) : (some a).bind f = f a := id rfl
end Go.Proofs.Ytdcijdeiaefjpaa.P
namespace Go.Proofs.Ytdcijdeiaefjpaa.P
open Go.RowKit Go.Proofs.YtdcijdeiaefjpaaW.PrintWords Go.Proofs.YtdcijdeiaefjpaaW.PrintLast
set_option linter.unusedVariables false
set_option linter.unusedSimpArgs false
theorem l1In_ok (a b c : Int) : spec_l1In.f a b c = some (decide (b ≤ a) && decide (a ≤ c)) := by
  unfold spec_l1In.f
  by_cases h : b ≤ a <;> simp [h]
end Go.Proofs.Ytdcijdeiaefjpaa.P
namespace Go.Proofs.Ytdcijdeiaefjpaa.P
open Go.RowKit Go.Proofs.YtdcijdeiaefjpaaW.PrintWords Go.Proofs.YtdcijdeiaefjpaaW.PrintLast
set_option linter.unusedVariables false
set_option linter.unusedSimpArgs false
def left (l : List SRule) (n : Int) : Bool := !(l.any (crosses n))
def goodRules (l : List SRule) : Bool := decide (l.length ≤ 12) && l.all okRule
theorem okRule_iff (x : SRule) : okRule x = true ↔ 2 ≤ x.f0 ∧ x.f0 ≤ 60 ∧ 0 ≤ x.f1 ∧ x.f1 < x.f0 := by
  unfold okRule; simp
theorem siRule_ok (x : SRule) : spec_siRule.f x.f0 x.f1 = some (okRule x) := by
  unfold spec_siRule.f okRule
  simp only [l1In_ok, Option.bind_some]
  by_cases h1 : 2 ≤ x.f0
  · by_cases h2 : x.f0 ≤ 60
    · have : wrap64 (x.f0 - 1) = x.f0 - 1 := wrap_id (by omega) (by omega)
      rw [this]
      by_cases h3 : 0 ≤ x.f1
      · simp [h1, h2, h3]; omega
      · simp [h1, h2, h3]
    · simp [h1, h2]
  · simp [h1]
theorem rd_drop (l : List SRule) (k : Nat) (h : k < l.length) : l.drop k = rd_Rule l k :: l.drop (k + 1) := drop_rd l k h
theorem siGood_l0 (l : List SRule) (hm : l.length ≤ 12) : ∀ d i : Nat, i + d = l.length → Ev (fun k => spec_siGood.l0 k l l.length i) ((l.drop i).all okRule)
  | 0, i, h => Ev.mk' 0 fun k _ => by
    simp only [spec_siGood.l0]
    rw [if_neg (by omega), List.drop_eq_nil_of_le (by omega)]; rfl
  | d + 1, i, h => by
    obtain ⟨K, ih⟩ := siGood_l0 l hm d (i + 1) (by omega)
    dsimp only at ih
    refine Ev.mk' K fun k hk => ?_
    simp only [spec_siGood.l0]
    rw [if_pos (by omega), if_pos (by omega), if_pos (by omega), siRule_ok, rd_drop l i (by omega), List.all_cons, Option.bind_some]
    rw [show wrap64 ((i : Int) + 1) = ((i + 1 : Nat) : Int) from wrap_id (by omega) (by omega), ih k hk]
    cases okRule (rd_Rule l i) <;> simp
theorem siGood_ev (l : List SRule) : Ev (fun k => spec_siGood.f k l) (goodRules l) := by
  unfold goodRules
  by_cases h : l.length ≤ 12
  · obtain ⟨K, ih⟩ := siGood_l0 l h l.length 0 (by omega)
    refine ⟨K, fun k hk => ?_⟩
    simp only [spec_siGood.f]
    rw [if_neg (by omega)]
    simpa [h] using ih k hk
  · refine ⟨0, fun k _ => ?_⟩
    simp only [spec_siGood.f]
    rw [if_pos (by omega)]
    simp [h]
theorem areRules_ok (l : List SRule) : impl_areRules.f l = some (goodRules l) := rfl
theorem good_all {l : List SRule} (h : goodRules l = true) : l.length ≤ 12 ∧ l.all okRule = true := by
  unfold goodRules at h
  simpa using h
theorem siRest_ok (n : Int) (x : SRule) (h : okRule x = true) : spec_siRest.f n x.f0 = some (n % x.f0) := by
  have := mod_ok n x.f0 ((okRule_iff x).1 h).1 ((okRule_iff x).1 h).2.1
  exact this
theorem siFirst_l0 (n : Int) (l : List SRule) (hm : l.length ≤ 9223372036854775807) (hl : l.all okRule = true) : ∀ d i : Nat, i + d = l.length → Ev (fun k => spec_siFirst.l0 k n l l.length i) (firstIx (crosses n) (l.drop i) i)
  | 0, i, h => Ev.mk' 0 fun k _ => by
    simp only [spec_siFirst.l0]
    rw [if_neg (by omega), List.drop_eq_nil_of_le (by omega)]; rfl
  | d + 1, i, h => by
    obtain ⟨K, ih⟩ := siFirst_l0 n l hm hl d (i + 1) (by omega)
    dsimp only at ih
    refine Ev.mk' K fun k hk => ?_
    simp only [spec_siFirst.l0]
    rw [if_pos (by omega), if_pos (by omega), if_pos (by omega), siRest_ok n _ (List.all_eq_true.mp hl _ (rd_mem l i (by omega))), rd_drop l i (by omega), Option.bind_some]
    rw [show wrap64 ((i : Int) + 1) = ((i + 1 : Nat) : Int) from wrap_id (by omega) (by omega), ih k hk]
    rw [firstIx]
    by_cases hc : n % (rd_Rule l i).f0 = (rd_Rule l i).f1
    · rw [if_pos hc, if_pos (by simp [crosses, hc])]
    · rw [if_neg hc, if_neg (by simp [crosses, hc])]; rfl
theorem siFirst_ev (n : Int) (l : List SRule) (hm : l.length ≤ 9223372036854775807) (hl : l.all okRule = true) : Ev (fun k => spec_siFirst.f k l n) (firstIx (crosses n) l 0) :=
  siFirst_l0 n l hm hl l.length 0 (by omega)
theorem first_left (n : Int) (l : List SRule) : decide (firstIx (crosses n) l 0 < 0) = left l n := by
  have h := firstIx_any (crosses n) l 0 (by omega)
  unfold left
  rw [← h]
  by_cases hc : 0 ≤ firstIx (crosses n) l 0
  · simp [hc, Int.not_lt.mpr hc]
  · simp [hc, Int.not_le.mp hc]
theorem siLeft_ev (n : Int) (l : List SRule) (hm : l.length ≤ 9223372036854775807) (hl : l.all okRule = true) : Ev (fun k => spec_siLeft.f k l n) (left l n) := by
  obtain ⟨K, h⟩ := siFirst_ev n l hm hl
  refine ⟨K, fun k hk => ?_⟩
  simp only [spec_siLeft.f, h k hk, Option.bind_some, first_left]
theorem isLeft_ok (n : Int) (l : List SRule) (hl : l.all okRule = true) : impl_isLeft.f l n = some (left l n) := by
  simp only [impl_isLeft.f, impl_firstRule.f, if_pos hl, Option.bind_some, first_left]
end Go.Proofs.Ytdcijdeiaefjpaa.P
namespace Go.Proofs.Ytdcijdeiaefjpaa.P
open Go.RowKit Go.Proofs.YtdcijdeiaefjpaaW.PrintWords Go.Proofs.YtdcijdeiaefjpaaW.PrintLast
set_option linter.unusedVariables false
set_option linter.unusedSimpArgs false
def lefts (l : List SRule) (i : Int) : Nat → List Int
  | 0 => []
  | m + 1 => (if left l i = true then [i] else []) ++ lefts l (i + 1) m
theorem lefts_length (l : List SRule) (m : Nat) : ∀ i, (lefts l i m).length ≤ m := by
  induction m with
  | zero => intro i; simp [lefts]
  | succ m ih =>
    intro i
    have := ih (i + 1)
    simp only [lefts, List.length_append]
    split <;> simp <;> omega
theorem leftBetween_l0 (l : List SRule) (hl : l.all okRule = true) (hi : Int) (h2 : hi ≤ 4611686018427387904) : ∀ (m : Nat) (i : Int) (acc : List Int), i + m = hi + 1 → -4611686018427387904 ≤ i → acc.length + m < 17592186044416 → Ev (fun k => impl_leftBetween.l0 k l hi acc i) (acc ++ lefts l i m)
  | 0, i, acc, h, h0, h1 => Ev.mk' 0 fun k _ => by
    simp only [impl_leftBetween.l0]
    rw [if_neg (by omega)]; simp [lefts]
  | m + 1, i, acc, h, h0, h1 => by
    simp only [lefts]
    by_cases hc : left l i = true
    · obtain ⟨K, ih⟩ := leftBetween_l0 l hl hi h2 m (i + 1) (acc ++ [i]) (by omega) (by omega) (by simp; omega)
      dsimp only at ih
      refine Ev.mk' K fun k hk => ?_
      simp only [impl_leftBetween.l0, isLeft_ok i l hl, Option.bind_some]
      rw [if_pos (by omega), if_pos hc, if_pos (by omega), wrap_id (by omega) (by omega), ih k hk, if_pos hc]
      simp
    · obtain ⟨K, ih⟩ := leftBetween_l0 l hl hi h2 m (i + 1) acc (by omega) (by omega) (by omega)
      dsimp only at ih
      refine Ev.mk' K fun k hk => ?_
      simp only [impl_leftBetween.l0, isLeft_ok i l hl, Option.bind_some]
      rw [if_pos (by omega), if_neg hc, wrap_id (by omega) (by omega), ih k hk, if_neg hc]
      simp
def leftsTo (l : List SRule) (lo hi : Int) : List Int := lefts l lo (hi + 1 - lo).toNat
theorem leftBetween_ev (l : List SRule) (hl : l.all okRule = true) (lo hi : Int) (h0 : -4611686018427387904 ≤ lo) (h2 : hi ≤ 4611686018427387904) (h1 : hi - lo < 17592186044415) : Ev (fun k => impl_leftBetween.f k l lo hi) (leftsTo l lo hi) := by
  unfold leftsTo
  by_cases h : lo ≤ hi + 1
  · obtain ⟨K, ih⟩ := leftBetween_l0 l hl hi h2 (hi + 1 - lo).toNat lo [] (by omega) h0 (by simp; omega)
    refine ⟨K, fun k hk => ?_⟩
    simp only [impl_leftBetween.f]
    simpa using ih k hk
  · refine Ev.mk' 0 fun k _ => ?_
    simp only [impl_leftBetween.f, impl_leftBetween.l0]
    rw [if_neg (by omega), show (hi + 1 - lo).toNat = 0 by omega]; rfl
end Go.Proofs.Ytdcijdeiaefjpaa.P
namespace Go.Proofs.Ytdcijdeiaefjpaa.P
open Go.RowKit Go.Proofs.YtdcijdeiaefjpaaW.PrintWords Go.Proofs.YtdcijdeiaefjpaaW.PrintLast
set_option linter.unusedVariables false
set_option linter.unusedSimpArgs false
theorem siList_l0 (l : List SRule) (hm : l.length ≤ 12) (hl : l.all okRule = true) (hi : Int) (h2 : hi ≤ 4611686018427387904) : ∀ (m : Nat) (i : Int) (acc : List Int), i + m = hi + 1 → -4611686018427387904 ≤ i → acc.length + m < 17592186044416 → Ev (fun k => spec_siList.l0 k l hi acc i) (acc ++ lefts l i m)
  | 0, i, acc, h, h0, h1 => Ev.mk' 0 fun k _ => by
    simp only [spec_siList.l0]
    rw [if_neg (by omega)]; simp [lefts]
  | m + 1, i, acc, h, h0, h1 => by
    obtain ⟨K1, h3⟩ := siLeft_ev i l (by omega) hl
    dsimp only at h3
    simp only [lefts]
    by_cases hc : left l i = true
    · obtain ⟨K, ih⟩ := siList_l0 l hm hl hi h2 m (i + 1) (acc ++ [i]) (by omega) (by omega) (by simp; omega)
      dsimp only at ih
      refine Ev.mk' (K + K1) fun k hk => ?_
      simp only [spec_siList.l0, h3 k (by omega), Option.bind_some]
      rw [if_pos (by omega), if_pos hc, if_pos (by omega), wrap_id (by omega) (by omega), ih k (by omega), if_pos hc]
      simp
    · obtain ⟨K, ih⟩ := siList_l0 l hm hl hi h2 m (i + 1) acc (by omega) (by omega) (by omega)
      dsimp only at ih
      refine Ev.mk' (K + K1) fun k hk => ?_
      simp only [spec_siList.l0, h3 k (by omega), Option.bind_some]
      rw [if_pos (by omega), if_neg hc, wrap_id (by omega) (by omega), ih k (by omega), if_neg hc]
      simp
theorem siList_ev (l : List SRule) (hm : l.length ≤ 12) (hl : l.all okRule = true) (n : Int) (h0 : 0 ≤ n) (h1 : n ≤ 600) : Ev (fun k => spec_siList.f k l n) (leftsTo l 1 n) := by
  obtain ⟨K, ih⟩ := siList_l0 l hm hl n (by omega) (n + 1 - 1).toNat 1 [] (by omega) (by omega) (by simp; omega)
  exact ⟨K, fun k hk => ih k hk⟩
def mostOk (n : Int) : Bool := decide (0 ≤ n) && decide (n ≤ 600)
theorem siMost_ev (l : List SRule) (n : Int) : Ev (fun k => spec_siMost.f k l n) (goodRules l && mostOk n) := by
  obtain ⟨K, h⟩ := siGood_ev l
  refine ⟨K, fun k hk => ?_⟩
  have h := h k hk
  dsimp only at h
  simp only [spec_siMost.f, h, Option.bind_some, l1In_ok, mostOk]
  cases goodRules l <;> simp
theorem isMost_ok (n : Int) : impl_isMost.f n = some (mostOk n) := by
  unfold impl_isMost.f mostOk
  by_cases h : 0 ≤ n <;> simp [h]
theorem leftsTo_length (l : List SRule) (lo hi : Int) : (leftsTo l lo hi).length ≤ (hi + 1 - lo).toNat := lefts_length _ _ _
end Go.Proofs.Ytdcijdeiaefjpaa.P
namespace Go.Proofs.Ytdcijdeiaefjpaa.P
open Go.RowKit Go.Proofs.YtdcijdeiaefjpaaW.PrintWords Go.Proofs.YtdcijdeiaefjpaaW.PrintLast
set_option linter.unusedVariables false
set_option linter.unusedSimpArgs false
theorem rd_dropG (l : List Int) (k : Nat) (h : k < l.length) : l.drop k = rd l k :: l.drop (k + 1) := by
  rw [List.drop_eq_getElem_cons h]
  simp [rd, List.getD, h]
def dif : Int → List Int → List Int
  | _, [] => []
  | a, b :: t => wrap64 (b - a) :: dif b t
def frm : Int → List Int → List Int
  | _, [] => []
  | a, b :: t => a :: frm b t
theorem dif_length : ∀ (l : List Int) (a : Int), (dif a l).length = l.length
  | [], _ => rfl
  | b :: t, a => by simp [dif, dif_length t b]
theorem frm_length : ∀ (l : List Int) (a : Int), (frm a l).length = l.length
  | [], _ => rfl
  | b :: t, a => by simp [frm, frm_length t b]
def gapsL (l : List Int) : List Int := dif (rd l 0) (l.drop 1)
def fromL (l : List Int) : List Int := frm (rd l 0) (l.drop 1)
theorem gapsL_length (l : List Int) : (gapsL l).length = l.length - 1 := by simp [gapsL, dif_length]
theorem fromL_length (l : List Int) : (fromL l).length = l.length - 1 := by simp [fromL, frm_length]
theorem gapsOf_l0 (l : List Int) (hm : l.length < 17592186044416) : ∀ (d i : Nat) (a b : List Int), i + 1 + d = l.length → a.length ≤ i → b.length ≤ i → Ev (fun k => impl_gapsOf.l0 k l a b ((i + 1 : Nat) : Int)) (a ++ frm (rd l i) (l.drop (i + 1)), b ++ dif (rd l i) (l.drop (i + 1)))
  | 0, i, a, b, h, ha, hb => Ev.mk' 0 fun k _ => by
    simp only [impl_gapsOf.l0]
    rw [if_neg (by omega), List.drop_eq_nil_of_le (by omega)]; simp [frm, dif]
  | d + 1, i, a, b, h, ha, hb => by
    obtain ⟨K, ih⟩ := gapsOf_l0 l hm d (i + 1) (a ++ [rd l i]) (b ++ [wrap64 (rd l ((i + 1 : Nat) : Int) - rd l i)]) (by omega) (by simp; omega) (by simp; omega)
    dsimp only at ih
    refine Ev.mk' K fun k hk => ?_
    simp only [impl_gapsOf.l0]
    rw [show wrap64 (((i + 1 : Nat) : Int) - 1) = (i : Int) by rw [wrap_id (by omega) (by omega)]; omega]
    rw [if_pos (by omega), if_pos (by omega), if_pos (by omega), if_pos (by omega), if_pos (by omega), if_pos (by omega)]
    rw [show wrap64 (((i + 1 : Nat) : Int) + 1) = ((i + 1 + 1 : Nat) : Int) from wrap_id (by omega) (by omega), ih k hk]
    rw [rd_dropG l (i + 1) (by omega), frm, dif]
    simp
theorem gapsOf_ev (l : List Int) (hm : l.length < 17592186044416) : Ev (fun k => impl_gapsOf.f k l) (fromL l, gapsL l) := by
  cases l with
  | nil =>
    refine Ev.mk' 0 fun k _ => ?_
    simp only [impl_gapsOf.f, impl_gapsOf.l0]
    rw [if_neg (by simp)]; rfl
  | cons x t =>
    obtain ⟨K, ih⟩ := gapsOf_l0 (x :: t) hm t.length 0 [] [] (by simp; omega) (by simp) (by simp)
    exact ⟨K, fun k hk => ih k hk⟩
end Go.Proofs.Ytdcijdeiaefjpaa.P
namespace Go.Proofs.Ytdcijdeiaefjpaa.P
open Go.RowKit Go.Proofs.YtdcijdeiaefjpaaW.PrintWords Go.Proofs.YtdcijdeiaefjpaaW.PrintLast
set_option linter.unusedVariables false
set_option linter.unusedSimpArgs false
theorem gcd_l0 : ∀ (n m : Nat), Ev (fun k => impl_gcd.l0 k (m : Int) (n : Int)) ((Nat.gcd m n : Nat) : Int) := by
  intro n
  induction n using Nat.strongRecOn with
  | _ n ih =>
    intro m
    by_cases h : n = 0
    · subst h
      refine Ev.mk' 0 fun k _ => ?_
      simp only [impl_gcd.l0]
      rw [if_neg (by omega)]; simp
    · obtain ⟨K, h2⟩ := ih (m % n) (Nat.mod_lt _ (by omega)) n
      dsimp only at h2
      refine Ev.mk' K fun k hk => ?_
      simp only [impl_gcd.l0]
      rw [if_pos (by omega), if_neg (by omega), show Int.tmod (m : Int) (n : Int) = ((m % n : Nat) : Int) from rfl, h2 k hk]
      rw [Nat.gcd_comm m n, Nat.gcd_rec n m, Nat.gcd_comm]
theorem siCommon_l0 : ∀ (k : Nat) (a b : Int), spec_siCommon.l0 k a b = impl_gcd.l0 k a b
  | 0, _, _ => rfl
  | k + 1, a, b => by simp only [spec_siCommon.l0, impl_gcd.l0, siCommon_l0 k]
def perN : Nat → List SRule → Option Nat
  | p, [] => some p
  | p, x :: t => if Nat.lcm p x.f0.toNat > 100000 then none else perN (Nat.lcm p x.f0.toNat) t
theorem lcm_step (p e : Nat) : p / Nat.gcd p e * e = Nat.lcm p e := by
  rw [Nat.lcm, Nat.mul_comm p e, Nat.mul_div_assoc _ (Nat.gcd_dvd_left p e), Nat.mul_comm]
theorem lcm_pos' {p e : Nat} (h : 0 < p) (h2 : 0 < e) : 0 < Nat.lcm p e := Nat.lcm_pos h h2
theorem step_val (p : Nat) (e : Int) (hp : 0 < p) (hp2 : p ≤ 100000) (h1 : 2 ≤ e) (h2 : e ≤ 60) :
    wrap64 (wrap64 (Int.tdiv (p : Int) ((Nat.gcd p e.toNat : Nat) : Int)) * e) = ((Nat.lcm p e.toNat : Nat) : Int) := by
  have hd : Int.tdiv (p : Int) ((Nat.gcd p e.toNat : Nat) : Int) = ((p / Nat.gcd p e.toNat : Nat) : Int) := rfl
  have hq : p / Nat.gcd p e.toNat ≤ 100000 := Nat.le_trans (Nat.div_le_self _ _) hp2
  rw [hd, show wrap64 ((p / Nat.gcd p e.toNat : Nat) : Int) = ((p / Nat.gcd p e.toNat : Nat) : Int) from by generalize p / Nat.gcd p e.toNat = q at hq ⊢; exact wrap_id (by omega) (by omega)]
  have hm : ((p / Nat.gcd p e.toNat : Nat) : Int) * e = ((Nat.lcm p e.toNat : Nat) : Int) := by
    rw [← lcm_step p e.toNat, Int.natCast_mul, Int.toNat_of_nonneg (by omega)]
  rw [hm]
  have hl : Nat.lcm p e.toNat ≤ 100000 * 60 := by
    rw [← lcm_step]; exact Nat.mul_le_mul hq (by omega)
  exact wrap_id (by omega) (by omega)
theorem lcmOf_l0 (l : List SRule) (hm : l.length ≤ 12) (hl : l.all okRule = true) : ∀ (d i p : Nat), i + d = l.length → 0 < p → p ≤ 100000 →
    Ev (fun k => impl_lcmOf.l0 k p l l.length i) (match perN p (l.drop i) with | some q => ((q : Int), true) | none => (0, false)) ∧
    Ev (fun k => spec_siPeriod.l0 k p l l.length i) (match perN p (l.drop i) with | some q => (q : Int) | none => 0)
  | 0, i, p, h, h1, h2 => by
    rw [List.drop_eq_nil_of_le (by omega)]
    constructor
    · refine Ev.mk' 0 fun k _ => ?_
      simp only [impl_lcmOf.l0]
      rw [if_neg (by omega)]; rfl
    · refine Ev.mk' 0 fun k _ => ?_
      simp only [spec_siPeriod.l0]
      rw [if_neg (by omega)]; rfl
  | d + 1, i, p, h, h1, h2 => by
    have ho := (okRule_iff _).1 (List.all_eq_true.mp hl _ (rd_mem l i (by omega)))
    have he : ((rd_Rule l i).f0.toNat : Int) = (rd_Rule l i).f0 := Int.toNat_of_nonneg (by omega)
    obtain ⟨Kg, hg⟩ := gcd_l0 (rd_Rule l i).f0.toNat p
    dsimp only at hg
    rw [he] at hg
    have hs := step_val p (rd_Rule l i).f0 h1 h2 ho.1 ho.2.1
    have hg0 : ((Nat.gcd p (rd_Rule l i).f0.toNat : Nat) : Int) ≠ 0 := by
      have := Nat.gcd_pos_of_pos_left (rd_Rule l i).f0.toNat h1
      omega
    have hpos := lcm_pos' (e := (rd_Rule l i).f0.toNat) h1 (by omega)
    rw [rd_drop l i (by omega), perN]
    by_cases hc : Nat.lcm p (rd_Rule l i).f0.toNat > 100000
    · rw [if_pos hc]
      constructor
      · refine Ev.mk' Kg fun k hk => ?_
        simp only [impl_lcmOf.l0, impl_gcd.f, hg k hk, Option.bind_some, hs]
        rw [if_pos (by omega), if_pos (by omega), if_pos (by omega), if_neg hg0, if_pos (by omega)]
      · refine Ev.mk' Kg fun k hk => ?_
        simp only [spec_siPeriod.l0, spec_siCommon.f, siCommon_l0, hg k hk, Option.bind_some, hs]
        rw [if_pos (by omega), if_pos (by omega), if_pos (by omega), if_neg hg0, if_pos (by omega)]
    · rw [if_neg hc]
      obtain ⟨⟨K1, i1⟩, ⟨K2, i2⟩⟩ := lcmOf_l0 l hm hl d (i + 1) (Nat.lcm p (rd_Rule l i).f0.toNat) (by omega) hpos (by omega)
      dsimp only at i1 i2
      constructor
      · refine Ev.mk' (Kg + K1) fun k hk => ?_
        simp only [impl_lcmOf.l0, impl_gcd.f, hg k (by omega), Option.bind_some, hs]
        rw [if_pos (by omega), if_pos (by omega), if_pos (by omega), if_neg hg0, if_neg (by omega), show wrap64 ((i : Int) + 1) = ((i + 1 : Nat) : Int) from wrap_id (by omega) (by omega), i1 k (by omega)]
      · refine Ev.mk' (Kg + K2) fun k hk => ?_
        simp only [spec_siPeriod.l0, spec_siCommon.f, siCommon_l0, hg k (by omega), Option.bind_some, hs]
        rw [if_pos (by omega), if_pos (by omega), if_pos (by omega), if_neg hg0, if_neg (by omega), show wrap64 ((i : Int) + 1) = ((i + 1 : Nat) : Int) from wrap_id (by omega) (by omega), i2 k (by omega)]
theorem perN_pos : ∀ (l : List SRule) (p q : Nat), l.all okRule = true → 0 < p → p ≤ 100000 → perN p l = some q → 0 < q ∧ q ≤ 100000
  | [], p, q, _, h, h2, he => by simp [perN] at he; omega
  | x :: t, p, q, ha, h, h2, he => by
    rw [perN] at he
    simp only [List.all_cons, Bool.and_eq_true] at ha
    have hx := (okRule_iff x).1 ha.1
    split at he
    · simp at he
    · exact perN_pos t _ q ha.2 (lcm_pos' h (by omega)) (by omega) he
def period (l : List SRule) : Option Nat := if goodRules l = true then perN 1 l else none
theorem period_some {l : List SRule} {p : Nat} (h : period l = some p) : goodRules l = true ∧ 0 < p ∧ p ≤ 100000 := by
  unfold period at h
  split at h
  · next hg => exact ⟨hg, perN_pos l 1 p (good_all hg).2 (by omega) (by omega) h⟩
  · simp at h
theorem periodOf_ev (l : List SRule) : Ev (fun k => impl_periodOf.f k l) (match period l with | some q => ((q : Int), true) | none => (0, false)) := by
  unfold period
  by_cases hg : goodRules l = true
  · rw [if_pos hg]
    obtain ⟨⟨K1, i1⟩, -⟩ := lcmOf_l0 l (good_all hg).1 (good_all hg).2 l.length 0 1 (by omega) (by omega) (by omega)
    refine ⟨K1, fun k hk => ?_⟩
    have i1 : impl_lcmOf.l0 k 1 l l.length 0 = _ := i1 k hk
    simp only [impl_periodOf.f, areRules_ok, hg, Option.bind_some, if_true, impl_lcmOf.f, i1, List.drop_zero]
  · rw [if_neg hg]
    refine ⟨0, fun k _ => ?_⟩
    simp only [impl_periodOf.f, areRules_ok, Option.bind_some]
    rw [if_neg hg]
theorem siPeriod_ev (l : List SRule) (hg : goodRules l = true) : Ev (fun k => spec_siPeriod.f k l) (match period l with | some q => (q : Int) | none => 0) := by
  unfold period
  rw [if_pos hg]
  obtain ⟨-, ⟨K1, i1⟩⟩ := lcmOf_l0 l (good_all hg).1 (good_all hg).2 l.length 0 1 (by omega) (by omega) (by omega)
  exact ⟨K1, fun k hk => i1 k hk⟩
end Go.Proofs.Ytdcijdeiaefjpaa.P
namespace Go.Proofs.Ytdcijdeiaefjpaa.P
open Go.RowKit Go.Proofs.YtdcijdeiaefjpaaW.PrintWords Go.Proofs.YtdcijdeiaefjpaaW.PrintLast
set_option linter.unusedVariables false
set_option linter.unusedSimpArgs false
def perL (l : List SRule) (p : Nat) : List Int := leftsTo l 0 ((p : Int) - 1)
theorem perL_length (l : List SRule) (p : Nat) : (perL l p).length ≤ p := by
  have := lefts_length l ((p : Int) - 1 + 1 - 0).toNat 0
  unfold perL leftsTo
  omega
def perL1 (l : List SRule) (p : Nat) : List Int := perL l p ++ [wrap64 (rd (perL l p) 0 + (p : Int))]
def gpL (l : List SRule) : List Int × Bool := match period l with | some p => (perL l p, decide ((perL l p).length > 0)) | none => ([], false)
theorem decide_len (l : List Int) : decide ((l.length : Int) > 0) = decide (l.length > 0) := by
  rw [Bool.eq_iff_iff]; simp
theorem gpLeft_l0 (l : List SRule) (p : Nat) (hp : period l = some p) : ∀ (m : Nat) (i : Int) (acc : List Int), i + m = p → 0 ≤ i → acc.length + m < 17592186044416 → Ev (fun k => spec_gpLeft.l0 k l acc i) (acc ++ lefts l i m, decide ((acc ++ lefts l i m).length > 0))
  | 0, i, acc, h, h0, h1 => by
    obtain ⟨hg, hp0, hp1⟩ := period_some hp
    obtain ⟨K, hK⟩ := siPeriod_ev l hg
    dsimp only at hK
    rw [hp] at hK
    refine Ev.mk' K fun k hk => ?_
    simp only [spec_gpLeft.l0, hK k hk, Option.bind_some]
    rw [if_neg (by omega), decide_len]; simp [lefts]
  | m + 1, i, acc, h, h0, h1 => by
    obtain ⟨hg, hp0, hp1⟩ := period_some hp
    obtain ⟨K2, hK⟩ := siPeriod_ev l hg
    dsimp only at hK
    rw [hp] at hK
    obtain ⟨K1, h3⟩ := siLeft_ev i l (by have := (good_all hg).1; omega) (good_all hg).2
    dsimp only at h3
    simp only [lefts]
    by_cases hc : left l i = true
    · obtain ⟨K, ih⟩ := gpLeft_l0 l p hp m (i + 1) (acc ++ [i]) (by omega) (by omega) (by simp; omega)
      dsimp only at ih
      refine Ev.mk' (K + K1 + K2) fun k hk => ?_
      simp only [spec_gpLeft.l0, hK k (by omega), h3 k (by omega), Option.bind_some]
      rw [if_pos (by omega), if_pos hc, if_pos (by omega), wrap_id (by omega) (by omega), ih k (by omega)]
      simp [hc]
    · obtain ⟨K, ih⟩ := gpLeft_l0 l p hp m (i + 1) acc (by omega) (by omega) (by omega)
      dsimp only at ih
      refine Ev.mk' (K + K1 + K2) fun k hk => ?_
      simp only [spec_gpLeft.l0, hK k (by omega), h3 k (by omega), Option.bind_some]
      rw [if_pos (by omega), if_neg hc, wrap_id (by omega) (by omega), ih k (by omega)]
      simp [hc]
theorem gpLeft_ev (l : List SRule) : Ev (fun k => spec_gpLeft.f k l) (gpL l) := by
  obtain ⟨K1, h1⟩ := siGood_ev l
  dsimp only at h1
  unfold gpL
  by_cases hg : goodRules l = true
  · obtain ⟨K2, h2⟩ := siPeriod_ev l hg
    dsimp only at h2
    cases hp : period l with
    | none =>
      rw [hp] at h2
      refine Ev.mk' (K1 + K2) fun k hk => ?_
      simp (disch := omega) only [spec_gpLeft.f, h1, h2, hg, Option.bind_some, if_true, spec_gpLeft.j0]
      simp
    | some p =>
      rw [hp] at h2
      obtain ⟨-, hp0, hp1⟩ := period_some hp
      obtain ⟨K3, h3⟩ := gpLeft_l0 l p hp p 0 [] (by omega) (by omega) (by simp; omega)
      dsimp only at h3
      refine Ev.mk' (K1 + K2 + K3) fun k hk => ?_
      have e : (((p : Nat) : Int) == 0) = false := by simp; omega
      simp (disch := omega) only [spec_gpLeft.f, h1, h2, h3, hg, e, Option.bind_some, if_true, spec_gpLeft.j0]
      unfold perL leftsTo
      rw [show ((p : Int) - 1 + 1 - 0).toNat = p by omega]
      simp
  · have hp : period l = none := by unfold period; rw [if_neg hg]
    rw [hp]
    refine Ev.mk' (K1) fun k hk => ?_
    simp (disch := omega) only [spec_gpLeft.f, h1, Option.bind_some, spec_gpLeft.j0]
    rw [if_neg hg]; rfl
theorem frm_snoc (x : Int) : ∀ (t : List Int) (a : Int), frm a (t ++ [x]) = a :: t
  | [], a => rfl
  | b :: t, a => by simp [frm, frm_snoc x t b]
theorem rd_zero_app (l : List Int) (x : Int) (h : l ≠ []) : rd (l ++ [x]) 0 = rd l 0 := by
  cases l with
  | nil => exact absurd rfl h
  | cons y t => simp [rd]
theorem fromL_snoc (l : List Int) (x : Int) (h : l ≠ []) : fromL (l ++ [x]) = l := by
  unfold fromL
  rw [rd_zero_app l x h]
  cases l with
  | nil => exact absurd rfl h
  | cons y t => simp [rd, frm_snoc]
def pgaps (l : List SRule) : List Int × List Int × Bool := match period l with
  | some p => if perL l p = [] then ([], [], false) else (perL l p, gapsL (perL1 l p), true)
  | none => ([], [], false)
theorem periodGaps_ev (l : List SRule) : Ev (fun k => impl_periodGaps.f k l) (pgaps l) := by
  obtain ⟨K1, h1⟩ := periodOf_ev l
  dsimp only at h1
  unfold pgaps
  cases hp : period l with
  | none =>
    rw [hp] at h1
    refine ⟨K1, fun k hk => ?_⟩
    simp (disch := omega) only [impl_periodGaps.f, h1, Option.bind_some]
    simp
  | some p =>
    rw [hp] at h1
    obtain ⟨hg, hp0, hp1⟩ := period_some hp
    have hl := perL_length l p
    obtain ⟨K2, h2⟩ := leftBetween_ev l (good_all hg).2 0 ((p : Int) - 1) (by omega) (by omega) (by omega)
    obtain ⟨K3, h3⟩ := gapsOf_ev (perL1 l p) (by simp [perL1]; omega)
    dsimp only at h2 h3
    refine ⟨K1 + K2 + K3, fun k hk => ?_⟩
    simp (disch := omega) only [impl_periodGaps.f, h1, Option.bind_some, if_true]
    rw [wrap_id (by omega) (by omega), h2 k (by omega), show leftsTo l 0 ((p : Int) - 1) = perL l p from rfl]
    simp only [Option.bind_some]
    by_cases he : perL l p = []
    · rw [if_pos he, if_pos (by rw [he]; rfl)]
    · have : 0 < (perL l p).length := List.length_pos_iff.mpr he
      rw [if_neg he, if_neg (by omega), if_pos (by omega), if_pos (by omega), show perL l p ++ [wrap64 (rd (perL l p) 0 + (p : Int))] = perL1 l p from rfl, h3 k (by omega)]
      simp only [Option.bind_some]
      rw [show fromL (perL1 l p) = perL l p from fromL_snoc _ _ he]
end Go.Proofs.Ytdcijdeiaefjpaa.P
namespace Go.Proofs.Ytdcijdeiaefjpaa.P
open Go.RowKit Go.Proofs.YtdcijdeiaefjpaaW.PrintWords Go.Proofs.YtdcijdeiaefjpaaW.PrintLast
set_option linter.unusedVariables false
set_option linter.unusedSimpArgs false
def GapOk (l : List SRule) : Int → List Int → Prop
  | _, [] => True
  | x, y :: t => x < y ∧ (∀ z, x < z → z < y → left l z = false) ∧ GapOk l y t
def lastOf : Int → List Int → Int
  | x, [] => x
  | _, y :: t => lastOf y t
theorem lefts_shape (l : List SRule) : ∀ (m : Nat) (i : Int) (x : Int) (t : List Int), lefts l i m = x :: t → i ≤ x ∧ x < i + m ∧ left l x = true ∧ (∀ z, i ≤ z → z < x → left l z = false) ∧ GapOk l x t ∧ x ≤ lastOf x t ∧ lastOf x t < i + m ∧ ∀ z, lastOf x t < z → z < i + m → left l z = false
  | 0, i, x, t, h => by simp [lefts] at h
  | m + 1, i, x, t, h => by
    simp only [lefts] at h
    cases hc : left l i with
    | false =>
      rw [hc] at h
      have h : lefts l (i + 1) m = x :: t := by simpa using h
      obtain ⟨h1, h2, h3, h4, h5, h6, h7, h8⟩ := lefts_shape l m (i + 1) x t h
      refine ⟨by omega, by omega, h3, fun z hz hz2 => ?_, h5, h6, by omega, fun z hz hz2 => h8 z hz (by omega)⟩
      by_cases e : z = i
      · rw [e]; exact hc
      · exact h4 z (by omega) hz2
    | true =>
      rw [hc] at h
      have h : i :: lefts l (i + 1) m = x :: t := by simpa using h
      obtain ⟨rfl, rfl⟩ := List.cons.inj h
      cases ht : lefts l (i + 1) m with
      | nil =>
        refine ⟨Int.le_refl _, by omega, hc, fun z _ _ => by omega, trivial, Int.le_refl _, by show i < _; omega, fun z hz hz2 => ?_⟩
        have hz : i < z := hz
        have hn := (show ∀ (m : Nat) (i : Int), lefts l i m = [] → ∀ z, i ≤ z → z < i + m → left l z = false from by
          intro m
          induction m with
          | zero => intro i _ z h1 h2; omega
          | succ m ih =>
            intro i h z h1 h2
            simp only [lefts] at h
            cases hc2 : left l i with
            | true => rw [hc2] at h; simp at h
            | false =>
              rw [hc2] at h
              by_cases e : z = i
              · rw [e]; exact hc2
              · exact ih (i + 1) (by simpa using h) z (by omega) (by omega))
        exact hn m (i + 1) ht z (by omega) (by omega)
      | cons y u =>
        obtain ⟨h1, h2, h3, h4, h5, h6, h7, h8⟩ := lefts_shape l m (i + 1) y u ht
        exact ⟨Int.le_refl _, by omega, hc, fun z _ _ => by omega, ⟨by omega, fun z hz hz2 => h4 z (by omega) hz2, h5⟩, by show i ≤ lastOf y u; omega, by show lastOf y u < _; omega, fun z hz hz2 => h8 z hz (by omega)⟩
theorem gapOk_snoc (l : List SRule) (e : Int) : ∀ (t : List Int) (x : Int), GapOk l x t → lastOf x t < e → (∀ z, lastOf x t < z → z < e → left l z = false) → GapOk l x (t ++ [e])
  | [], x, _, h1, h2 => ⟨h1, h2, trivial⟩
  | y :: t, x, h, h1, h2 => ⟨h.1, h.2.1, gapOk_snoc l e t y h.2.2 h1 h2⟩
def gaps : Int → List Int → List Int
  | _, [] => []
  | x, y :: t => (y - x) :: gaps y t
theorem gap_in (l : List SRule) : ∀ (t : List Int) (x : Int), GapOk l x t → ∀ g ∈ gaps x t, 1 ≤ g ∧ ∃ a : Int, ∀ j : Int, 1 ≤ j → j < g → left l (a + j) = false
  | [], x, _, g, hg => by simp [gaps] at hg
  | y :: t, x, h, g, hg => by
    simp only [gaps, List.mem_cons] at hg
    rcases hg with rfl | hg
    · have := h.1
      exact ⟨by omega, x, fun j h1 h2 => h.2.1 _ (by omega) (by omega)⟩
    · exact gap_in l t y h.2.2 g hg
theorem gap_over (l : List SRule) : ∀ (t : List Int) (x s : Int), GapOk l x t → left l x = true → (∀ y ∈ t, left l y = true) → x < s → s < lastOf x t → left l s = false → ∃ g ∈ gaps x t, ∃ u v : Int, g = v - u ∧ u < s ∧ s < v ∧ left l v = true
  | [], x, s, _, _, _, h1, h2, _ => by simp only [lastOf] at h2; omega
  | y :: t, x, s, h, hx, hy, h1, h2, hs => by
    by_cases c : s < y
    · exact ⟨y - x, by simp [gaps], x, y, rfl, h1, c, hy y List.mem_cons_self⟩
    · have hne : s ≠ y := fun e => by rw [e, hy y List.mem_cons_self] at hs; exact absurd hs (by decide)
      obtain ⟨g, hg, u, v, h3⟩ := gap_over l t y s h.2.2 (hy y List.mem_cons_self) (fun z hz => hy z (List.mem_cons_of_mem _ hz)) (by omega) h2 hs
      exact ⟨g, by simp [gaps, hg], u, v, h3⟩
end Go.Proofs.Ytdcijdeiaefjpaa.P
namespace Go.Proofs.Ytdcijdeiaefjpaa.P
open Go.RowKit Go.Proofs.YtdcijdeiaefjpaaW.PrintWords Go.Proofs.YtdcijdeiaefjpaaW.PrintLast
set_option linter.unusedVariables false
set_option linter.unusedSimpArgs false
theorem gpCovers_l0 (l : List SRule) (hm : l.length ≤ 12) (hl : l.all okRule = true) (hi : Int) (h2 : hi ≤ 4611686018427387904) : ∀ (m : Nat) (i : Int), i + m = hi + 1 → -4611686018427387904 ≤ i → Ev (fun k => spec_gpCovers.l0 k l hi i) ((lefts l i m).length == 0)
  | 0, i, h, h0 => Ev.mk' 0 fun k _ => by
    simp only [spec_gpCovers.l0]
    rw [if_neg (by omega)]; rfl
  | m + 1, i, h, h0 => by
    obtain ⟨K1, h1⟩ := siLeft_ev i l (by omega) hl
    obtain ⟨K, ih⟩ := gpCovers_l0 l hm hl hi h2 m (i + 1) (by omega) (by omega)
    dsimp only at ih h1
    refine Ev.mk' (K + K1) fun k hk => ?_
    simp only [spec_gpCovers.l0, h1 k (by omega), Option.bind_some]
    rw [if_pos (by omega), wrap_id (by omega) (by omega), ih k (by omega), lefts]
    cases left l i <;> simp
theorem gpCovers_ev (l : List SRule) (hm : l.length ≤ 12) (hl : l.all okRule = true) (n : Int) (h0 : 0 ≤ n) (h1 : n ≤ 40) : Ev (fun k => spec_gpCovers.f k l n) ((leftsTo l 1 n).length == 0) := by
  obtain ⟨K, ih⟩ := gpCovers_l0 l hm hl n (by omega) (n + 1 - 1).toNat 1 (by omega) (by omega)
  refine ⟨K, fun k hk => ?_⟩
  simp only [spec_gpCovers.f]
  exact ih k hk
end Go.Proofs.Ytdcijdeiaefjpaa.P
namespace Go.Proofs.Ytdcijdeiaefjpaa.P
open Go.RowKit Go.Proofs.YtdcijdeiaefjpaaW.PrintWords Go.Proofs.YtdcijdeiaefjpaaW.PrintLast
set_option linter.unusedVariables false
set_option linter.unusedSimpArgs false
theorem rd_dropP (l : List Int) (k : Nat) (h : k < l.length) : l.drop k = rd l k :: l.drop (k + 1) := by
  rw [List.drop_eq_getElem_cons h]
  simp [rd, List.getD, h]
def isSix (x : Int) : Bool := x == 2 || (x == 3 || (x == 5 || (x == 7 || (x == 11 || x == 13))))
def incF : Int → List Int → Bool
  | _, [] => true
  | a, b :: t => decide (a < b) && incF b t
def inc : List Int → Bool
  | [] => true
  | a :: t => incF a t
def primeList (l : List Int) : Bool := decide (l.length ≤ 5) && (l.all isSix && inc l)
theorem reIs_ev (x : Int) : Ev (fun k => spec_reIs.f k x) (isSix x) := by
  refine ⟨7, fun k hk => ?_⟩
  obtain ⟨k, rfl⟩ : ∃ m, k = m + 7 := ⟨k - 7, by omega⟩
  unfold isSix
  simp only [spec_reIs.f, spec_reIs.l0, spec_rePrime.f, wrap64]
  by_cases h0 : (2 : Int) = x
  · subst h0; rfl
  by_cases h1 : (3 : Int) = x
  · subst h1; rfl
  by_cases h2 : (5 : Int) = x
  · subst h2; rfl
  by_cases h3 : (7 : Int) = x
  · subst h3; rfl
  by_cases h4 : (11 : Int) = x
  · subst h4; rfl
  by_cases h5 : (13 : Int) = x
  · subst h5; rfl
  have e0 : ¬ x = 2 := fun e => h0 e.symm
  have e1 : ¬ x = 3 := fun e => h1 e.symm
  have e2 : ¬ x = 5 := fun e => h2 e.symm
  have e3 : ¬ x = 7 := fun e => h3 e.symm
  have e4 : ¬ x = 11 := fun e => h4 e.symm
  have e5 : ¬ x = 13 := fun e => h5 e.symm
  simp [h0, h1, h2, h3, h4, h5, e0, e1, e2, e3, e4, e5, obind]
theorem isOneOfSix_ev (x : Int) : Ev (fun k => impl_isOneOfSix.f k x) (isSix x) := by
  refine ⟨7, fun k hk => ?_⟩
  obtain ⟨k, rfl⟩ : ∃ m, k = m + 7 := ⟨k - 7, by omega⟩
  unfold isSix
  simp only [impl_isOneOfSix.f, impl_firstSix.f, obind, slices_Contains_int_int.f, slices_Index_int_int.f, slices_Index_int_int.l0, wrap64, rd]
  by_cases h0 : x = 2
  · subst h0; rfl
  by_cases h1 : x = 3
  · subst h1; rfl
  by_cases h2 : x = 5
  · subst h2; rfl
  by_cases h3 : x = 7
  · subst h3; rfl
  by_cases h4 : x = 11
  · subst h4; rfl
  by_cases h5 : x = 13
  · subst h5; rfl
  simp [h0, h1, h2, h3, h4, h5, obind]
theorem has_l0 (x : Int) (l : List Int) (hm : l.length ≤ 4611686018427387904) : ∀ (d i : Nat), i + d = l.length → Ev (fun k => spec_l1Has.l0 k x l l.length i) ((l.drop i).any (fun y => y == x))
  | 0, i, h => Ev.mk' 0 fun k _ => by
    simp only [spec_l1Has.l0]
    rw [if_neg (by omega), List.drop_eq_nil_of_le (by omega)]; rfl
  | d + 1, i, h => by
    obtain ⟨K, ih⟩ := has_l0 x l hm d (i + 1) (by omega)
    dsimp only at ih
    refine Ev.mk' K fun k hk => ?_
    simp only [spec_l1Has.l0]
    rw [if_pos (by omega), if_pos (by omega), if_pos (by omega), rd_dropP l i (by omega), List.any_cons]
    rw [show wrap64 ((i : Int) + 1) = ((i + 1 : Nat) : Int) from wrap_id (by omega) (by omega), ih k hk]
    by_cases hc : rd l i = x
    · rw [if_pos hc]; simp [hc]
    · rw [if_neg hc]; simp [hc]
theorem has_ev (x : Int) (l : List Int) (hm : l.length ≤ 4611686018427387904) : Ev (fun k => spec_l1Has.f k l x) (l.any (fun y => y == x)) := by
  obtain ⟨K, ih⟩ := has_l0 x l hm l.length 0 (by omega)
  exact ⟨K, fun k hk => ih k hk⟩
def allNd : List Int → List Int → Bool
  | _, [] => true
  | pre, x :: t => isSix x && (!(pre.any (fun y => y == x)) && allNd (pre ++ [x]) t)
theorem rePrimes_l0 (l : List Int) (hm : l.length ≤ 4611686018427387904) : ∀ (d i : Nat), i + d = l.length → Ev (fun k => spec_rePrimes.l0 k l l l.length i) (allNd (l.take i) (l.drop i))
  | 0, i, h => Ev.mk' 0 fun k _ => by
    simp only [spec_rePrimes.l0]
    rw [if_neg (by omega), List.drop_eq_nil_of_le (by omega)]; rfl
  | d + 1, i, h => by
    obtain ⟨K, ih⟩ := rePrimes_l0 l hm d (i + 1) (by omega)
    obtain ⟨K1, h1⟩ := reIs_ev (rd l i)
    obtain ⟨K2, h2⟩ := has_ev (rd l i) (l.take i) (by simp; omega)
    dsimp only at ih h1 h2
    refine Ev.mk' (K + K1 + K2) fun k hk => ?_
    have e : l.take (i + 1) = l.take i ++ [rd l i] := by
      rw [List.take_succ_eq_append_getElem (by omega)]
      simp [rd, List.getD, show i < l.length by omega]
    have ih := ih k (by omega)
    rw [e] at ih
    simp only [spec_rePrimes.l0]
    rw [if_pos (by omega), if_pos (by omega), if_pos (by omega), h1 k (by omega), obind, if_pos (show (i : Int) ≤ (l.length : Int) by omega), Int.toNat_natCast, h2 k (by omega), obind]
    rw [show wrap64 ((i : Int) + 1) = ((i + 1 : Nat) : Int) from wrap_id (by omega) (by omega), ih, rd_dropP l i (by omega), allNd]
    cases isSix (rd l i) <;> cases (l.take i).any (fun y => y == rd l i) <;> simp
theorem rePrimes_ev (l : List Int) : Ev (fun k => spec_rePrimes.f k l) (decide (l.length ≤ 6) && allNd [] l) := by
  by_cases h : l.length ≤ 6
  · obtain ⟨K, ih⟩ := rePrimes_l0 l (by omega) l.length 0 (by omega)
    have ih : ∀ k, K ≤ k → spec_rePrimes.l0 k l l l.length 0 = _ := ih
    refine ⟨K, fun k hk => ?_⟩
    simp only [spec_rePrimes.f]
    rw [if_neg (by omega), ih k hk]
    simp [h]
  · refine ⟨0, fun k _ => ?_⟩
    simp only [spec_rePrimes.f]
    rw [if_pos (by omega)]; simp [h]
theorem gpPrimes_l0 (l : List Int) (hm : l.length ≤ 4611686018427387904) : ∀ (d i : Nat), i + 1 + d = l.length → Ev (fun k => spec_gpPrimes.l0 k l ((i + 1 : Nat) : Int)) (incF (rd l i) (l.drop (i + 1)))
  | 0, i, h => Ev.mk' 0 fun k _ => by
    simp only [spec_gpPrimes.l0]
    rw [if_neg (by omega), List.drop_eq_nil_of_le (by omega)]; rfl
  | d + 1, i, h => by
    obtain ⟨K, ih⟩ := gpPrimes_l0 l hm d (i + 1) (by omega)
    dsimp only at ih
    refine Ev.mk' K fun k hk => ?_
    simp only [spec_gpPrimes.l0]
    rw [show wrap64 (((i + 1 : Nat) : Int) - 1) = (i : Int) by rw [wrap_id (by omega) (by omega)]; omega]
    rw [if_pos (by omega), if_pos (by omega), if_pos (by omega), if_pos (by omega)]
    rw [show wrap64 (((i + 1 : Nat) : Int) + 1) = ((i + 1 + 1 : Nat) : Int) from wrap_id (by omega) (by omega), ih k hk, rd_dropP l (i + 1) (by omega), incF]
    generalize rd l ((i + 1 : Nat) : Int) = v
    by_cases hc : rd l i < v
    · rw [if_neg (by omega)]; simp [hc]
    · rw [if_pos (by omega)]; simp [hc]
theorem gpPrimes_l (l : List Int) (hm : l.length ≤ 4611686018427387904) : Ev (fun k => spec_gpPrimes.l0 k l 1) (inc l) := by
  cases l with
  | nil =>
    refine Ev.mk' 0 fun k _ => ?_
    simp only [spec_gpPrimes.l0]
    rw [if_neg (by simp)]; rfl
  | cons x t =>
    obtain ⟨K, ih⟩ := gpPrimes_l0 (x :: t) hm t.length 0 (by simp; omega)
    exact ⟨K, fun k hk => ih k hk⟩
theorem nd_of_inc : ∀ (t pre : List Int) (a : Int), incF a t = true → (∀ y ∈ pre, y ≤ a) → allNd pre t = t.all isSix
  | [], _, _, _, _ => rfl
  | b :: t, pre, a, hi, hp => by
    simp only [incF, Bool.and_eq_true, decide_eq_true_eq] at hi
    have h1 : pre.any (fun y => y == b) = false := by
      rw [List.any_eq_false]
      intro y hy
      have := hp y hy
      simp; omega
    rw [allNd, h1, nd_of_inc t (pre ++ [b]) b hi.2 (fun y hy => by
      simp only [List.mem_append, List.mem_singleton] at hy
      rcases hy with hy | rfl
      · have := hp y hy; omega
      · exact Int.le_refl _)]
    simp
theorem nd_inc (l : List Int) (h : inc l = true) : allNd [] l = l.all isSix := by
  cases l with
  | nil => rfl
  | cons x t =>
    rw [allNd, nd_of_inc t ([] ++ [x]) x h (by simp)]
    simp
theorem gpPrimes_ev (l : List Int) : Ev (fun k => spec_gpPrimes.f k l) (primeList l) := by
  unfold primeList
  by_cases h : l.length ≤ 5
  · obtain ⟨K1, h1⟩ := rePrimes_ev l
    obtain ⟨K2, h2⟩ := gpPrimes_l l (by omega)
    dsimp only at h1 h2
    refine Ev.mk' (K1 + K2) fun k hk => ?_
    simp (disch := omega) only [spec_gpPrimes.f, h1, obind]
    rw [if_neg (by omega)]
    simp (disch := omega) only [spec_gpPrimes.j0, h2]
    have h6 : l.length ≤ 6 := by omega
    cases hi : inc l
    · cases allNd [] l <;> simp [h, h6]
    · rw [nd_inc l hi]
      cases l.all isSix <;> simp [h, h6]
  · refine Ev.mk' 0 fun k _ => ?_
    simp only [spec_gpPrimes.f, spec_gpPrimes.j0]
    rw [if_pos (by omega)]; simp [h]
theorem arePrimeList_l0 (l : List Int) (hm : l.length ≤ 4611686018427387904) : ∀ (d i : Nat), i + 1 + d = l.length → Ev (fun k => impl_arePrimeList.l0 k l l l.length ((i + 1 : Nat) : Int)) (decide (l.length ≤ 5) && ((l.drop (i + 1)).all isSix && incF (rd l i) (l.drop (i + 1))))
  | 0, i, h => Ev.mk' 0 fun k _ => by
    simp only [impl_arePrimeList.l0]
    rw [if_neg (by omega), List.drop_eq_nil_of_le (by omega)]
    congr 1
    rw [Bool.eq_iff_iff]; simp [incF]; omega
  | d + 1, i, h => by
    obtain ⟨K, ih⟩ := arePrimeList_l0 l hm d (i + 1) (by omega)
    obtain ⟨K1, h1⟩ := isOneOfSix_ev (rd l ((i + 1 : Nat) : Int))
    dsimp only at ih h1
    refine Ev.mk' (K + K1) fun k hk => ?_
    simp only [impl_arePrimeList.l0]
    rw [show wrap64 (((i + 1 : Nat) : Int) - 1) = (i : Int) by rw [wrap_id (by omega) (by omega)]; omega]
    rw [if_pos (by omega), if_pos (by omega), if_pos (by omega), h1 k (by omega), obind, if_pos (show ((i + 1 : Nat) : Int) > 0 by omega), if_pos (show (0 : Int) ≤ (i : Int) by omega), if_pos (show (i : Int) < (l.length : Int) by omega)]
    rw [show wrap64 (((i + 1 : Nat) : Int) + 1) = ((i + 1 + 1 : Nat) : Int) from wrap_id (by omega) (by omega), ih k (by omega), rd_dropP l (i + 1) (by omega), incF, List.all_cons]
    generalize rd l ((i + 1 : Nat) : Int) = v
    cases isSix v
    · simp
    · by_cases hc : rd l i < v
      · rw [if_pos rfl, if_neg (show ¬ rd l i ≥ v by omega)]; simp [hc]
      · rw [if_pos rfl, if_pos (show rd l i ≥ v by omega)]; simp [hc]
theorem arePrimeList_ev (l : List Int) (hm : l.length ≤ 4611686018427387904) : Ev (fun k => impl_arePrimeList.f k l) (primeList l) := by
  unfold primeList
  cases l with
  | nil =>
    refine Ev.mk' 0 fun k _ => ?_
    simp only [impl_arePrimeList.f, impl_arePrimeList.l0]
    rw [if_neg (by simp)]; rfl
  | cons x t =>
    obtain ⟨K, ih⟩ := arePrimeList_l0 (x :: t) hm t.length 0 (by simp; omega)
    obtain ⟨K1, h1⟩ := isOneOfSix_ev x
    have ih : ∀ k, K ≤ k → impl_arePrimeList.l0 k (x :: t) (x :: t) (x :: t).length 1 = _ := ih
    dsimp only at h1
    have hr : rd (x :: t) 0 = x := rfl
    have hw : wrap64 (0 + 1) = 1 := wrap_id (by omega) (by omega)
    refine Ev.mk' (K + K1) fun k hk => ?_
    simp only [impl_arePrimeList.f, impl_arePrimeList.l0]
    rw [if_pos (by simp), if_pos (by omega), if_pos (by simp), hr, h1 k (by omega), obind, if_neg (show ¬ (0 : Int) > 0 by omega), hw, ih k (by omega), List.all_cons, inc]
    cases isSix x
    · simp
    · simp [hr]
def withoutL : List Int → List SRule
  | [] => []
  | p :: t => ⟨p, 0⟩ :: withoutL t
theorem withoutL_length : ∀ l, (withoutL l).length = l.length
  | [] => rfl
  | p :: t => by simp [withoutL, withoutL_length t]
theorem without_l0 (l : List Int) (hm : l.length ≤ 5) : ∀ (d i : Nat) (acc : List SRule), i + d = l.length → acc.length ≤ i → Ev (fun k => spec_RulesWithout.l0 k acc l l.length i) (acc ++ withoutL (l.drop i), true) ∧ Ev (fun k => impl_RulesWithout.l0 k acc l l.length i) (acc ++ withoutL (l.drop i), true)
  | 0, i, acc, h, ha => by
    rw [List.drop_eq_nil_of_le (by omega)]
    constructor
    · refine Ev.mk' 0 fun k _ => ?_
      simp only [spec_RulesWithout.l0]
      rw [if_neg (by omega)]; simp [withoutL]
    · refine Ev.mk' 0 fun k _ => ?_
      simp only [impl_RulesWithout.l0]
      rw [if_neg (by omega)]; simp [withoutL]
  | d + 1, i, acc, h, ha => by
    obtain ⟨⟨K1, h1⟩, ⟨K2, h2⟩⟩ := without_l0 l hm d (i + 1) (acc ++ [⟨rd l i, 0⟩]) (by omega) (by simp; omega)
    dsimp only at h1 h2
    rw [rd_dropP l i (by omega), withoutL]
    constructor
    · refine Ev.mk' K1 fun k hk => ?_
      simp only [spec_RulesWithout.l0]
      rw [if_pos (by omega), if_pos (by omega), if_pos (by omega), if_pos (by omega), show wrap64 ((i : Int) + 1) = ((i + 1 : Nat) : Int) from wrap_id (by omega) (by omega), h1 k hk]
      simp
    · refine Ev.mk' K2 fun k hk => ?_
      simp only [impl_RulesWithout.l0]
      rw [if_pos (by omega), if_pos (by omega), if_pos (by omega), if_pos (by omega), show wrap64 ((i : Int) + 1) = ((i + 1 : Nat) : Int) from wrap_id (by omega) (by omega), h2 k hk]
      simp
def vWithout (l : List Int) : List SRule × Bool := if primeList l = true then (withoutL l, true) else ([], false)
theorem primeList_len {l : List Int} (h : primeList l = true) : l.length ≤ 5 := by
  unfold primeList at h
  simp only [Bool.and_eq_true, decide_eq_true_eq] at h
  exact h.1
theorem vWithout_len (l : List Int) : (vWithout l).1.length ≤ 5 := by
  unfold vWithout
  split
  · next h => have := primeList_len h; simp only [withoutL_length]; omega
  · simp
theorem RulesWithout_main (l : List Int) (hm : l.length ≤ 4611686018427387904) : Ev (fun k => spec_RulesWithout.f k l) (vWithout l) ∧ Ev (fun k => impl_RulesWithout.f k l) (vWithout l) := by
  obtain ⟨K1, h1⟩ := gpPrimes_ev l
  obtain ⟨K2, h2⟩ := arePrimeList_ev l hm
  dsimp only at h1 h2
  unfold vWithout
  by_cases hp : primeList l = true
  · obtain ⟨⟨K3, h3⟩, ⟨K4, h4⟩⟩ := without_l0 l (primeList_len hp) l.length 0 [] (by omega) (by simp)
    have h3 : ∀ k, K3 ≤ k → spec_RulesWithout.l0 k [] l l.length 0 = _ := h3
    have h4 : ∀ k, K4 ≤ k → impl_RulesWithout.l0 k [] l l.length 0 = _ := h4
    rw [if_pos hp]
    constructor
    · refine ⟨K1 + K3, fun k hk => ?_⟩
      simp (disch := omega) only [spec_RulesWithout.f, h1, obind, hp, if_true, h3]
      simp
    · refine ⟨K2 + K4, fun k hk => ?_⟩
      simp (disch := omega) only [impl_RulesWithout.f, h2, obind, hp, if_true, h4]
      simp
  · rw [if_neg hp]
    constructor
    · refine ⟨K1, fun k hk => ?_⟩
      simp (disch := omega) only [spec_RulesWithout.f, h1, obind]
      rw [if_neg hp]
    · refine ⟨K2, fun k hk => ?_⟩
      simp (disch := omega) only [impl_RulesWithout.f, h2, obind]
      rw [if_neg hp]
end Go.Proofs.Ytdcijdeiaefjpaa.P
namespace Go.Proofs.Ytdcijdeiaefjpaa.P
open Go.RowKit Go.Proofs.YtdcijdeiaefjpaaW.PrintWords Go.Proofs.YtdcijdeiaefjpaaW.PrintLast
set_option linter.unusedVariables false
set_option linter.unusedSimpArgs false
def cvr (len : Int) (r : List SRule) : Bool := (leftsTo r 1 len).length == 0
def coverL (ps : List Int) (len : Int) : List (List SRule) := (covL ps).filter (cvr len)
theorem prime_rd {ps : List Int} (h : primeList ps = true) : ps.length ≤ 5 ∧ ∀ p ∈ ps, 2 ≤ p ∧ p ≤ 13 := by
  unfold primeList at h
  simp only [Bool.and_eq_true, decide_eq_true_eq, List.all_eq_true] at h
  refine ⟨h.1, fun p hp => ?_⟩
  have := h.2.1 p hp
  unfold isSix at this
  simp at this
  omega
theorem prime_okC {ps : List Int} (h : primeList ps = true) : okC ps = true := by
  have hp := prime_rd h
  unfold okC
  simp only [Bool.and_eq_true, List.all_eq_true, decide_eq_true_eq]
  exact ⟨hp.1, fun p hm => by have := hp.2 p hm; omega⟩
def extA (L : List (List SRule)) (qs : List Int) : List (List SRule) := qs.foldl extL L
theorem extL_app (A B : List (List SRule)) (p : Int) : extL (A ++ B) p = extL A p ++ extL B p := by unfold extL; rw [List.flatMap_append]
theorem extA_app : ∀ (qs : List Int) (A B : List (List SRule)), extA (A ++ B) qs = extA A qs ++ extA B qs
  | [], A, B => rfl
  | q :: qs, A, B => by
    show extA (extL (A ++ B) q) qs = extA (extL A q) qs ++ extA (extL B q) qs
    rw [extL_app, extA_app qs]
theorem extA_nil : ∀ qs : List Int, extA [] qs = []
  | [] => rfl
  | q :: qs => by show extA (extL [] q) qs = []; rw [show extL [] q = [] from rfl, extA_nil qs]
theorem extL_rows {L : List (List SRule)} {p : Int} (h0 : 2 ≤ p) (h1 : p ≤ 13) (hL : ∀ r ∈ L, r.all okRule = true) : ∀ r ∈ extL L p, r.all okRule = true := by
  intro r hr
  obtain ⟨r', hr', i, hi, rfl⟩ := extL_mem hr
  rw [List.all_append, hL r' hr']
  have : okRule (⟨p, (i : Int)⟩ : SRule) = true := (okRule_iff _).2 ⟨h0, by show p ≤ 60; omega, by show 0 ≤ (i : Int); omega, by show (i : Int) < p; omega⟩
  simp [this]
theorem extA_rows : ∀ (qs : List Int), (∀ p ∈ qs, 2 ≤ p ∧ p ≤ 13) → ∀ L : List (List SRule), (∀ r ∈ L, r.all okRule = true) → ∀ r ∈ extA L qs, r.all okRule = true
  | [], _, L, hL => hL
  | q :: qs, hq, L, hL => extA_rows qs (fun p hp => hq p (List.mem_cons_of_mem _ hp)) (extL L q) (extL_rows (hq q List.mem_cons_self).1 (hq q List.mem_cons_self).2 hL)
theorem covL_rows {ps : List Int} (h : primeList ps = true) : ∀ r ∈ covL ps, r.all okRule = true := extA_rows ps (prime_rd h).2 [[]] (by simp)
def sibs (q : Int) (bg : List SRule) (i : Nat) : Nat → List (List SRule)
  | 0 => []
  | d + 1 => (bg ++ [(⟨q, (i : Int)⟩ : SRule)]) :: sibs q bg (i + 1) d
theorem sibs_map (q : Int) (bg : List SRule) : ∀ (d i : Nat), (List.range d).map (fun (j : Nat) => bg ++ [(⟨q, ((i + j : Nat) : Int)⟩ : SRule)]) = sibs q bg i d
  | 0, i => rfl
  | d + 1, i => by
    rw [List.range_succ_eq_map, List.map_cons, List.map_map, sibs, ← sibs_map q bg d (i + 1)]
    simp only [Nat.add_zero]
    congr 1
    apply List.map_congr_left
    intro j _
    simp only [Function.comp]
    rw [show i + Nat.succ j = i + 1 + j by omega]
theorem extL_sibs (q : Int) (bg : List SRule) : extL [bg] q = sibs q bg 0 q.toNat := by
  rw [← sibs_map]
  simp [extL]
theorem all_ev {α β : Type} (g : α → Nat → Option β) (v : α → β) : ∀ L : List α, (∀ r ∈ L, Ev (g r) (v r)) → ∃ K, ∀ k, K ≤ k → ∀ r ∈ L, g r k = some (v r)
  | [], _ => ⟨0, fun _ _ r hr => by simp at hr⟩
  | x :: L, h => by
    obtain ⟨K1, h1⟩ := h x List.mem_cons_self
    obtain ⟨K2, h2⟩ := all_ev g v L (fun r hr => h r (List.mem_cons_of_mem _ hr))
    refine ⟨K1 + K2, fun k hk r hr => ?_⟩
    rcases List.mem_cons.1 hr with rfl | hr
    · exact h1 k (by omega)
    · exact h2 k (by omega) r hr
theorem coversOf_ev {ps : List Int} (h : primeList ps = true) (len : Int) (h0 : 0 ≤ len) (h1 : len ≤ 41) : Ev (fun k => impl_coversOf.f k ps len) (coverL ps len) := by
  obtain ⟨K, hk⟩ := all_ev (fun r k => impl_leftBetween.f k r 1 len) (fun r => leftsTo r 1 len) (covL ps) (fun r hr => leftBetween_ev r (covL_rows h r hr) 1 len (by omega) (by omega) (by omega))
  refine ⟨K, fun k hk' => ?_⟩
  have hk := hk k hk'
  simp only [impl_coversOf.f]
  rw [if_pos ⟨prime_okC h, List.all_eq_true.2 fun r hr => by rw [hk r hr]; rfl⟩]
  congr 1
  unfold coverL
  refine List.filter_congr fun r hr => ?_
  rw [hk r hr]
  unfold cvr
  show (!decide (0 < (leftsTo r 1 len).length)) = _
  by_cases c : (leftsTo r 1 len).length = 0
  · simp [c]
  · have : 0 < (leftsTo r 1 len).length := by omega
    simp [this, c]
def acc (P : List SRule → Bool) (c : Int) (f : List SRule) (L : List (List SRule)) : Int × List SRule := (c + ((L.filter P).length : Int), if c = 0 then (L.filter P).headD f else f)
theorem acc_nil (P : List SRule → Bool) (c : Int) (f : List SRule) : acc P c f [] = (c, f) := by simp [acc]
theorem acc_app (P : List SRule → Bool) (c : Int) (hc : 0 ≤ c) (f : List SRule) (A B : List (List SRule)) : acc P (acc P c f A).1 (acc P c f A).2 B = acc P c f (A ++ B) := by
  unfold acc
  simp only [List.filter_append, List.length_append]
  cases hA : A.filter P with
  | nil => simp
  | cons x t =>
    simp only [List.length_cons, List.cons_append, List.headD_cons]
    by_cases c0 : c = 0
    · subst c0
      rw [if_neg (by omega)]
      simp
    · simp only [if_neg c0]
      rw [if_neg (by omega)]
      congr 1
      omega
theorem extA_length_pos (qs : List Int) (A B : List (List SRule)) : (extA (A ++ B) qs).length = (extA A qs).length + (extA B qs).length := by rw [extA_app, List.length_append]
theorem gpLook_l0 (ps : List Int) (len : Int) (bg : List SRule) (q : Int) (hq : q = rd ps bg.length) (hlt : bg.length < ps.length) (h5 : bg.length ≤ 5) (hq0 : 2 ≤ q) (hq1 : q ≤ 13) (hbg : bg.all okRule = true)
    (hf : ∀ (i : Nat) (c : Int) (f : List SRule), i < q.toNat → 0 ≤ c → c + ((extA [bg ++ [(⟨q, (i : Int)⟩ : SRule)]] (ps.drop (bg.length + 1))).length : Int) ≤ 1000000000 → Ev (fun k => spec_gpLook.f k ps (bg ++ [(⟨q, (i : Int)⟩ : SRule)]) len c f) (acc (cvr len) c f (extA [bg ++ [(⟨q, (i : Int)⟩ : SRule)]] (ps.drop (bg.length + 1))))) :
    ∀ (e i : Nat) (c : Int) (f : List SRule), i + e = q.toNat → 0 ≤ c → c + ((extA (sibs q bg i e) (ps.drop (bg.length + 1))).length : Int) ≤ 1000000000 → Ev (fun k => spec_gpLook.l0 k ps bg len c f (i : Int)) (acc (cvr len) c f (extA (sibs q bg i e) (ps.drop (bg.length + 1))))
  | 0, i, c, f, h, h0, hb => by
    rw [show sibs q bg i 0 = [] from rfl, extA_nil, acc_nil]
    refine Ev.mk' 0 fun k hk => ?_
    simp only [spec_gpLook.l0]
    rw [if_pos hlt, ← hq, if_neg (by omega)]
  | e + 1, i, c, f, h, h0, hb => by
    have e1 : sibs q bg i (e + 1) = [bg ++ [(⟨q, (i : Int)⟩ : SRule)]] ++ sibs q bg (i + 1) e := rfl
    rw [e1, extA_app] at hb ⊢
    rw [List.length_append] at hb
    have hfl := List.length_filter_le (cvr len) (extA [bg ++ [(⟨q, (i : Int)⟩ : SRule)]] (ps.drop (bg.length + 1)))
    obtain ⟨K1, k1⟩ := hf i c f (by omega) h0 (by omega)
    obtain ⟨K2, k2⟩ := gpLook_l0 ps len bg q hq hlt h5 hq0 hq1 hbg hf e (i + 1) (acc (cvr len) c f (extA [bg ++ [(⟨q, (i : Int)⟩ : SRule)]] (ps.drop (bg.length + 1)))).1 (acc (cvr len) c f (extA [bg ++ [(⟨q, (i : Int)⟩ : SRule)]] (ps.drop (bg.length + 1)))).2 (by omega) (by unfold acc; dsimp only; omega) (by unfold acc; dsimp only; omega)
    dsimp only at k1 k2
    rw [← acc_app (cvr len) c h0]
    refine Ev.mk' (K1 + K2) fun k hk => ?_
    simp only [spec_gpLook.l0]
    rw [if_pos hlt, ← hq, if_pos (by omega), if_pos (by omega), k1 k (by omega), obind, show wrap64 ((i : Int) + 1) = ((i + 1 : Nat) : Int) from wrap_id (by omega) (by omega), k2 k (by omega)]
theorem gpLook_f {ps : List Int} (hp : primeList ps = true) (len : Int) (l0 : 0 ≤ len) (l1 : len ≤ 40) : ∀ (d : Nat) (bg : List SRule), bg.length + d = ps.length → bg.all okRule = true → ∀ (c : Int) (f : List SRule), 0 ≤ c → c + ((extA [bg] (ps.drop bg.length)).length : Int) ≤ 1000000000 → Ev (fun k => spec_gpLook.f k ps bg len c f) (acc (cvr len) c f (extA [bg] (ps.drop bg.length)))
  | 0, bg, h, hbg, c, f, h0, hb => by
    have h5 := (prime_rd hp).1
    rw [List.drop_of_length_le (by omega)] at hb ⊢
    obtain ⟨K, hk⟩ := gpCovers_ev bg (by omega) hbg len l0 l1
    dsimp only at hk
    have ha : acc (cvr len) c f (extA [bg] []) = if cvr len bg = true then (c + 1, if c = 0 then bg else f) else (c, f) := by
      show acc (cvr len) c f [bg] = _
      unfold acc
      by_cases c2 : cvr len bg = true
      · rw [if_pos c2, List.filter_cons, if_pos c2, List.filter_nil]; rfl
      · rw [if_neg c2, List.filter_cons, if_neg c2, List.filter_nil]; simp
    rw [ha]
    have hb : c + 1 ≤ 1000000000 := hb
    refine Ev.mk' K fun k hk' => ?_
    simp only [spec_gpLook.f, hk k hk', obind]
    rw [if_pos (by omega)]
    by_cases c2 : cvr len bg = true
    · rw [if_pos (show ((leftsTo bg 1 len).length == 0) = true from c2), if_pos (by omega), if_pos c2, wrap_id (by omega) (by omega)]
    · rw [if_neg (show ¬ ((leftsTo bg 1 len).length == 0) = true from c2), if_neg c2]
  | d + 1, bg, h, hbg, c, f, h0, hb => by
    have h5 := prime_rd hp
    have hlt : bg.length < ps.length := by omega
    have hq := h5.2 (rd ps bg.length) (by simp [rd, List.getD, hlt])
    have e1 : ps.drop bg.length = rd ps bg.length :: ps.drop (bg.length + 1) := rd_dropP ps bg.length hlt
    have e2 : extA [bg] (ps.drop bg.length) = extA (sibs (rd ps bg.length) bg 0 (rd ps bg.length).toNat) (ps.drop (bg.length + 1)) := by
      rw [e1, ← extL_sibs]; rfl
    rw [e2] at hb ⊢
    have hw : ∀ i : Nat, (bg ++ [(⟨rd ps bg.length, (i : Int)⟩ : SRule)]).length = bg.length + 1 := fun i => by simp
    obtain ⟨K, hk⟩ := gpLook_l0 ps len bg (rd ps bg.length) rfl hlt (by omega) hq.1 hq.2 hbg (fun i c f hi g0 g1 => by
      have hr : okRule (⟨rd ps bg.length, (i : Int)⟩ : SRule) = true := (okRule_iff _).2 ⟨hq.1, by show rd ps bg.length ≤ 60; omega, by show 0 ≤ (i : Int); omega, by show (i : Int) < rd ps bg.length; omega⟩
      have := gpLook_f hp len l0 l1 d (bg ++ [(⟨rd ps bg.length, (i : Int)⟩ : SRule)]) (by rw [hw]; omega) (by simp [hbg, hr]) c f g0 (by rw [hw]; exact g1)
      rwa [hw] at this) (rd ps bg.length).toNat 0 c f (by omega) h0 hb
    refine Ev.mk' K fun k hk' => ?_
    simp only [spec_gpLook.f]
    rw [if_neg (by omega)]
    exact hk k hk'
theorem covL_le {ps : List Int} (h : primeList ps = true) : (covL ps).length ≤ 371293 := by
  have := covL_small (prime_okC h) ps.length (Nat.le_refl _)
  rwa [List.take_length] at this
theorem gpAll_ev {ps : List Int} (h : primeList ps = true) (len : Int) (l0 : 0 ≤ len) (l1 : len ≤ 40) : Ev (fun k => spec_gpAll.f k ps len) (((coverL ps len).length : Int), (coverL ps len).headD []) := by
  have hl := covL_le h
  have h1 := gpLook_f h len l0 l1 ps.length [] (by simp) rfl 0 [] (by omega) (by show 0 + ((covL ps).length : Int) ≤ 1000000000; omega)
  have e : acc (cvr len) 0 [] (extA [[]] (ps.drop ([] : List SRule).length)) = (((coverL ps len).length : Int), (coverL ps len).headD []) := by
    show acc (cvr len) 0 [] (covL ps) = _
    unfold acc coverL
    rw [if_pos rfl, Int.zero_add]
  rw [e] at h1
  exact h1
end Go.Proofs.Ytdcijdeiaefjpaa.P
namespace Go.Proofs.Ytdcijdeiaefjpaa.P
open Go.RowKit Go.Proofs.YtdcijdeiaefjpaaW.PrintWords Go.Proofs.YtdcijdeiaefjpaaW.PrintLast
set_option linter.unusedVariables false
set_option linter.unusedSimpArgs false
def six (p : Int) : Prop := p = 2 ∨ p = 3 ∨ p = 5 ∨ p = 7 ∨ p = 11 ∨ p = 13
def eOne (p : Int) : Int := if p = 2 then 15015 else if p = 3 then 20020 else if p = 5 then 6006 else if p = 7 then 25740 else if p = 11 then 16380 else 6930
theorem eOne_self {p : Int} (h : six p) : eOne p % p = 1 := by
  rcases h with rfl | rfl | rfl | rfl | rfl | rfl <;> decide
theorem eOne_other {p q : Int} (h : six p) (h2 : six q) (hn : q ≠ p) : eOne q % p = 0 := by
  rcases h with rfl | rfl | rfl | rfl | rfl | rfl <;> rcases h2 with rfl | rfl | rfl | rfl | rfl | rfl <;> first | decide | exact absurd rfl hn
def meet : List SRule → Int
  | [] => 0
  | r :: l => r.f1 * eOne r.f0 + meet l
theorem mul_mod_zero {a b p : Int} (h : b % p = 0) : (a * b) % p = 0 := by
  rw [Int.mul_emod, h]; simp
theorem meet_other {p : Int} (hp : six p) : ∀ l : List SRule, (∀ r ∈ l, six r.f0 ∧ r.f0 ≠ p) → meet l % p = 0
  | [], _ => by simp [meet]
  | r :: l, h => by
    have h1 := h r List.mem_cons_self
    have ih := meet_other hp l (fun x hx => h x (List.mem_cons_of_mem _ hx))
    simp only [meet]
    rw [Int.add_emod, mul_mod_zero (eOne_other hp h1.1 h1.2), ih]; simp
theorem meet_at : ∀ l : List SRule, (l.map (·.f0)).Nodup → (∀ r ∈ l, six r.f0 ∧ 0 ≤ r.f1 ∧ r.f1 < r.f0) → ∀ r ∈ l, meet l % r.f0 = r.f1
  | [], _, _, r, hr => by simp at hr
  | x :: l, hn, h, r, hr => by
    simp only [List.map_cons, List.nodup_cons] at hn
    have hx := h x List.mem_cons_self
    simp only [meet]
    rcases List.mem_cons.1 hr with rfl | hr
    · have h0 : meet l % r.f0 = 0 := meet_other hx.1 l (fun y hy => ⟨(h y (List.mem_cons_of_mem _ hy)).1, fun e => hn.1 (by rw [← e]; exact List.mem_map_of_mem hy)⟩)
      rw [Int.add_emod, h0, Int.mul_emod, eOne_self hx.1]
      simp only [Int.mul_one, Int.add_zero, Int.emod_emod]
      exact Int.emod_eq_of_lt hx.2.1 hx.2.2
    · have hr2 := h r (List.mem_cons_of_mem _ hr)
      have h0 : (x.f1 * eOne x.f0) % r.f0 = 0 := mul_mod_zero (eOne_other hr2.1 hx.1 (fun e => hn.1 (by rw [e]; exact List.mem_map_of_mem hr)))
      have ih := meet_at l hn.2 (fun y hy => h y (List.mem_cons_of_mem _ hy)) r hr
      rw [Int.add_emod, h0, ih, Int.zero_add]
      exact Int.emod_eq_of_lt hr2.2.1 hr2.2.2
end Go.Proofs.Ytdcijdeiaefjpaa.P
namespace Go.Proofs.Ytdcijdeiaefjpaa.P
open Go.RowKit Go.Proofs.YtdcijdeiaefjpaaW.PrintWords Go.Proofs.YtdcijdeiaefjpaaW.PrintLast
set_option linter.unusedVariables false
set_option linter.unusedSimpArgs false
theorem lefts_nil (l : List SRule) : ∀ (m : Nat) (i : Int), (lefts l i m).length = 0 ↔ ∀ j : Nat, j < m → left l (i + j) = false
  | 0, i => by simp [lefts]
  | m + 1, i => by
    simp only [lefts, List.length_append]
    have ih := lefts_nil l m (i + 1)
    constructor
    · intro h j hj
      cases hc : left l i with
      | true => rw [hc] at h; simp at h
      | false =>
        cases j with
        | zero => simpa using hc
        | succ j =>
          have h2 : (lefts l (i + 1) m).length = 0 := by omega
          have := (ih.1 h2) j (by omega)
          rwa [show i + 1 + (j : Int) = i + ((j + 1 : Nat) : Int) by omega] at this
    · intro h
      have h0 : left l i = false := by simpa using h 0 (by omega)
      have h2 : (lefts l (i + 1) m).length = 0 := ih.2 (fun j hj => by
        have := h (j + 1) (by omega)
        rwa [show i + ((j + 1 : Nat) : Int) = i + 1 + (j : Int) by omega] at this)
      rw [h0, h2]; simp
theorem left_false (l : List SRule) (n : Int) : left l n = false ↔ ∃ r ∈ l, n % r.f0 = r.f1 := by
  unfold left
  rw [Bool.not_eq_false', List.any_eq_true]
  constructor
  · rintro ⟨r, hr, h⟩; exact ⟨r, hr, by have h2 : (n % r.f0 == r.f1) = true := h; simpa using h2⟩
  · rintro ⟨r, hr, h⟩; exact ⟨r, hr, by show (n % r.f0 == r.f1) = true; simpa using h⟩
theorem cvr_iff (n : Nat) (r : List SRule) : cvr (n : Int) r = true ↔ ∀ j : Nat, 1 ≤ j → j ≤ n → ∃ x ∈ r, (j : Int) % x.f0 = x.f1 := by
  unfold cvr leftsTo
  rw [beq_iff_eq, show ((n : Int) + 1 - 1).toNat = n by omega, lefts_nil]
  constructor
  · intro h j h1 h2
    have := h (j - 1) (by omega)
    rw [left_false, show (1 : Int) + ((j - 1 : Nat) : Int) = (j : Int) by omega] at this
    exact this
  · intro h j hj
    rw [left_false, show (1 : Int) + (j : Int) = ((j + 1 : Nat) : Int) by omega]
    exact h (j + 1) (by omega) (by omega)
theorem extA_mem : ∀ (qs : List Int) (L : List (List SRule)) (b l : List SRule), b ∈ L → l.map (·.f0) = qs → (∀ r ∈ l, 0 ≤ r.f1 ∧ r.f1 < r.f0) → b ++ l ∈ extA L qs
  | [], L, b, l, hb, hl, hr => by
    have : l = [] := by simpa using hl
    subst this
    show b ++ [] ∈ L
    rwa [List.append_nil]
  | q :: qs, L, b, l, hb, hl, hr => by
    cases l with
    | nil => simp at hl
    | cons x l =>
      simp only [List.map_cons, List.cons.injEq] at hl
      have hx := hr x List.mem_cons_self
      have hm : b ++ [x] ∈ extL L q := by
        unfold extL
        refine List.mem_flatMap.2 ⟨b, hb, List.mem_map.2 ⟨x.f1.toNat, List.mem_range.2 (by rw [← hl.1]; omega), ?_⟩⟩
        have e : ((x.f1.toNat : Nat) : Int) = x.f1 := by omega
        rw [e, ← hl.1]
      have := extA_mem qs (extL L q) (b ++ [x]) l hm hl.2 (fun r h => hr r (List.mem_cons_of_mem _ h))
      rw [List.append_assoc] at this
      exact this
theorem extA_shape : ∀ (qs : List Int) (L : List (List SRule)) (r : List SRule), r ∈ extA L qs → ∃ b ∈ L, ∃ l, r = b ++ l ∧ l.map (·.f0) = qs ∧ ∀ x ∈ l, 0 ≤ x.f1 ∧ (0 < x.f0 → x.f1 < x.f0)
  | [], L, r, h => ⟨r, h, [], by simp, rfl, by simp⟩
  | q :: qs, L, r, h => by
    obtain ⟨b, hb, l, rfl, h1, h2⟩ := extA_shape qs (extL L q) r h
    unfold extL at hb
    obtain ⟨c, hc, hb⟩ := List.mem_flatMap.1 hb
    obtain ⟨i, hi, rfl⟩ := List.mem_map.1 hb
    have hi := List.mem_range.1 hi
    refine ⟨c, hc, (⟨q, (i : Int)⟩ : SRule) :: l, by simp, by simp [h1], fun x hx => ?_⟩
    rcases List.mem_cons.1 hx with rfl | hx
    · exact ⟨by show (0 : Int) ≤ (i : Int); omega, fun _ => by show (i : Int) < q; omega⟩
    · exact h2 x hx
theorem inc_nodup : ∀ (t : List Int) (a : Int), incF a t = true → (∀ y ∈ t, a < y) ∧ t.Nodup
  | [], a, h => ⟨by simp, List.nodup_nil⟩
  | x :: t, a, h => by
    simp only [incF, Bool.and_eq_true, decide_eq_true_eq] at h
    obtain ⟨h1, h2⟩ := inc_nodup t x (by first | exact h.2 | exact h.1)
    have hax : a < x := by first | exact h.1 | exact h.2 | omega
    exact ⟨fun y hy => by rcases List.mem_cons.1 hy with rfl | hy; exact hax; have := h1 y hy; omega, List.nodup_cons.2 ⟨fun hm => by have := h1 x hm; omega, h2⟩⟩
theorem prime_parts {ps : List Int} (h : primeList ps = true) : (∀ p ∈ ps, six p) ∧ ps.Nodup := by
  unfold primeList at h
  simp only [Bool.and_eq_true] at h
  refine ⟨fun p hp => ?_, ?_⟩
  · have := List.all_eq_true.1 h.2.1 p hp
    unfold isSix at this
    simp only [Bool.or_eq_true, beq_iff_eq] at this
    exact this
  · cases ps with
    | nil => exact List.nodup_nil
    | cons a t =>
      have h2 : incF a t = true := by simpa [inc, rd] using h.2.2
      obtain ⟨h3, h4⟩ := inc_nodup t a h2
      exact List.nodup_cons.2 ⟨fun hm => by have := h3 a hm; omega, h4⟩
theorem six_pos {p : Int} (h : six p) : 2 ≤ p := by rcases h with rfl | rfl | rfl | rfl | rfl | rfl <;> decide
theorem cover_of_run {ps : List Int} (hp : primeList ps = true) (n : Nat) (a : Int) (h : ∀ j : Nat, 1 ≤ j → j ≤ n → ∃ p ∈ ps, (a + j) % p = 0) : coverL ps n ≠ [] := by
  obtain ⟨h6, hnd⟩ := prime_parts hp
  have hm : ps.map (fun p => (⟨p, (-a) % p⟩ : SRule)) ∈ covL ps := by
    have := extA_mem ps [[]] [] (ps.map (fun p => (⟨p, (-a) % p⟩ : SRule))) (by simp) (by simp [List.map_map, Function.comp_def]) (fun r hr => by
      obtain ⟨p, hp2, rfl⟩ := List.mem_map.1 hr
      have := six_pos (h6 p hp2)
      exact ⟨Int.emod_nonneg _ (by omega), Int.emod_lt_of_pos _ (by omega)⟩)
    exact this
  have hc : cvr (n : Int) (ps.map (fun p => (⟨p, (-a) % p⟩ : SRule))) = true := by
    rw [cvr_iff]
    intro j h1 h2
    obtain ⟨p, hp2, h3⟩ := h j h1 h2
    refine ⟨⟨p, (-a) % p⟩, List.mem_map_of_mem hp2, ?_⟩
    show (j : Int) % p = (-a) % p
    have e : (j : Int) = (a + j) + (-a) := by omega
    rw [e, Int.add_emod, h3]
    simp
  exact List.ne_nil_of_mem (List.mem_filter.2 ⟨hm, hc⟩)
theorem big_mod {p : Int} (h : six p) : (30030 : Int) % p = 0 := by rcases h with rfl | rfl | rfl | rfl | rfl | rfl <;> decide
theorem run_of_cover {ps : List Int} (hp : primeList ps = true) (n : Nat) (h : coverL ps n ≠ []) : ∃ a : Int, ∀ j : Nat, 1 ≤ j → j ≤ n → ∃ p ∈ ps, (a + j) % p = 0 := by
  obtain ⟨h6, hnd⟩ := prime_parts hp
  obtain ⟨r, hr⟩ := List.exists_mem_of_ne_nil _ h
  obtain ⟨hr1, hr2⟩ := List.mem_filter.1 hr
  obtain ⟨b, hb, l, rfl, h1, h2⟩ := extA_shape ps [[]] r hr1
  obtain rfl : b = [] := by simpa using hb
  rw [List.nil_append] at hr2
  have hmem : ∀ x ∈ l, x.f0 ∈ ps := fun x hx => by rw [← h1]; exact List.mem_map_of_mem hx
  refine ⟨-(meet l), fun j j1 j2 => ?_⟩
  obtain ⟨x, hx, hx2⟩ := (cvr_iff n l).1 hr2 j j1 j2
  have hm := meet_at l (by rw [h1]; exact hnd) (fun y hy => ⟨h6 _ (hmem y hy), (h2 y hy).1, (h2 y hy).2 (by have := six_pos (h6 _ (hmem y hy)); omega)⟩) x hx
  refine ⟨x.f0, hmem x hx, ?_⟩
  have e : (-(meet l) + (j : Int)) = (j : Int) - meet l := by omega
  rw [e, Int.sub_emod, hm, hx2]
  simp
end Go.Proofs.Ytdcijdeiaefjpaa.P
namespace Go.Proofs.Ytdcijdeiaefjpaa.P
open Go.RowKit Go.Proofs.YtdcijdeiaefjpaaW.PrintWords Go.Proofs.YtdcijdeiaefjpaaW.PrintLast
set_option linter.unusedVariables false
set_option linter.unusedSimpArgs false
theorem lastOf_snoc (e : Int) : ∀ (t : List Int) (x : Int), lastOf x (t ++ [e]) = e
  | [], x => rfl
  | y :: t, x => lastOf_snoc e t y
theorem gapOk_left (l : List SRule) : ∀ (m : Nat) (i : Int), ∀ y ∈ lefts l i m, left l y = true
  | 0, i, y, h => by simp [lefts] at h
  | m + 1, i, y, h => by
    simp only [lefts, List.mem_append] at h
    rcases h with h | h
    · cases hc : left l i with
      | true => rw [hc] at h; have : y = i := by simpa using h
                rw [this]; exact hc
      | false => rw [hc] at h; simp at h
    · exact gapOk_left l m (i + 1) y h
theorem per_shift {l : List SRule} {p : Nat} (hper : ∀ z, left l (z + p) = left l z) : ∀ (k : Nat) (z : Int), left l (z + k * p) = left l z
  | 0, z => by simp
  | k + 1, z => by
    have := per_shift hper k (z + p)
    rw [hper] at this
    rw [← this, Int.natCast_succ, Int.add_mul, Int.one_mul]
    congr 1; omega
theorem per_all {l : List SRule} {p : Nat} (hper : ∀ z, left l (z + p) = left l z) (q z : Int) : left l (z + q * p) = left l z := by
  by_cases h : 0 ≤ q
  · have := per_shift hper q.toNat z
    rwa [show ((q.toNat : Nat) : Int) = q by omega] at this
  · have := per_shift hper (-q).toNat (z + q * p)
    rw [show (((-q).toNat : Nat) : Int) = -q by omega, Int.neg_mul] at this
    rw [← this]; congr 1; omega
theorem run_max {l : List SRule} {p : Nat} (hp : 0 < p) (hper : ∀ z, left l (z + p) = left l z) {x : Int} {t : List Int} (hL : perL l p = x :: t) :
    (∀ g ∈ gaps x (t ++ [x + p]), 1 ≤ g ∧ ∃ a : Int, ∀ j : Int, 1 ≤ j → j < g → left l (a + j) = false) ∧
    ∀ (a : Int) (n : Nat), 1 ≤ n → (∀ j : Nat, 1 ≤ j → j ≤ n → left l (a + j) = false) → ∃ g ∈ gaps x (t ++ [x + p]), (n : Int) ≤ g - 1 := by
  have hL2 : lefts l 0 p = x :: t := by
    have h_ := hL
    unfold perL leftsTo at h_
    rwa [show ((p : Int) - 1 + 1 - 0).toNat = p by omega] at h_
  obtain ⟨h1, h2, h3, h4, h5, h6, h7, h8⟩ := lefts_shape l p 0 x t hL2
  have hall := gapOk_left l p 0
  rw [hL2] at hall
  have hg : GapOk l x (t ++ [x + p]) := gapOk_snoc l (x + p) t x h5 (by omega) (fun z z1 z2 => by
    by_cases c : z < p
    · exact h8 z z1 (by omega)
    · have := hper (z - p)
      rw [show z - (p : Int) + p = z by omega] at this
      rw [this]
      exact h4 (z - p) (by omega) (by omega))
  refine ⟨gap_in l _ x hg, fun a n hn hrun => ?_⟩
  obtain ⟨q, hq⟩ : ∃ q, q = (a + 1 - x) / (p : Int) := ⟨_, rfl⟩
  have hd := Int.emod_add_mul_ediv (a + 1 - x) p
  have hm0 := Int.emod_nonneg (a + 1 - x) (show (p : Int) ≠ 0 by omega)
  have hm1 := Int.emod_lt_of_pos (a + 1 - x) (show (0 : Int) < p by omega)
  rw [← hq] at hd
  have hs : left l (a + 1) = false := hrun 1 (Nat.le_refl _) hn
  obtain ⟨s, hsd⟩ : ∃ s, s = a + 1 - q * p := ⟨_, rfl⟩
  have hqp : (p : Int) * q = q * p := Int.mul_comm _ _
  have hs2 : left l s = false := by
    have := per_all hper q s
    rw [hsd, show a + 1 - q * (p : Int) + q * p = a + 1 by omega] at this
    rw [hsd, ← this]; exact hs
  have hsx : s ≠ x := fun e => by rw [e, h3] at hs2; exact absurd hs2 (by decide)
  obtain ⟨g, hg2, u, v, hgv, hu, hv, hlv⟩ := gap_over l (t ++ [x + p]) x s hg h3 (fun y hy => by
    rcases List.mem_append.1 hy with hy | hy
    · exact hall y (List.mem_cons_of_mem _ hy)
    · obtain rfl := List.mem_singleton.1 hy
      rw [hper]; exact h3) (by omega) (by rw [lastOf_snoc]; omega) hs2
  refine ⟨g, hg2, ?_⟩
  by_cases c : (n : Int) ≤ v - s
  · omega
  · exfalso
    have := hrun (v - s + 1).toNat (by omega) (by omega)
    rw [show (((v - s + 1).toNat : Nat) : Int) = v - s + 1 by omega, show a + (v - s + 1) = v + q * p by omega, per_all hper, hlv] at this
    exact absurd this (by decide)
theorem perN_dvdR : ∀ (l : List SRule) (p q : Nat), perN p l = some q → p ∣ q ∧ ∀ r ∈ l, r.f0.toNat ∣ q
  | [], p, q, h => by
    simp only [perN, Option.some.injEq] at h
    subst h; exact ⟨Nat.dvd_refl _, by simp⟩
  | x :: t, p, q, h => by
    simp only [perN] at h
    split at h
    · cases h
    · obtain ⟨h1, h2⟩ := perN_dvdR t _ q h
      exact ⟨Nat.dvd_trans (Nat.dvd_lcm_left _ _) h1, fun r hr => by
        rcases List.mem_cons.1 hr with rfl | hr
        · exact Nat.dvd_trans (Nat.dvd_lcm_right _ _) h1
        · exact h2 r hr⟩
theorem period_left {l : List SRule} {p : Nat} (h : period l = some p) (z : Int) : left l (z + p) = left l z := by
  have hg := (period_some h).1
  have hd : ∀ r ∈ l, r.f0.toNat ∣ p := by
    unfold period at h
    rw [if_pos hg] at h
    exact (perN_dvdR l 1 p h).2
  have hok := (good_all hg).2
  unfold left
  congr 1
  rw [Bool.eq_iff_iff, List.any_eq_true, List.any_eq_true]
  have e : ∀ r ∈ l, (z + p) % r.f0 = z % r.f0 := fun r hr => by
    have h2 := (okRule_iff r).1 (List.all_eq_true.1 hok r hr)
    obtain ⟨c, hc⟩ := hd r hr
    have e1 : (p : Int) = r.f0 * c := by
      have h3 : ((r.f0.toNat : Nat) : Int) = r.f0 := by omega
      rw [hc, Int.natCast_mul, h3]
    rw [e1, Int.add_mul_emod_self_left]
  exact ⟨fun ⟨r, hr, h1⟩ => ⟨r, hr, by have h2 : ((z + p) % r.f0 == r.f1) = true := h1; rw [e r hr] at h2; exact h2⟩, fun ⟨r, hr, h1⟩ => ⟨r, hr, by show ((z + p) % r.f0 == r.f1) = true; rw [e r hr]; exact h1⟩⟩
end Go.Proofs.Ytdcijdeiaefjpaa.P
namespace Go.Proofs.Ytdcijdeiaefjpaa.P
open Go.RowKit Go.Proofs.YtdcijdeiaefjpaaW.PrintWords Go.Proofs.YtdcijdeiaefjpaaW.PrintLast
set_option linter.unusedVariables false
set_option linter.unusedSimpArgs false
theorem rd_app_left (l : List Int) (x : Int) (i : Nat) (h : i < l.length) : rd (l ++ [x]) i = rd l i := by
  unfold rd
  simp only [Int.toNat_natCast, List.getD_eq_getElem?_getD]
  rw [List.getElem?_append_left h]
theorem rd_app_last (l : List Int) (x : Int) : rd (l ++ [x]) (l.length : Int) = x := by
  simp [rd]
theorem gpGaps_l0 (l : List SRule) (L : List Int) (q : Int) (hl : L.length ≤ 100000) (hpos : 0 < L.length) (hper : Ev (fun k => spec_siPeriod.f k l) q) (M : List Int) (hM : M = L ++ [wrap64 (rd L 0 + q)]) : ∀ (d i : Nat) (acc : List Int), i + d = L.length → acc.length ≤ i → Ev (fun k => spec_gpGaps.l0 k l L acc L L.length i) (acc ++ dif (rd M i) (M.drop (i + 1)), L, true)
  | 0, i, acc, h, ha => Ev.mk' 0 fun k _ => by
    have hlen : M.length = L.length + 1 := by rw [hM]; simp
    simp only [spec_gpGaps.l0]
    rw [if_neg (by omega), List.drop_eq_nil_of_le (by omega)]; simp [dif]
  | d + 1, i, acc, h, ha => by
    obtain ⟨K2, hK⟩ := hper
    dsimp only at hK
    have hlen : M.length = L.length + 1 := by rw [hM]; simp
    have hri : rd M (i : Int) = rd L i := by rw [hM]; exact rd_app_left _ _ i (by omega)
    obtain ⟨K, ih⟩ := gpGaps_l0 l L q hl hpos ⟨K2, hK⟩ M hM d (i + 1) (acc ++ [wrap64 (rd M ((i + 1 : Nat) : Int) - rd M i)]) (by omega) (by simp; omega)
    dsimp only at ih
    refine Ev.mk' (K + K2) fun k hk => ?_
    simp only [spec_gpGaps.l0]
    rw [if_pos (by omega), if_pos (by omega), if_pos (by omega), if_pos (by omega), hK k (by omega)]
    simp only [obind]
    rw [show wrap64 ((i : Int) + 1) = ((i + 1 : Nat) : Int) from wrap_id (by omega) (by omega)]
    rw [rd_dropG M (i + 1) (by omega), dif]
    by_cases hc : i + 1 < L.length
    · rw [if_pos (by omega), if_pos (by omega), if_pos (by omega)]
      have e : rd M ((i + 1 : Nat) : Int) = rd L ((i + 1 : Nat) : Int) := by rw [hM]; exact rd_app_left _ _ (i + 1) hc
      rw [← e, ← hri, ih k (by omega)]
      simp
    · rw [if_neg (by omega), if_pos (by omega)]
      have e : rd M ((i + 1 : Nat) : Int) = wrap64 (rd L 0 + q) := by
        rw [hM, show i + 1 = L.length by omega]; exact rd_app_last _ _
      rw [← e, ← hri, ih k (by omega)]
      simp
def gpG (l : List SRule) : List Int × List Int × Bool := ((pgaps l).2.1, (pgaps l).1, (pgaps l).2.2)
theorem gpGaps_ev (l : List SRule) : Ev (fun k => spec_gpGaps.f k l) (gpG l) := by
  obtain ⟨K1, h1⟩ := gpLeft_ev l
  dsimp only at h1
  unfold gpG pgaps
  cases hp : period l with
  | none =>
    refine ⟨K1, fun k hk => ?_⟩
    simp only [spec_gpGaps.f, h1 k hk, gpL, hp, obind]
    simp
  | some p =>
    by_cases he : perL l p = []
    · refine ⟨K1, fun k hk => ?_⟩
      simp only [spec_gpGaps.f, h1 k hk, gpL, hp, obind, he]
      simp
    · have hpos : 0 < (perL l p).length := List.length_pos_iff.mpr he
      obtain ⟨hg, hp0, hp1⟩ := period_some hp
      have hper := siPeriod_ev l hg
      rw [hp] at hper
      have hl := perL_length l p
      obtain ⟨K2, h2⟩ := gpGaps_l0 l (perL l p) p (by omega) hpos hper (perL1 l p) rfl (perL l p).length 0 [] (by omega) (by simp)
      have h2 : ∀ k, K2 ≤ k → spec_gpGaps.l0 k l (perL l p) [] (perL l p) (perL l p).length 0 = _ := h2
      refine ⟨K1 + K2, fun k hk => ?_⟩
      simp (disch := omega) only [spec_gpGaps.f, h1, gpL, hp, obind, h2]
      simp [he, hpos, gapsL]
end Go.Proofs.Ytdcijdeiaefjpaa.P
namespace Go.Proofs.Ytdcijdeiaefjpaa.P
open Go.RowKit Go.Proofs.YtdcijdeiaefjpaaW.PrintWords Go.Proofs.YtdcijdeiaefjpaaW.PrintLast
set_option linter.unusedVariables false
set_option linter.unusedSimpArgs false
def Inc : Int → List Int → Prop
  | _, [] => True
  | a, b :: t => a < b ∧ Inc b t
theorem lefts_ge (l : List SRule) : ∀ (m : Nat) (i x : Int), x ∈ lefts l i m → i ≤ x ∧ x < i + m
  | 0, i, x, h => by simp [lefts] at h
  | m + 1, i, x, h => by
    simp only [lefts, List.mem_append] at h
    rcases h with h | h
    · split at h
      · simp at h; omega
      · simp at h
    · have := lefts_ge l m (i + 1) x h; omega
theorem lefts_inc (l : List SRule) : ∀ (m : Nat) (i a : Int), a < i → Inc a (lefts l i m)
  | 0, i, a, h => trivial
  | m + 1, i, a, h => by
    simp only [lefts]
    split
    · exact ⟨h, lefts_inc l m (i + 1) i (by omega)⟩
    · exact lefts_inc l m (i + 1) a (by omega)
theorem inc_snoc : ∀ (t : List Int) (a x : Int), Inc a t → a < x → (∀ y ∈ t, y < x) → Inc a (t ++ [x])
  | [], a, x, _, h, _ => ⟨h, trivial⟩
  | b :: t, a, x, hi, h, hy => ⟨hi.1, inc_snoc t b x hi.2 (hy b (by simp)) (fun y hy' => hy y (by simp [hy']))⟩
theorem dif_pos : ∀ (t : List Int) (a : Int), Inc a t → (∀ y ∈ a :: t, 0 ≤ y ∧ y ≤ 4611686018427387904) → ∀ g ∈ dif a t, 1 ≤ g
  | [], a, _, _, g, h => by simp [dif] at h
  | b :: t, a, hi, hb, g, h => by
    simp only [dif, List.mem_cons] at h
    have h1 := hb a (by simp)
    have h2 := hb b (by simp)
    rcases h with rfl | h
    · rw [wrap_id (by omega) (by omega)]
      have := hi.1; omega
    · exact dif_pos t b hi.2 (fun y hy => hb y (by simp only [List.mem_cons] at hy ⊢; exact Or.inr hy)) g h
theorem perL_mem {l : List SRule} {p : Nat} {x : Int} (h : x ∈ perL l p) : 0 ≤ x ∧ x < p := by
  have := lefts_ge l _ _ x h
  omega
theorem pgaps_pos (l : List SRule) : ∀ g ∈ (pgaps l).2.1, 1 ≤ g := by
  unfold pgaps
  cases hp : period l with
  | none => simp
  | some p =>
    obtain ⟨hg, hp0, hp1⟩ := period_some hp
    by_cases he : perL l p = []
    · simp [he]
    · simp only [he, if_false]
      have hmem : ∀ x ∈ perL l p, 0 ≤ x ∧ x < p := fun x hx => perL_mem hx
      have hinc : ∀ a, a < 0 → Inc a (perL l p) := fun a ha => lefts_inc l _ 0 a ha
      unfold gapsL perL1
      cases hL : perL l p with
      | nil => exact absurd hL he
      | cons y t =>
        rw [hL] at hmem hinc
        have hy := hmem y (by simp)
        have hr : rd (y :: t) 0 = y := by simp [rd]
        have hr2 : rd (y :: t ++ [wrap64 (rd (y :: t) 0 + (p : Int))]) 0 = y := by simp [rd]
        rw [hr2, hr, wrap_id (by omega) (by omega)]
        simp only [List.cons_append, List.drop_succ_cons, List.drop_zero]
        have h2 := (hinc (-1) (by omega)).2
        refine dif_pos _ y (inc_snoc t y (y + p) h2 (by omega) (fun z hz => ?_)) ?_
        · have := hmem z (by simp [hz]); omega
        · intro z hz
          simp only [List.mem_cons, List.mem_append, List.mem_singleton, List.not_mem_nil, or_false] at hz
          rcases hz with rfl | hz | rfl
          · omega
          · have := hmem z (by simp [hz]); omega
          · omega
def runs : Int → Int → List Int → Int
  | m, _, [] => m
  | m, r, g :: t => let r' := if g = 1 then r + 1 else 1; runs (mx m r') r' t
theorem most_mx (a b : Int) : spec_l1Most.f a b = some (mx a b) := by
  unfold spec_l1Most.f mx
  by_cases h : a > b
  · rw [if_pos h, if_neg (by omega)]
  · rw [if_neg h]
    by_cases h2 : a < b
    · rw [if_pos h2]
    · rw [if_neg h2]; congr 1; omega
theorem specRun_l0 (G : List Int) (h1 : 0 < G.length) (h2 : G.length ≤ 100000) : ∀ (d i : Nat) (m r : Int), i + d = 2 * G.length → 1 ≤ r → r ≤ i + 1 → Ev (fun k => spec_LongestRunLeft.l0 k G m r i) (runs m r ((G ++ G).drop i), true)
  | 0, i, m, r, h, h3, h4 => Ev.mk' 0 fun k _ => by
    simp only [spec_LongestRunLeft.l0]
    rw [wrap_id (by omega) (by omega), if_neg (by omega), List.drop_eq_nil_of_le (by simp; omega)]; rfl
  | d + 1, i, m, r, h, h3, h4 => by
    have hlt : i < (G ++ G).length := by simp; omega
    have hrd : rd G (Int.tmod (i : Int) (G.length : Int)) = rd (G ++ G) i := by
      rw [show Int.tmod (i : Int) (G.length : Int) = ((i % G.length : Nat) : Int) from rfl]
      unfold rd
      simp only [Int.toNat_natCast, List.getD_eq_getElem?_getD]
      by_cases hc : i < G.length
      · rw [Nat.mod_eq_of_lt hc, List.getElem?_append_left hc]
      · rw [List.getElem?_append_right (by omega), Nat.mod_eq_sub_mod (by omega), Nat.mod_eq_of_lt (by omega)]
    have hmod : (i % G.length : Nat) < G.length := Nat.mod_lt _ h1
    rw [rd_dropG (G ++ G) i hlt, runs]
    by_cases hc : rd (G ++ G) i = 1
    · obtain ⟨K, ih⟩ := specRun_l0 G h1 h2 d (i + 1) (mx m (r + 1)) (r + 1) (by omega) (by omega) (by omega)
      dsimp only at ih
      refine Ev.mk' K fun k hk => ?_
      simp only [spec_LongestRunLeft.l0]
      rw [wrap_id (n := 2 * (G.length : Int)) (by omega) (by omega), if_pos (by omega), if_neg (by omega), hrd]
      rw [show Int.tmod (i : Int) (G.length : Int) = ((i % G.length : Nat) : Int) from rfl, if_pos (by omega), if_pos (by omega), if_pos hc]
      rw [show wrap64 ((i : Int) + 1) = ((i + 1 : Nat) : Int) from wrap_id (by omega) (by omega), show wrap64 (r + 1) = r + 1 from wrap_id (by omega) (by omega), most_mx, obind, ih k hk]
      simp only [hc, if_true]
    · obtain ⟨K, ih⟩ := specRun_l0 G h1 h2 d (i + 1) (mx m 1) 1 (by omega) (by omega) (by omega)
      dsimp only at ih
      refine Ev.mk' K fun k hk => ?_
      simp only [spec_LongestRunLeft.l0]
      rw [wrap_id (n := 2 * (G.length : Int)) (by omega) (by omega), if_pos (by omega), if_neg (by omega), hrd]
      rw [show Int.tmod (i : Int) (G.length : Int) = ((i % G.length : Nat) : Int) from rfl, if_pos (by omega), if_pos (by omega), if_neg hc]
      rw [show wrap64 ((i : Int) + 1) = ((i + 1 : Nat) : Int) from wrap_id (by omega) (by omega), most_mx, obind, ih k hk]
      simp only [hc, if_false]
def runs2 : Int → Int → List Int → Int × Int
  | m, r, [] => (m, r)
  | m, r, g :: t => let r' := if g = 1 then r + 1 else 1; runs2 (mx m r') r' t
theorem runs_app : ∀ (s t : List Int) (m r : Int), runs m r (s ++ t) = runs (runs2 m r s).1 (runs2 m r s).2 t
  | [], t, m, r => rfl
  | g :: s, t, m, r => by simp only [List.cons_append, runs, runs2]; exact runs_app s t _ _
theorem runs_fst (m r : Int) : ∀ (s : List Int) (m r : Int), runs m r s = (runs2 m r s).1
  | [], m, r => rfl
  | g :: s, m, r => by simp only [runs, runs2]; exact runs_fst m r s _ _
theorem runs2_bound : ∀ (s : List Int) (m r : Int), 1 ≤ r → 1 ≤ (runs2 m r s).2 ∧ (runs2 m r s).2 ≤ r + s.length
  | [], m, r, h => by simp [runs2]; omega
  | g :: s, m, r, h => by
    simp only [runs2]
    split
    · have := runs2_bound s (mx m (r + 1)) (r + 1) (by omega)
      simp only [List.length_cons]; omega
    · have := runs2_bound s (mx m 1) 1 (by omega)
      simp only [List.length_cons]; omega
theorem implRun_l1 (G : List Int) (hp : ∀ g ∈ G, 1 ≤ g) (h2 : G.length ≤ 100000) (q B : Int) (hB : B ≤ 1000000) (R : Int → Int → Int × Bool) (hq : ∀ m r, 1 ≤ r → r ≤ B → Ev (fun k => impl_LongestRunLeft.l0 k G m r (wrap64 (q + 1))) (R m r)) :
    ∀ (d i : Nat) (m r : Int), i + d = G.length → 1 ≤ r → r + d ≤ B → Ev (fun k => impl_LongestRunLeft.l1 k G m r q G G.length i) (R (runs2 m r (G.drop i)).1 (runs2 m r (G.drop i)).2)
  | 0, i, m, r, h, h3, h4 => by
    obtain ⟨K, hK⟩ := hq m r h3 (by omega)
    dsimp only at hK
    refine Ev.mk' K fun k hk => ?_
    simp only [impl_LongestRunLeft.l1]
    rw [if_neg (by omega), List.drop_eq_nil_of_le (by omega), hK k hk]; rfl
  | d + 1, i, m, r, h, h3, h4 => by
    have hg : 1 ≤ rd G i := by
      have hd := rd_dropG G i (by omega)
      exact hp _ (List.mem_of_mem_drop (i := i) (by rw [hd]; simp))
    rw [rd_dropG G i (by omega), runs2]
    by_cases hc : rd G i = 1
    · obtain ⟨K, ih⟩ := implRun_l1 G hp h2 q B hB R hq d (i + 1) (mx m (r + 1)) (r + 1) (by omega) (by omega) (by omega)
      dsimp only at ih
      refine Ev.mk' K fun k hk => ?_
      simp only [impl_LongestRunLeft.l1]
      rw [if_pos (by omega), if_pos (by omega), if_pos (by omega), if_neg (by omega)]
      rw [show wrap64 ((i : Int) + 1) = ((i + 1 : Nat) : Int) from wrap_id (by omega) (by omega), show wrap64 (r + 1) = r + 1 from wrap_id (by omega) (by omega), ih k hk]
      simp only [hc, if_true]
    · obtain ⟨K, ih⟩ := implRun_l1 G hp h2 q B hB R hq d (i + 1) (mx m 1) 1 (by omega) (by omega) (by omega)
      dsimp only at ih
      refine Ev.mk' K fun k hk => ?_
      simp only [impl_LongestRunLeft.l1]
      rw [if_pos (by omega), if_pos (by omega), if_pos (by omega), if_pos (by omega)]
      rw [show wrap64 ((i : Int) + 1) = ((i + 1 : Nat) : Int) from wrap_id (by omega) (by omega), ih k hk]
      simp only [hc, if_false]
theorem implRun_ev (G : List Int) (hp : ∀ g ∈ G, 1 ≤ g) (h2 : G.length ≤ 100000) : Ev (fun k => impl_LongestRunLeft.l0 k G 1 1 0) (runs 1 1 (G ++ G), true) := by
  have e2 : ∀ m r, 1 ≤ r → r ≤ 1000000 → Ev (fun k => impl_LongestRunLeft.l0 k G m r (wrap64 (1 + 1))) (m, true) := fun m r _ _ => Ev.mk' 0 fun k _ => by
    simp only [impl_LongestRunLeft.l0]
    rw [if_neg (by rw [wrap_id (by omega) (by omega)]; omega)]
  have e1 : ∀ m r, 1 ≤ r → r ≤ 800000 → Ev (fun k => impl_LongestRunLeft.l0 k G m r 1) ((runs2 m r G).1, true) := fun m r h h' => by
    obtain ⟨K, hK⟩ := implRun_l1 G hp h2 1 1000000 (by omega) (fun m _ => (m, true)) e2 G.length 0 m r (by omega) h (by omega)
    have hK : ∀ k, K ≤ k → impl_LongestRunLeft.l1 k G m r 1 G G.length 0 = _ := hK
    refine Ev.mk' K fun k hk => ?_
    simp only [impl_LongestRunLeft.l0]
    rw [if_pos (by omega), hK k hk]; rfl
  obtain ⟨K, hK⟩ := implRun_l1 G hp h2 0 800000 (by omega) (fun m r => ((runs2 m r G).1, true)) (fun m r h h' => by
    rw [show wrap64 (0 + 1) = 1 from wrap_id (by omega) (by omega)]; exact e1 m r h h') G.length 0 1 1 (by omega) (by omega) (by omega)
  have hK : ∀ k, K ≤ k → impl_LongestRunLeft.l1 k G 1 1 0 G G.length 0 = _ := hK
  refine Ev.mk' K fun k hk => ?_
  simp only [impl_LongestRunLeft.l0]
  rw [if_pos (by omega), hK k hk, runs_app, runs_fst 0 0, List.drop_zero]
def vRunLeft (l : List SRule) : Int × Bool := if (pgaps l).2.2 = true ∧ l.length ≠ 0 then (runs 1 1 ((pgaps l).2.1 ++ (pgaps l).2.1), true) else (0, false)
theorem pgaps_len2 (l : List SRule) : (pgaps l).2.1.length ≤ 100000 ∧ ((pgaps l).2.2 = true → 0 < (pgaps l).2.1.length) := by
  unfold pgaps
  cases hp : period l with
  | none => simp
  | some p =>
    obtain ⟨hg, hp0, hp1⟩ := period_some hp
    have hl := perL_length l p
    by_cases he : perL l p = []
    · simp [he]
    · have : 0 < (perL l p).length := List.length_pos_iff.mpr he
      simp only [he, if_false, gapsL_length]
      simp [perL1]; omega
theorem LongestRunLeft_main (l : List SRule) : Ev (fun k => spec_LongestRunLeft.f k l) (vRunLeft l) ∧ Ev (fun k => impl_LongestRunLeft.f k l) (vRunLeft l) := by
  obtain ⟨K1, h1⟩ := gpGaps_ev l
  obtain ⟨K2, h2⟩ := periodGaps_ev l
  dsimp only at h1 h2
  have hb := pgaps_len2 l
  unfold vRunLeft
  have e : ((l.length : Int) == 0) = decide (l.length = 0) := by rw [Bool.eq_iff_iff]; simp
  by_cases hg : (pgaps l).2.2 = true
  · by_cases hl : l.length = 0
    · rw [if_neg (by simp [hl])]
      constructor
      · refine Ev.mk' K1 fun k hk => ?_
        simp (disch := omega) only [spec_LongestRunLeft.f, h1, obind, gpG, hg, if_true, e, hl, decide_true]
        simp [spec_LongestRunLeft.j0]
      · refine Ev.mk' K2 fun k hk => ?_
        simp (disch := omega) only [impl_LongestRunLeft.f, h2, obind, hg, if_true, e, hl, decide_true]
        simp [impl_LongestRunLeft.j0]
    · rw [if_pos ⟨hg, hl⟩]
      obtain ⟨K3, h3⟩ := specRun_l0 (pgaps l).2.1 (hb.2 hg) hb.1 (2 * (pgaps l).2.1.length) 0 1 1 (by omega) (by omega) (by omega)
      have h3 : ∀ k, K3 ≤ k → spec_LongestRunLeft.l0 k (pgaps l).2.1 1 1 0 = _ := h3
      obtain ⟨K4, h4⟩ := implRun_ev (pgaps l).2.1 (pgaps_pos l) hb.1
      dsimp only at h4
      rw [List.drop_zero] at h3
      constructor
      · refine Ev.mk' (K1 + K3) fun k hk => ?_
        simp (disch := omega) only [spec_LongestRunLeft.f, h1, obind, gpG, hg, if_true, e, hl, decide_false]
        simp (disch := omega) only [spec_LongestRunLeft.j0, h3, Bool.false_eq_true, if_false]
      · refine Ev.mk' (K2 + K4) fun k hk => ?_
        simp (disch := omega) only [impl_LongestRunLeft.f, h2, obind, hg, if_true, e, hl, decide_false]
        simp (disch := omega) only [impl_LongestRunLeft.j0, h4, Bool.false_eq_true, if_false]
  · rw [if_neg (by simp [hg])]
    constructor
    · refine Ev.mk' K1 fun k hk => ?_
      simp (disch := omega) only [spec_LongestRunLeft.f, h1, obind, gpG, hg]
      simp [spec_LongestRunLeft.j0]
    · refine Ev.mk' K2 fun k hk => ?_
      simp (disch := omega) only [impl_LongestRunLeft.f, h2, obind, hg]
      simp [impl_LongestRunLeft.j0]
end Go.Proofs.Ytdcijdeiaefjpaa.P
namespace Go.Proofs.Ytdcijdeiaefjpaa.P
open Go.RowKit Go.Proofs.YtdcijdeiaefjpaaW.PrintWords Go.Proofs.YtdcijdeiaefjpaaW.PrintLast
set_option linter.unusedVariables false
set_option linter.unusedSimpArgs false
theorem dif_le : ∀ (t : List Int) (a : Int), ∀ g ∈ dif a t, g ≤ 9223372036854775807
  | [], a, g, h => by simp [dif] at h
  | b :: t, a, g, h => by
    simp only [dif, List.mem_cons] at h
    rcases h with rfl | h
    · unfold wrap64; omega
    · exact dif_le t b g h
theorem pgaps_le (l : List SRule) : ∀ g ∈ (pgaps l).2.1, g ≤ 9223372036854775807 := by
  unfold pgaps
  cases hp : period l with
  | none => simp
  | some p =>
    by_cases he : perL l p = []
    · simp [he]
    · simp only [he, if_false]
      exact dif_le _ _
theorem maxFrom_ge : ∀ (t : List Int) (m : Int), m ≤ maxFrom m t
  | [], m => Int.le_refl _
  | x :: t, m => by
    have := maxFrom_ge t (mx m x)
    simp only [maxFrom]
    have : m ≤ mx m x := by unfold mx; split <;> omega
    omega
theorem maxFrom_mem : ∀ (t : List Int) (m : Int), maxFrom m t ∈ m :: t
  | [], m => by simp [maxFrom]
  | x :: t, m => by
    have := maxFrom_mem t (mx m x)
    simp only [maxFrom]
    simp only [List.mem_cons] at this ⊢
    rcases this with h | h
    · rw [h]; unfold mx; split <;> simp
    · exact Or.inr (Or.inr h)
def runOut : Int → List Int → Int
  | m, [] => m
  | m, g :: t => runOut (mx m (wrap64 (g - 1))) t
theorem runOut_max : ∀ (t : List Int) (m : Int), (∀ g ∈ t, 1 ≤ g ∧ g ≤ 9223372036854775807) → runOut (m - 1) t = maxFrom m t - 1
  | [], m, _ => rfl
  | g :: t, m, h => by
    have hg := h g (by simp)
    simp only [runOut, maxFrom]
    rw [wrap_id (by omega) (by omega), show mx (m - 1) (g - 1) = mx m g - 1 by unfold mx; split <;> split <;> omega]
    exact runOut_max t (mx m g) (fun x hx => h x (by simp [hx]))
theorem specRunOut_l0 (G : List Int) (hG : G.length ≤ 100000) : ∀ (d i : Nat) (m : Int), i + d = G.length → Ev (fun k => spec_LongestRunOut.l0 k m G G.length i) (runOut m (G.drop i), true)
  | 0, i, m, h => Ev.mk' 0 fun k _ => by
    simp only [spec_LongestRunOut.l0]
    rw [if_neg (by omega), List.drop_eq_nil_of_le (by omega)]; rfl
  | d + 1, i, m, h => by
    obtain ⟨K, ih⟩ := specRunOut_l0 G hG d (i + 1) (mx m (wrap64 (rd G i - 1))) (by omega)
    dsimp only at ih
    refine Ev.mk' K fun k hk => ?_
    simp only [spec_LongestRunOut.l0]
    rw [if_pos (by omega), if_pos (by omega), if_pos (by omega), most_mx, obind]
    rw [show wrap64 ((i : Int) + 1) = ((i + 1 : Nat) : Int) from wrap_id (by omega) (by omega), ih k hk, rd_dropG G i (by omega)]; rfl
def vRunOut (l : List SRule) : Int × Bool := if (pgaps l).2.2 = true then (runOut 0 (pgaps l).2.1, true) else (0, false)
theorem LongestRunOut_main (l : List SRule) : Ev (fun k => spec_LongestRunOut.f k l) (vRunOut l) ∧ Ev (fun k => impl_LongestRunOut.f k l) (vRunOut l) := by
  obtain ⟨K1, h1⟩ := gpGaps_ev l
  obtain ⟨K2, h2⟩ := periodGaps_ev l
  dsimp only at h1 h2
  have hb := pgaps_len2 l
  unfold vRunOut
  by_cases hg : (pgaps l).2.2 = true
  · rw [if_pos hg]
    constructor
    · obtain ⟨K3, h3⟩ := specRunOut_l0 (pgaps l).2.1 hb.1 (pgaps l).2.1.length 0 0 (by omega)
      have h3 : ∀ k, K3 ≤ k → spec_LongestRunOut.l0 k 0 (pgaps l).2.1 (pgaps l).2.1.length 0 = _ := h3
      rw [List.drop_zero] at h3
      refine ⟨K1 + K3, fun k hk => ?_⟩
      simp (disch := omega) only [spec_LongestRunOut.f, h1, obind, gpG, hg, if_true, h3]
    · refine ⟨K2, fun k hk => ?_⟩
      simp (disch := omega) only [impl_LongestRunOut.f, h2, obind, hg, if_true]
      have hp := pgaps_pos l
      have hle := pgaps_le l
      have hpos := hb.2 hg
      cases hG : (pgaps l).2.1 with
      | nil => rw [hG] at hpos; simp at hpos
      | cons x t =>
        rw [hG] at hp hle
        have hm := maxFrom_mem t x
        have hx := hp x (by simp)
        have hx2 := hle x (by simp)
        simp only [slices_Max_int_int.f, obind]
        rw [wrap_id (by have := hp _ hm; omega) (by have := hle _ hm; omega)]
        simp only [runOut]
        rw [wrap_id (by omega) (by omega), show mx 0 (x - 1) = x - 1 by unfold mx; split <;> omega, runOut_max t x (fun g hg => ⟨hp g (by simp [hg]), hle g (by simp [hg])⟩)]
  · rw [if_neg hg]
    constructor
    · refine ⟨K1, fun k hk => ?_⟩
      simp (disch := omega) only [spec_LongestRunOut.f, h1, obind, gpG, hg]
      simp
    · refine ⟨K2, fun k hk => ?_⟩
      simp (disch := omega) only [impl_LongestRunOut.f, h2, obind, hg]
      simp
end Go.Proofs.Ytdcijdeiaefjpaa.P
namespace Go.Proofs.Ytdcijdeiaefjpaa.P
open Go.RowKit Go.Proofs.YtdcijdeiaefjpaaW.PrintWords Go.Proofs.YtdcijdeiaefjpaaW.PrintLast
set_option linter.unusedVariables false
set_option linter.unusedSimpArgs false
def Best (G : List Int) (n b : Nat) : Prop := b < n ∧ (∀ j, j < n → rd G j ≤ rd G b) ∧ ∀ j, j < b → rd G j < rd G b
theorem specLongest_l0 (G L : List Int) (hG : G.length ≤ 100000) (hL : L.length = G.length) : ∀ (d i b : Nat), i + d = G.length → (0 < i → Best G i b) → (i = 0 → b = 0) → 0 < G.length →
    ∃ b', Best G G.length b' ∧ Ev (fun k => spec_LongestGap.l0 k G L b G G.length i) (rd G b', rd L b', true)
  | 0, i, b, h, hb, _, hpos => by
    have hi : i = G.length := by omega
    subst hi
    have hb := hb hpos
    refine ⟨b, hb, Ev.mk' 0 fun k _ => ?_⟩
    have := hb.1
    simp only [spec_LongestGap.l0]
    rw [if_neg (by omega), if_pos (by omega), if_pos (by omega), if_pos (by omega)]
  | d + 1, i, b, h, hb, hz, hpos => by
    have hbl : b < G.length := by
      by_cases hi : i = 0
      · rw [hz hi]; omega
      · have := (hb (by omega)).1; omega
    by_cases hc : rd G i > rd G b
    · have hn : Best G (i + 1) i := by
        refine ⟨by omega, fun j hj => ?_, fun j hj => ?_⟩
        · by_cases e : j = i
          · rw [e]; exact Int.le_refl _
          · have := (hb (by omega)).2.1 j (by omega); omega
        · have := (hb (by omega)).2.1 j (by omega); omega
      obtain ⟨b', hb', K, ih⟩ := specLongest_l0 G L hG hL d (i + 1) i (by omega) (fun _ => hn) (by omega) hpos
      dsimp only at ih
      refine ⟨b', hb', Ev.mk' K fun k hk => ?_⟩
      simp only [spec_LongestGap.l0]
      rw [if_pos (by omega), if_pos (by omega), if_pos (by omega), if_pos (by omega), if_pos (by omega), if_pos hc]
      rw [show wrap64 ((i : Int) + 1) = ((i + 1 : Nat) : Int) from wrap_id (by omega) (by omega), ih k hk]
    · have hn : Best G (i + 1) b := by
        by_cases hi : i = 0
        · have := hz hi
          subst hi; subst this
          exact ⟨by omega, fun j hj => by rw [show j = 0 by omega]; exact Int.le_refl _, fun j hj => by omega⟩
        · have h0 := hb (by omega)
          refine ⟨by have := h0.1; omega, fun j hj => ?_, h0.2.2⟩
          by_cases e : j = i
          · rw [e]; omega
          · exact h0.2.1 j (by omega)
      obtain ⟨b', hb', K, ih⟩ := specLongest_l0 G L hG hL d (i + 1) b (by omega) (fun _ => hn) (by omega) hpos
      dsimp only at ih
      refine ⟨b', hb', Ev.mk' K fun k hk => ?_⟩
      simp only [spec_LongestGap.l0]
      rw [if_pos (by omega), if_pos (by omega), if_pos (by omega), if_pos (by omega), if_pos (by omega), if_neg hc]
      rw [show wrap64 ((i : Int) + 1) = ((i + 1 : Nat) : Int) from wrap_id (by omega) (by omega), ih k hk]
theorem maxFrom_all : ∀ (t : List Int) (m : Int), ∀ y ∈ m :: t, y ≤ maxFrom m t
  | [], m, y, h => by simp at h; simp [maxFrom, h]
  | x :: t, m, y, h => by
    simp only [maxFrom]
    have h1 := maxFrom_all t (mx m x)
    simp only [List.mem_cons] at h
    have h0 := h1 (mx m x) (by simp)
    have a1 : m ≤ mx m x := by unfold mx; split <;> omega
    have a2 : x ≤ mx m x := by unfold mx; split <;> omega
    rcases h with rfl | rfl | h
    · omega
    · omega
    · exact h1 y (by simp [h])
theorem rd_memI (l : List Int) (k : Nat) (h : k < l.length) : rd l k ∈ l := by
  simp [rd, List.getD, h]
theorem mem_rd (l : List Int) (y : Int) (h : y ∈ l) : ∃ k, k < l.length ∧ rd l k = y := by
  obtain ⟨k, hk, e⟩ := List.getElem_of_mem h
  exact ⟨k, hk, by simp [rd, List.getD, hk, e]⟩
theorem max_best (x : Int) (t : List Int) (b : Nat) (h : Best (x :: t) (x :: t).length b) : maxFrom x t = rd (x :: t) b := by
  have h1 := maxFrom_all t x _ (rd_memI (x :: t) b h.1)
  obtain ⟨k, hk, e⟩ := mem_rd _ _ (maxFrom_mem t x)
  have h2 := h.2.1 k hk
  omega
theorem index_l0 (G : List Int) (v : Int) (hG : G.length ≤ 100000) (b : Nat) (hb : b < G.length) (hv : rd G b = v) (hlt : ∀ j, j < b → rd G j ≠ v) : ∀ (d i : Nat), i + d = b → Ev (fun k => slices_Index_int_int.l0 k G v G.length i) b
  | 0, i, h => Ev.mk' 0 fun k _ => by
    have : i = b := by omega
    subst this
    simp only [slices_Index_int_int.l0]
    rw [if_pos (by omega), if_pos (by omega), if_pos (by omega), if_pos hv.symm]
  | d + 1, i, h => by
    obtain ⟨K, ih⟩ := index_l0 G v hG b hb hv hlt d (i + 1) (by omega)
    dsimp only at ih
    refine Ev.mk' K fun k hk => ?_
    simp only [slices_Index_int_int.l0]
    rw [if_pos (by omega), if_pos (by omega), if_pos (by omega), if_neg (fun e => hlt i (by omega) e.symm)]
    rw [show wrap64 ((i : Int) + 1) = ((i + 1 : Nat) : Int) from wrap_id (by omega) (by omega), ih k hk]
theorem pgaps_same_len (l : List SRule) : (pgaps l).1.length = (pgaps l).2.1.length := by
  unfold pgaps
  cases hp : period l with
  | none => rfl
  | some p =>
    by_cases he : perL l p = []
    · simp [he]
    · simp only [he, if_false, gapsL_length]
      simp [perL1]
theorem LongestGap_main (l : List SRule) : ∃ v : Int × Int × Bool, v.2.2 = (pgaps l).2.2 ∧ ((pgaps l).2.2 = false → v = (0, 0, false)) ∧ ((pgaps l).2.2 = true → ∃ b, Best (pgaps l).2.1 (pgaps l).2.1.length b ∧ v = (rd (pgaps l).2.1 b, rd (pgaps l).1 b, true)) ∧ Ev (fun k => spec_LongestGap.f k l) v ∧ Ev (fun k => impl_LongestGap.f k l) v := by
  obtain ⟨K1, h1⟩ := gpGaps_ev l
  obtain ⟨K2, h2⟩ := periodGaps_ev l
  dsimp only at h1 h2
  have hb := pgaps_len2 l
  have hsame := pgaps_same_len l
  by_cases hg : (pgaps l).2.2 = true
  · have hpos := hb.2 hg
    obtain ⟨b, hbest, K3, h3⟩ := specLongest_l0 (pgaps l).2.1 (pgaps l).1 hb.1 hsame (pgaps l).2.1.length 0 0 (by omega) (by omega) (by omega) hpos
    have h3 : ∀ k, K3 ≤ k → spec_LongestGap.l0 k (pgaps l).2.1 (pgaps l).1 0 (pgaps l).2.1 (pgaps l).2.1.length 0 = _ := h3
    refine ⟨(rd (pgaps l).2.1 b, rd (pgaps l).1 b, true), hg.symm, by simp [hg], fun _ => ⟨b, hbest, rfl⟩, ?_, ?_⟩
    · refine ⟨K1 + K3, fun k hk => ?_⟩
      simp (disch := omega) only [spec_LongestGap.f, h1, obind, gpG, hg, if_true, h3]
    · obtain ⟨K4, h4⟩ := index_l0 (pgaps l).2.1 (rd (pgaps l).2.1 b) hb.1 b hbest.1 rfl (fun j hj => by have := hbest.2.2 j hj; omega) b 0 (by omega)
      have h4 : ∀ k, K4 ≤ k → slices_Index_int_int.l0 k (pgaps l).2.1 (rd (pgaps l).2.1 b) (pgaps l).2.1.length 0 = _ := h4
      have hmax : slices_Max_int_int.f (pgaps l).2.1 = some (rd (pgaps l).2.1 b) := by
        cases hG : (pgaps l).2.1 with
        | nil => rw [hG] at hpos; simp at hpos
        | cons x t => rw [hG] at hbest; simp only [slices_Max_int_int.f]; rw [max_best x t b hbest]
      have hbl := hbest.1
      refine ⟨K2 + K4, fun k hk => ?_⟩
      simp (disch := omega) only [impl_LongestGap.f, h2, obind, hg, if_true, hmax, slices_Index_int_int.f, h4]
      rw [if_pos (by omega), if_pos (by omega)]
  · refine ⟨(0, 0, false), by simpa using hg, fun _ => rfl, fun h => absurd h hg, ?_, ?_⟩
    · refine ⟨K1, fun k hk => ?_⟩
      simp (disch := omega) only [spec_LongestGap.f, h1, obind, gpG, hg]
      simp
    · refine ⟨K2, fun k hk => ?_⟩
      simp (disch := omega) only [impl_LongestGap.f, h2, obind, hg]
      simp
noncomputable def vLongestGap (l : List SRule) : Int × Int × Bool := (LongestGap_main l).choose
theorem LongestGap_main' (l : List SRule) : Ev (fun k => spec_LongestGap.f k l) (vLongestGap l) ∧ Ev (fun k => impl_LongestGap.f k l) (vLongestGap l) := (LongestGap_main l).choose_spec.2.2.2
end Go.Proofs.Ytdcijdeiaefjpaa.P
namespace Go.Proofs.Ytdcijdeiaefjpaa.P
open Go.RowKit Go.Proofs.YtdcijdeiaefjpaaW.PrintWords Go.Proofs.YtdcijdeiaefjpaaW.PrintLast
set_option linter.unusedVariables false
set_option linter.unusedSimpArgs false
def vGaps (l : List SRule) : List Int × Bool := ((pgaps l).2.1, (pgaps l).2.2)
theorem pgaps_len3 (l : List SRule) : (pgaps l).2.1.length ≤ 100000 ∧ ((pgaps l).2.2 = false → (pgaps l).2.1 = []) := by
  unfold pgaps
  cases hp : period l with
  | none => simp
  | some p =>
    obtain ⟨hg, hp0, hp1⟩ := period_some hp
    have hl := perL_length l p
    by_cases he : perL l p = []
    · simp [he]
    · have : 0 < (perL l p).length := List.length_pos_iff.mpr he
      simp only [he, if_false, gapsL_length]
      simp [perL1]; omega
theorem vGaps_len (l : List SRule) : (vGaps l).1.length ≤ 100000 := (pgaps_len3 l).1
theorem GapsOfPeriod_main (l : List SRule) : Ev (fun k => spec_GapsOfPeriod.f k l) (vGaps l) ∧ Ev (fun k => impl_GapsOfPeriod.f k l) (vGaps l) := by
  obtain ⟨K1, h1⟩ := gpGaps_ev l
  obtain ⟨K2, h2⟩ := periodGaps_ev l
  dsimp only at h1 h2
  have h0 := (pgaps_len3 l).2
  constructor
  · refine ⟨K1, fun k hk => ?_⟩
    simp (disch := omega) only [spec_GapsOfPeriod.f, h1, obind, gpG, vGaps]
    cases hg : (pgaps l).2.2
    · simp [h0 hg]
    · simp
  · refine ⟨K2, fun k hk => ?_⟩
    simp (disch := omega) only [impl_GapsOfPeriod.f, h2, obind, vGaps]
end Go.Proofs.Ytdcijdeiaefjpaa.P
namespace Go.Proofs.Ytdcijdeiaefjpaa.P
open Go.RowKit Go.Proofs.YtdcijdeiaefjpaaW.PrintWords Go.Proofs.YtdcijdeiaefjpaaW.PrintLast
set_option linter.unusedVariables false
set_option linter.unusedSimpArgs false
theorem specGapsUpTo_l0 (l : List Int) (hm : l.length < 17592186044416) : ∀ (d i : Nat) (b : List Int), i + 1 + d = l.length → b.length ≤ i → Ev (fun k => spec_GapsUpTo.l0 k l b ((i + 1 : Nat) : Int)) (b ++ dif (rd l i) (l.drop (i + 1)), true)
  | 0, i, b, h, hb => Ev.mk' 0 fun k _ => by
    simp only [spec_GapsUpTo.l0]
    rw [if_neg (by omega), List.drop_eq_nil_of_le (by omega)]; simp [dif]
  | d + 1, i, b, h, hb => by
    obtain ⟨K, ih⟩ := specGapsUpTo_l0 l hm d (i + 1) (b ++ [wrap64 (rd l ((i + 1 : Nat) : Int) - rd l i)]) (by omega) (by simp; omega)
    dsimp only at ih
    refine Ev.mk' K fun k hk => ?_
    simp only [spec_GapsUpTo.l0]
    rw [show wrap64 (((i + 1 : Nat) : Int) - 1) = (i : Int) by rw [wrap_id (by omega) (by omega)]; omega]
    rw [if_pos (by omega), if_pos (by omega), if_pos (by omega), if_pos (by omega), if_pos (by omega)]
    rw [show wrap64 (((i + 1 : Nat) : Int) + 1) = ((i + 1 + 1 : Nat) : Int) from wrap_id (by omega) (by omega), ih k hk]
    rw [rd_dropG l (i + 1) (by omega), dif]
    simp
theorem specGapsUpTo_ev (l : List Int) (hm : l.length < 17592186044416) : Ev (fun k => spec_GapsUpTo.l0 k l [] 1) (gapsL l, true) := by
  cases l with
  | nil =>
    refine Ev.mk' 0 fun k _ => ?_
    simp only [spec_GapsUpTo.l0]
    rw [if_neg (by simp)]; rfl
  | cons x t =>
    obtain ⟨K, ih⟩ := specGapsUpTo_l0 (x :: t) hm t.length 0 [] (by simp; omega) (by simp)
    exact ⟨K, fun k hk => ih k hk⟩
def gapsUpTo (l : List SRule) (n : Int) : List Int × Bool := if goodRules l = true ∧ mostOk n = true then (gapsL (leftsTo l 1 n), true) else ([], false)
theorem mostOk_iff (n : Int) : mostOk n = true ↔ 0 ≤ n ∧ n ≤ 600 := by unfold mostOk; simp
theorem gapsUpTo_len (l : List SRule) (n : Int) : (gapsUpTo l n).1.length ≤ 600 := by
  unfold gapsUpTo
  split
  · next h =>
    have := (mostOk_iff n).1 h.2
    have := leftsTo_length l 1 n
    simp only [gapsL_length]
    omega
  · simp
theorem GapsUpTo_main (l : List SRule) (n : Int) : Ev (fun k => spec_GapsUpTo.f k l n) (gapsUpTo l n) ∧ Ev (fun k => impl_GapsUpTo.f k l n) (gapsUpTo l n) := by
  obtain ⟨K1, h1⟩ := siMost_ev l n
  dsimp only at h1
  by_cases h : goodRules l = true ∧ mostOk n = true
  · have hn := (mostOk_iff n).1 h.2
    have hll := leftsTo_length l 1 n
    obtain ⟨K2, h2⟩ := siList_ev l (good_all h.1).1 (good_all h.1).2 n hn.1 hn.2
    obtain ⟨K3, h3⟩ := specGapsUpTo_ev (leftsTo l 1 n) (by omega)
    obtain ⟨K4, h4⟩ := leftBetween_ev l (good_all h.1).2 1 n (by omega) (by omega) (by omega)
    obtain ⟨K5, h5⟩ := gapsOf_ev (leftsTo l 1 n) (by omega)
    dsimp only at h2 h3 h4 h5
    unfold gapsUpTo
    rw [if_pos h]
    constructor
    · refine ⟨K1 + K2 + K3, fun k hk => ?_⟩
      simp (disch := omega) only [spec_GapsUpTo.f, h1, h2, h3, h.1, h.2, Option.bind_some, Bool.and_self, if_true]
    · refine Ev.mk' (K4 + K5) fun k hk => ?_
      simp (disch := omega) only [impl_GapsUpTo.f, impl_GapsUpTo.j0, areRules_ok, isMost_ok, h4, h5, h.1, h.2, Option.bind_some, if_true]
      simp
  · unfold gapsUpTo
    rw [if_neg h]
    constructor
    · refine ⟨K1, fun k hk => ?_⟩
      simp (disch := omega) only [spec_GapsUpTo.f, h1, Option.bind_some]
      rw [if_neg (by simpa using h)]
    · refine Ev.mk' 0 fun k hk => ?_
      simp (disch := omega) only [impl_GapsUpTo.f, impl_GapsUpTo.j0, areRules_ok, isMost_ok, Option.bind_some]
      cases hg : goodRules l
      · simp
      · have : mostOk n = false := by simpa [hg] using h
        simp [this]
end Go.Proofs.Ytdcijdeiaefjpaa.P
namespace Go.Proofs.Ytdcijdeiaefjpaa.P
open Go.RowKit Go.Proofs.YtdcijdeiaefjpaaW.PrintWords Go.Proofs.YtdcijdeiaefjpaaW.PrintLast
set_option linter.unusedVariables false
set_option linter.unusedSimpArgs false
def recZ : List Int → List Int → Int → List (List Int)
  | f :: F, g :: D, b => if g > b then [f, g] :: recZ F D g else recZ F D b
  | _, _, _ => []
theorem recZ_length : ∀ (F D : List Int) (b : Int), (recZ F D b).length ≤ D.length
  | [], _, _ => by simp [recZ]
  | _ :: _, [], _ => by simp [recZ]
  | f :: F, g :: D, b => by
    have h1 := recZ_length F D g
    have h2 := recZ_length F D b
    simp only [recZ]
    split <;> simp <;> omega
theorem implRec_l0 (F D : List Int) (hL : F.length = D.length) (hm : D.length < 100000) : ∀ (d i : Nat) (acc : List (List Int)) (b : Int), i + d = D.length → acc.length ≤ i → Ev (fun k => impl_RecordGaps.l0 k F acc b D (D.length : Int) i) (acc ++ recZ (F.drop i) (D.drop i) b, true)
  | 0, i, acc, b, h, ha => Ev.mk' 0 fun k _ => by
    simp only [impl_RecordGaps.l0]
    rw [if_neg (by omega), List.drop_of_length_le (by omega : F.length ≤ i)]; simp [recZ]
  | d + 1, i, acc, b, h, ha => by
    rw [rd_dropG F i (by omega), rd_dropG D i (by omega)]
    simp only [recZ]
    by_cases c : rd D i > b
    · obtain ⟨K, ih⟩ := implRec_l0 F D hL hm d (i + 1) (acc ++ [[rd F i, rd D i]]) (rd D i) (by omega) (by simp; omega)
      dsimp only at ih
      refine Ev.mk' K fun k hk => ?_
      simp only [impl_RecordGaps.l0]
      rw [if_pos (by omega), if_pos (by omega), if_pos (by omega), if_pos c, if_pos (by omega), if_pos (by omega), wrap_id (by omega) (by omega), show ((i : Int) + 1) = ((i + 1 : Nat) : Int) by omega, ih k hk, if_pos c]
      simp
    · obtain ⟨K, ih⟩ := implRec_l0 F D hL hm d (i + 1) acc b (by omega) (by omega)
      dsimp only at ih
      refine Ev.mk' K fun k hk => ?_
      simp only [impl_RecordGaps.l0]
      rw [if_pos (by omega), if_pos (by omega), if_pos (by omega), if_neg c, wrap_id (by omega) (by omega), show ((i : Int) + 1) = ((i + 1 : Nat) : Int) by omega, ih k hk, if_neg c]
theorem specRec_l0 (l : List Int) (hm : l.length < 100000) : ∀ (d i : Nat) (acc : List (List Int)) (b : Int), i + 1 + d = l.length → acc.length ≤ i → Ev (fun k => spec_RecordGaps.l0 k l acc b ((i + 1 : Nat) : Int)) (acc ++ recZ (frm (rd l i) (l.drop (i + 1))) (dif (rd l i) (l.drop (i + 1))) b, true)
  | 0, i, acc, b, h, ha => Ev.mk' 0 fun k _ => by
    simp only [spec_RecordGaps.l0]
    rw [if_neg (by omega), List.drop_of_length_le (by omega)]; simp [recZ, frm]
  | d + 1, i, acc, b, h, ha => by
    have e1 : wrap64 (((i + 1 : Nat) : Int) - 1) = (i : Int) := by rw [wrap_id (by omega) (by omega)]; omega
    have e2 : wrap64 (((i + 1 : Nat) : Int) + 1) = ((i + 1 + 1 : Nat) : Int) := by rw [wrap_id (by omega) (by omega)]; omega
    rw [rd_dropG l (i + 1) (by omega)]
    simp only [frm, dif, recZ]
    by_cases c : wrap64 (rd l ((i + 1 : Nat) : Int) - rd l i) > b
    · obtain ⟨K, ih⟩ := specRec_l0 l hm d (i + 1) (acc ++ [[rd l i, wrap64 (rd l ((i + 1 : Nat) : Int) - rd l i)]]) (wrap64 (rd l ((i + 1 : Nat) : Int) - rd l i)) (by omega) (by simp; omega)
      dsimp only at ih
      refine Ev.mk' K fun k hk => ?_
      simp only [spec_RecordGaps.l0, e1, e2]
      rw [if_pos (by omega), if_pos (by omega), if_pos (by omega), if_pos (by omega), if_pos c, if_pos (by omega), ih k hk, if_pos c]
      simp
    · obtain ⟨K, ih⟩ := specRec_l0 l hm d (i + 1) acc b (by omega) (by omega)
      dsimp only at ih
      refine Ev.mk' K fun k hk => ?_
      simp only [spec_RecordGaps.l0, e1, e2]
      rw [if_pos (by omega), if_pos (by omega), if_pos (by omega), if_pos (by omega), if_neg c, ih k hk, if_neg c]
def recVal (l : List SRule) (n : Int) : List (List Int) × Bool := if goodRules l = true ∧ mostOk n = true then (recZ (fromL (leftsTo l 1 n)) (gapsL (leftsTo l 1 n)) 0, true) else ([], false)
theorem recVal_len (l : List SRule) (n : Int) : (recVal l n).1.length ≤ 600 := by
  unfold recVal
  split
  · next h =>
    have := (mostOk_iff n).1 h.2
    have h1 := leftsTo_length l 1 n
    have h2 := recZ_length (fromL (leftsTo l 1 n)) (gapsL (leftsTo l 1 n)) 0
    rw [gapsL_length] at h2
    dsimp only
    omega
  · simp
theorem RecordGaps_main (l : List SRule) (n : Int) : Ev (fun k => spec_RecordGaps.f k l n) (recVal l n) ∧ Ev (fun k => impl_RecordGaps.f k l n) (recVal l n) := by
  obtain ⟨K1, h1⟩ := siMost_ev l n
  dsimp only at h1
  by_cases h : goodRules l = true ∧ mostOk n = true
  · have hn := (mostOk_iff n).1 h.2
    have hll := leftsTo_length l 1 n
    obtain ⟨K2, h2⟩ := siList_ev l (good_all h.1).1 (good_all h.1).2 n hn.1 hn.2
    obtain ⟨K4, h4⟩ := leftBetween_ev l (good_all h.1).2 1 n (by omega) (by omega) (by omega)
    obtain ⟨K5, h5⟩ := gapsOf_ev (leftsTo l 1 n) (by omega)
    obtain ⟨K6, h6⟩ := implRec_l0 (fromL (leftsTo l 1 n)) (gapsL (leftsTo l 1 n)) (by rw [gapsL_length, fromL_length]) (by rw [gapsL_length]; omega) (gapsL (leftsTo l 1 n)).length 0 [] 0 (by omega) (by simp)
    dsimp only at h2 h4 h5
    have h6 : ∀ k, K6 ≤ k → impl_RecordGaps.l0 k (fromL (leftsTo l 1 n)) [] 0 (gapsL (leftsTo l 1 n)) ((gapsL (leftsTo l 1 n)).length : Int) 0 = some (recZ (fromL (leftsTo l 1 n)) (gapsL (leftsTo l 1 n)) 0, true) := h6
    have h3 : Ev (fun k => spec_RecordGaps.l0 k (leftsTo l 1 n) [] 0 1) (recZ (fromL (leftsTo l 1 n)) (gapsL (leftsTo l 1 n)) 0, true) := by
      generalize leftsTo l 1 n = L at hll
      cases L with
      | nil => exact Ev.mk' 0 fun k _ => by simp [spec_RecordGaps.l0, fromL, gapsL, frm, dif, recZ]
      | cons x t =>
        obtain ⟨K, ih⟩ := specRec_l0 (x :: t) (by omega) t.length 0 [] 0 (by simp; omega) (by simp)
        exact ⟨K, fun k hk => ih k hk⟩
    obtain ⟨K3, h3⟩ := h3
    dsimp only at h3
    unfold recVal
    rw [if_pos h]
    constructor
    · refine ⟨K1 + K2 + K3, fun k hk => ?_⟩
      simp (disch := omega) only [spec_RecordGaps.f, h1, h2, h3, h.1, h.2, obind, Bool.and_self, if_true]
    · refine Ev.mk' (K4 + K5 + K6) fun k hk => ?_
      simp (disch := omega) only [impl_RecordGaps.f, areRules_ok, isMost_ok, h.1, h.2, obind, if_true, Bool.not_true]
      simp (disch := omega) only [impl_RecordGaps.j0, h4, h5, h6, obind, Bool.false_eq_true, if_false]
  · unfold recVal
    rw [if_neg h]
    constructor
    · refine ⟨K1, fun k hk => ?_⟩
      have hf : (goodRules l && mostOk n) = false := by
        apply Bool.eq_false_iff.2; intro h'; rw [Bool.and_eq_true] at h'; exact h h'
      simp only [spec_RecordGaps.f, h1 k hk, obind, hf, Bool.false_eq_true, if_false]
    · refine Ev.mk' 0 fun k hk => ?_
      simp only [impl_RecordGaps.f, areRules_ok, isMost_ok, obind]
      by_cases hg : goodRules l = true
      · have hf : mostOk n = false := Bool.eq_false_iff.2 fun h' => h ⟨hg, h'⟩
        rw [if_pos hg, hf]; simp [impl_RecordGaps.j0]
      · rw [if_neg hg]; simp [impl_RecordGaps.j0]
end Go.Proofs.Ytdcijdeiaefjpaa.P
namespace Go.Proofs.Ytdcijdeiaefjpaa.P
open Go.RowKit Go.Proofs.YtdcijdeiaefjpaaW.PrintWords Go.Proofs.YtdcijdeiaefjpaaW.PrintLast
set_option linter.unusedVariables false
set_option linter.unusedSimpArgs false
def cntP (l : List SRule) (ap : Int) : List Int → Int
  | [] => 0
  | x :: t => (if left l (wrap64 (x + ap)) = true then 1 else 0) + cntP l ap t
theorem pairs_l0 (l : List SRule) (hm : l.length ≤ 12) (ho : l.all okRule = true) (L : List Int) (hL : L.length ≤ 4611686018427387904) (ap : Int) : ∀ (d i : Nat) (c : Int), i + d = L.length → 0 ≤ c → c ≤ i →
    Ev (fun k => spec_PairsInPeriod.l0 k l ap c L L.length i) (c + cntP l ap (L.drop i), true) ∧ Ev (fun k => impl_PairsInPeriod.l0 k l ap c L L.length i) (c + cntP l ap (L.drop i), true)
  | 0, i, c, h, h0, h1 => by
    rw [List.drop_eq_nil_of_le (by omega)]
    constructor
    · refine Ev.mk' 0 fun k _ => ?_
      simp only [spec_PairsInPeriod.l0]
      rw [if_neg (by omega)]; simp [cntP]
    · refine Ev.mk' 0 fun k _ => ?_
      simp only [impl_PairsInPeriod.l0]
      rw [if_neg (by omega)]; simp [cntP]
  | d + 1, i, c, h, h0, h1 => by
    rw [rd_dropG L i (by omega), cntP]
    obtain ⟨K1, h3⟩ := siLeft_ev (wrap64 (rd L i + ap)) l (by omega) ho
    dsimp only at h3
    have h4 := isLeft_ok (wrap64 (rd L i + ap)) l ho
    by_cases hc : left l (wrap64 (rd L i + ap)) = true
    · obtain ⟨⟨Ks, ihs⟩, ⟨Ki, ihi⟩⟩ := pairs_l0 l hm ho L hL ap d (i + 1) (c + 1) (by omega) (by omega) (by omega)
      dsimp only at ihs ihi
      have e : c + ((1 : Int) + cntP l ap (L.drop (i + 1))) = c + 1 + cntP l ap (L.drop (i + 1)) := by omega
      rw [if_pos hc, e]
      constructor
      · refine Ev.mk' (Ks + K1) fun k hk => ?_
        simp only [spec_PairsInPeriod.l0]
        rw [if_pos (by omega), if_pos (by omega), if_pos (by omega), h3 k (by omega), obind, if_pos hc]
        rw [show wrap64 ((i : Int) + 1) = ((i + 1 : Nat) : Int) from wrap_id (by omega) (by omega), show wrap64 (c + 1) = c + 1 from wrap_id (by omega) (by omega), ihs k (by omega)]
      · refine Ev.mk' Ki fun k hk => ?_
        simp only [impl_PairsInPeriod.l0]
        rw [if_pos (by omega), if_pos (by omega), if_pos (by omega), h4, obind, if_pos hc]
        rw [show wrap64 ((i : Int) + 1) = ((i + 1 : Nat) : Int) from wrap_id (by omega) (by omega), show wrap64 (c + 1) = c + 1 from wrap_id (by omega) (by omega), ihi k (by omega)]
    · obtain ⟨⟨Ks, ihs⟩, ⟨Ki, ihi⟩⟩ := pairs_l0 l hm ho L hL ap d (i + 1) c (by omega) (by omega) (by omega)
      dsimp only at ihs ihi
      have e : c + ((0 : Int) + cntP l ap (L.drop (i + 1))) = c + cntP l ap (L.drop (i + 1)) := by omega
      rw [if_neg hc, e]
      constructor
      · refine Ev.mk' (Ks + K1) fun k hk => ?_
        simp only [spec_PairsInPeriod.l0]
        rw [if_pos (by omega), if_pos (by omega), if_pos (by omega), h3 k (by omega), obind, if_neg hc]
        rw [show wrap64 ((i : Int) + 1) = ((i + 1 : Nat) : Int) from wrap_id (by omega) (by omega), ihs k (by omega)]
      · refine Ev.mk' Ki fun k hk => ?_
        simp only [impl_PairsInPeriod.l0]
        rw [if_pos (by omega), if_pos (by omega), if_pos (by omega), h4, obind, if_neg hc]
        rw [show wrap64 ((i : Int) + 1) = ((i + 1 : Nat) : Int) from wrap_id (by omega) (by omega), ihi k (by omega)]
theorem pgaps_len1 (l : List SRule) : (pgaps l).1.length ≤ 100000 := by
  unfold pgaps
  cases hp : period l with
  | none => simp
  | some p =>
    obtain ⟨hg, hp0, hp1⟩ := period_some hp
    have hl := perL_length l p
    by_cases he : perL l p = []
    · simp [he]
    · simp only [he, if_false]; omega
def vPairs (l : List SRule) (ap : Int) : Int × Bool := if (pgaps l).2.2 = true ∧ 0 ≤ ap ∧ ap ≤ 1000 then (cntP l ap (pgaps l).1, true) else (0, false)
theorem pgaps_good {l : List SRule} (h : (pgaps l).2.2 = true) : goodRules l = true := by
  unfold pgaps at h
  cases hp : period l with
  | none => simp [hp] at h
  | some p => exact (period_some hp).1
theorem gpL_pgaps (l : List SRule) : (gpL l).2 = (pgaps l).2.2 ∧ ((pgaps l).2.2 = true → (gpL l).1 = (pgaps l).1) := by
  unfold gpL pgaps
  cases hp : period l with
  | none => simp
  | some p =>
    by_cases he : perL l p = []
    · simp [he]
    · have : 0 < (perL l p).length := List.length_pos_iff.mpr he
      simp [he, this]
theorem PairsInPeriod_main (l : List SRule) (ap : Int) : Ev (fun k => spec_PairsInPeriod.f k l ap) (vPairs l ap) ∧ Ev (fun k => impl_PairsInPeriod.f k l ap) (vPairs l ap) := by
  obtain ⟨K1, h1⟩ := gpLeft_ev l
  obtain ⟨K2, h2⟩ := periodGaps_ev l
  dsimp only at h1 h2
  have hgp := gpL_pgaps l
  unfold vPairs
  by_cases hg : (pgaps l).2.2 = true
  · have hgo := good_all (pgaps_good hg)
    have hl := pgaps_len1 l
    by_cases ha : 0 ≤ ap ∧ ap ≤ 1000
    · obtain ⟨⟨K3, h3⟩, ⟨K4, h4⟩⟩ := pairs_l0 l hgo.1 hgo.2 (pgaps l).1 (by omega) ap (pgaps l).1.length 0 0 (by omega) (by omega) (by omega)
      have h3 : ∀ k, K3 ≤ k → spec_PairsInPeriod.l0 k l ap 0 (pgaps l).1 (pgaps l).1.length 0 = _ := h3
      have h4 : ∀ k, K4 ≤ k → impl_PairsInPeriod.l0 k l ap 0 (pgaps l).1 (pgaps l).1.length 0 = _ := h4
      rw [List.drop_zero] at h3 h4
      rw [if_pos ⟨hg, ha⟩]
      have c1 : ¬ ap < 0 := by omega
      have c2 : ¬ ap > 1000 := by omega
      constructor
      · refine Ev.mk' (K1 + K3) fun k hk => ?_
        simp (disch := omega) only [spec_PairsInPeriod.f, h1, obind, hgp.1, hg, hgp.2 hg, if_true, l1In_ok, ha.1, ha.2, decide_true, Bool.and_self, Bool.not_true]
        simp (disch := omega) only [spec_PairsInPeriod.j0, h3, Bool.false_eq_true, if_false]
        simp
      · refine Ev.mk' (K2 + K4) fun k hk => ?_
        simp (disch := omega) only [impl_PairsInPeriod.f, h2, obind, hg, if_true, if_neg c1]
        simp (disch := omega) only [impl_PairsInPeriod.j0, c2, decide_false, h4, Bool.false_eq_true, if_false]
        simp
    · rw [if_neg (by simp [hg]; omega)]
      constructor
      · refine Ev.mk' K1 fun k hk => ?_
        simp (disch := omega) only [spec_PairsInPeriod.f, h1, obind, hgp.1, hg, if_true, l1In_ok]
        have : (decide (0 ≤ ap) && decide (ap ≤ 1000)) = false := by simp; omega
        rw [this]
        simp [spec_PairsInPeriod.j0]
      · refine Ev.mk' K2 fun k hk => ?_
        simp (disch := omega) only [impl_PairsInPeriod.f, h2, obind, hg, if_true]
        by_cases c1 : ap < 0
        · simp [c1, impl_PairsInPeriod.j0]
        · have c2 : ap > 1000 := by omega
          simp [c1, c2, impl_PairsInPeriod.j0]
  · rw [if_neg (by simp [hg])]
    constructor
    · refine Ev.mk' K1 fun k hk => ?_
      simp (disch := omega) only [spec_PairsInPeriod.f, h1, obind, hgp.1, hg]
      simp [spec_PairsInPeriod.j0]
    · refine Ev.mk' K2 fun k hk => ?_
      simp (disch := omega) only [impl_PairsInPeriod.f, h2, obind, hg]
      simp [impl_PairsInPeriod.j0]
end Go.Proofs.Ytdcijdeiaefjpaa.P
namespace Go.Proofs.Ytdcijdeiaefjpaa.P
open Go.RowKit Go.Proofs.YtdcijdeiaefjpaaW.PrintWords Go.Proofs.YtdcijdeiaefjpaaW.PrintLast
set_option linter.unusedVariables false
set_option linter.unusedSimpArgs false
theorem lefts_snoc (l : List SRule) : ∀ (m : Nat) (i : Int), lefts l i (m + 1) = lefts l i m ++ (if left l (i + m) = true then [i + (m : Int)] else [])
  | 0, i => by simp [lefts]
  | m + 1, i => by
    rw [lefts, lefts_snoc l m (i + 1), lefts]
    rw [show i + 1 + (m : Int) = i + ((m + 1 : Nat) : Int) by omega]
    simp
def cw (l : List SRule) (w : Nat) (n : Int) : Int := ((lefts l n w).length : Int)
def b2i (b : Bool) : Int := if b = true then 1 else 0
theorem len_if (b : Bool) (x : Int) : (((if b = true then [x] else []) : List Int).length : Int) = b2i b := by cases b <;> rfl
theorem cw_step (l : List SRule) (w : Nat) (n : Int) : cw l w (n + 1) = cw l w n - b2i (left l n) + b2i (left l (n + w)) := by
  have h1 : ((lefts l n (w + 1)).length : Int) = b2i (left l n) + cw l w (n + 1) := by rw [lefts, List.length_append, Int.natCast_add, len_if]; rfl
  have h2 : ((lefts l n (w + 1)).length : Int) = cw l w n + b2i (left l (n + w)) := by rw [lefts_snoc, List.length_append, Int.natCast_add, len_if]; rfl
  omega
theorem cw_bound (l : List SRule) (w : Nat) (n : Int) : 0 ≤ cw l w n ∧ cw l w n ≤ w := by
  have := lefts_length l w n
  unfold cw; omega
def cws (l : List SRule) (w : Nat) : Int → Nat → List Int
  | _, 0 => []
  | n, m + 1 => cw l w n :: cws l w (n + 1) m
theorem cws_length (l : List SRule) (w : Nat) : ∀ (m : Nat) (n : Int), (cws l w n m).length = m
  | 0, _ => rfl
  | m + 1, n => by simp [cws, cws_length l w m]
theorem cws_snoc (l : List SRule) (w : Nat) : ∀ (m : Nat) (n : Int), cws l w n (m + 1) = cws l w n m ++ [cw l w (n + m)]
  | 0, n => by simp [cws]
  | m + 1, n => by
    rw [cws, cws_snoc l w m (n + 1), cws]
    rw [show n + 1 + (m : Int) = n + ((m + 1 : Nat) : Int) by omega]; rfl
theorem maxFrom_snoc : ∀ (t : List Int) (m x : Int), maxFrom m (t ++ [x]) = mx (maxFrom m t) x
  | [], m, x => rfl
  | y :: t, m, x => by simp only [List.cons_append, maxFrom]; exact maxFrom_snoc t _ x
theorem minFrom_snoc : ∀ (t : List Int) (m x : Int), minFrom m (t ++ [x]) = mn (minFrom m t) x
  | [], m, x => rfl
  | y :: t, m, x => by simp only [List.cons_append, minFrom]; exact minFrom_snoc t _ x
theorem maxFrom_ge' : ∀ (t : List Int) (m : Int), m ≤ maxFrom m t
  | [], m => Int.le_refl _
  | x :: t, m => by
    have := maxFrom_ge' t (mx m x)
    simp only [maxFrom]
    have : m ≤ mx m x := by unfold mx; split <;> omega
    omega
theorem minFrom_le' : ∀ (t : List Int) (m : Int), minFrom m t ≤ m
  | [], m => Int.le_refl _
  | x :: t, m => by
    have := minFrom_le' t (mn m x)
    simp only [minFrom]
    have : mn m x ≤ m := by unfold mn; split <;> omega
    omega
theorem perN_dvd : ∀ (l : List SRule) (p q : Nat), perN p l = some q → p ∣ q ∧ ∀ x ∈ l, x.f0.toNat ∣ q
  | [], p, q, h => by simp [perN] at h; subst h; exact ⟨Nat.dvd_refl _, by simp⟩
  | x :: t, p, q, h => by
    rw [perN] at h
    split at h
    · simp at h
    · obtain ⟨h1, h2⟩ := perN_dvd t _ q h
      refine ⟨Nat.dvd_trans (Nat.dvd_lcm_left _ _) h1, fun y hy => ?_⟩
      simp only [List.mem_cons] at hy
      rcases hy with rfl | hy
      · exact Nat.dvd_trans (Nat.dvd_lcm_right _ _) h1
      · exact h2 y hy
theorem left_period (l : List SRule) (p : Nat) (hp : period l = some p) (n : Int) : left l (n + p) = left l n := by
  obtain ⟨hg, -, -⟩ := period_some hp
  have hd : ∀ x ∈ l, x.f0.toNat ∣ p := by
    unfold period at hp
    rw [if_pos hg] at hp
    exact (perN_dvd l 1 p hp).2
  have ho := (good_all hg).2
  have : ∀ x ∈ l, crosses (n + p) x = crosses n x := by
    intro x hx
    have h2 := (okRule_iff x).1 (List.all_eq_true.mp ho x hx)
    obtain ⟨c, hc⟩ := hd x hx
    have e : (p : Int) = x.f0 * (c : Int) := by
      have : (p : Int) = ((x.f0.toNat : Nat) : Int) * (c : Int) := by rw [hc]; simp
      rw [this, Int.toNat_of_nonneg (by omega)]
    unfold crosses
    rw [e, Int.add_mul_emod_self_left]
  unfold left
  congr 1
  rw [Bool.eq_iff_iff]
  simp only [List.any_eq_true]
  constructor
  · rintro ⟨x, hx, h⟩; exact ⟨x, hx, by rw [← this x hx]; exact h⟩
  · rintro ⟨x, hx, h⟩; exact ⟨x, hx, by rw [this x hx]; exact h⟩
theorem cw_period (l : List SRule) (p : Nat) (hp : period l = some p) (w : Nat) : ∀ n : Int, cw l w (n + p) = cw l w n := by
  induction w with
  | zero => intro n; simp [cw, lefts]
  | succ w ih =>
    intro n
    have h := ih (n + 1)
    rw [show n + 1 + (p : Int) = n + p + 1 by omega] at h
    unfold cw at h ⊢
    simp only [lefts, List.length_append, left_period l p hp n]
    split <;> simp <;> omega
theorem implWin_l0 (l : List SRule) (ho : l.all okRule = true) (w : Nat) (hw : w ≤ 200) (p : Nat) (hp : p ≤ 100000) : ∀ (d i : Nat) (acc : List Int), i + d = p → acc.length ≤ i → Ev (fun k => impl_windowsOf.l0 k l w (cw l w i) acc p i) (acc ++ cws l w i d, true)
  | 0, i, acc, h, ha => Ev.mk' 0 fun k _ => by
    simp only [impl_windowsOf.l0]
    rw [if_neg (by omega)]; simp [cws]
  | d + 1, i, acc, h, ha => by
    obtain ⟨K, ih⟩ := implWin_l0 l ho w hw p hp d (i + 1) (acc ++ [cw l w i]) (by omega) (by simp; omega)
    have ih : ∀ k, K ≤ k → impl_windowsOf.l0 k l w (cw l w ((i + 1 : Nat) : Int)) (acc ++ [cw l w i]) p ((i + 1 : Nat) : Int) = _ := ih
    have hs : cw l w ((i + 1 : Nat) : Int) = cw l w i - b2i (left l i) + b2i (left l (i + w)) := cw_step l w i
    have hb := cw_bound l w i
    refine Ev.mk' K fun k hk => ?_
    have ih := ih k hk
    rw [List.append_assoc] at ih
    simp only [impl_windowsOf.l0]
    rw [if_pos (by omega), if_pos (by omega), obind, isLeft_ok _ l ho, obind]
    rw [show wrap64 ((i : Int) + (w : Int)) = (i : Int) + w from wrap_id (by omega) (by omega), isLeft_ok _ l ho, obind, obind]
    rw [show wrap64 ((i : Int) + 1) = ((i + 1 : Nat) : Int) from wrap_id (by omega) (by omega)]
    rw [show wrap64 (cw l w i - 1) = cw l w i - 1 from wrap_id (by omega) (by omega), show wrap64 (cw l w i - 1 + 1) = cw l w i from by rw [wrap_id (by omega) (by omega)]; omega, show wrap64 (cw l w i + 1) = cw l w i + 1 from wrap_id (by omega) (by omega)]
    rw [hs] at ih
    unfold b2i at ih
    cases h1 : left l i <;> cases h2 : left l ((i : Int) + w) <;> simp [h1, h2] at ih ⊢ <;> rw [ih] <;> rfl
theorem specWin_l0 (l : List SRule) (hm : l.length ≤ 12) (ho : l.all okRule = true) (w : Nat) (hw : w ≤ 200) (R : Int × Int × Bool) (hR : Ev (fun k => spec_gpWindows.l1 k l w (cw l w 0) (cw l w 0) (cw l w 0) 0) R) : ∀ (d i : Nat), i + d = w → Ev (fun k => spec_gpWindows.l0 k l w (cw l i 0) i) R
  | 0, i, h => by
    obtain ⟨K, hK⟩ := hR
    have : i = w := by omega
    subst this
    refine Ev.mk' K fun k hk => ?_
    simp only [spec_gpWindows.l0]
    rw [if_neg (by omega)]
    exact hK k hk
  | d + 1, i, h => by
    obtain ⟨K, ih⟩ := specWin_l0 l hm ho w hw R hR d (i + 1) (by omega)
    have ih : ∀ k, K ≤ k → spec_gpWindows.l0 k l w (cw l (i + 1) 0) ((i + 1 : Nat) : Int) = _ := ih
    obtain ⟨K1, h3⟩ := siLeft_ev i l (by omega) ho
    dsimp only at h3
    have hs : cw l (i + 1) 0 = cw l i 0 + b2i (left l i) := by
      unfold cw b2i
      rw [lefts_snoc, List.length_append, Int.zero_add]
      split <;> simp
    have hb := cw_bound l i 0
    refine Ev.mk' (K + K1) fun k hk => ?_
    have ih := ih k (by omega)
    simp only [spec_gpWindows.l0]
    rw [if_pos (by omega), h3 k (by omega), obind]
    rw [show wrap64 ((i : Int) + 1) = ((i + 1 : Nat) : Int) from wrap_id (by omega) (by omega), show wrap64 (cw l i 0 + 1) = cw l i 0 + 1 from wrap_id (by omega) (by omega)]
    rw [hs] at ih
    unfold b2i at ih
    cases h1 : left l i <;> simp [h1] at ih ⊢ <;> rw [ih]
theorem least_mn (a b : Int) : spec_l1Least.f a b = some (mn a b) := by
  unfold spec_l1Least.f mn
  by_cases h : a < b
  · rw [if_pos h, if_neg (by omega)]
  · rw [if_neg h]
    by_cases h2 : b < a
    · rw [if_pos h2]
    · rw [if_neg h2]; congr 1; omega
theorem specWin_l1 (l : List SRule) (p : Nat) (hp : period l = some p) (w : Nat) (hw : w ≤ 200) : ∀ (d i : Nat) (a b : Int), i + d = p → Ev (fun k => spec_gpWindows.l1 k l w (cw l w i) a b i) (maxFrom a (cws l w ((i : Int) + 1) d), minFrom b (cws l w ((i : Int) + 1) d), true)
  | 0, i, a, b, h => by
    obtain ⟨hg, hp0, hp1⟩ := period_some hp
    obtain ⟨K, hK⟩ := siPeriod_ev l hg
    dsimp only at hK
    rw [hp] at hK
    refine Ev.mk' K fun k hk => ?_
    simp only [spec_gpWindows.l1]
    rw [hK k hk, obind, if_neg (by simp only []; omega)]; rfl
  | d + 1, i, a, b, h => by
    obtain ⟨hg, hp0, hp1⟩ := period_some hp
    obtain ⟨K0, hK⟩ := siPeriod_ev l hg
    dsimp only at hK
    rw [hp] at hK
    have hgo := good_all hg
    obtain ⟨K1, h3⟩ := siLeft_ev i l (by omega) hgo.2
    obtain ⟨K2, h4⟩ := siLeft_ev ((i : Int) + w) l (by omega) hgo.2
    dsimp only at h3 h4
    have hs : cw l w ((i + 1 : Nat) : Int) = cw l w i - b2i (left l i) + b2i (left l (i + w)) := cw_step l w i
    have hs' : cw l w ((i : Int) + 1) = cw l w ((i + 1 : Nat) : Int) := rfl
    have hb := cw_bound l w i
    have hb2 := cw_bound l w ((i + 1 : Nat) : Int)
    obtain ⟨K, ih⟩ := specWin_l1 l p hp w hw d (i + 1) (mx a (cw l w ((i + 1 : Nat) : Int))) (mn b (cw l w ((i + 1 : Nat) : Int))) (by omega)
    have ih : ∀ k, K ≤ k → spec_gpWindows.l1 k l w (cw l w ((i + 1 : Nat) : Int)) (mx a (cw l w ((i + 1 : Nat) : Int))) (mn b (cw l w ((i + 1 : Nat) : Int))) ((i + 1 : Nat) : Int) = _ := ih
    have key : ∀ (c : Int) (k : Nat), K + K2 + 1 ≤ k → c + b2i (left l (i + w)) = cw l w ((i + 1 : Nat) : Int) → -1 ≤ c → c ≤ 200 → spec_gpWindows.j3 k l w c a b i = some (maxFrom a (cws l w ((i : Int) + 1) (d + 1)), minFrom b (cws l w ((i : Int) + 1) (d + 1)), true) := by
      intro c k hk hc c0 c1
      obtain ⟨k, rfl⟩ : ∃ m, k = m + 1 := ⟨k - 1, by omega⟩
      have ih := ih k (by omega)
      simp only [spec_gpWindows.j3]
      rw [show wrap64 ((i : Int) + (w : Int)) = (i : Int) + w from wrap_id (by omega) (by omega), h4 k (by omega), obind]
      rw [show wrap64 ((i : Int) + 1) = ((i + 1 : Nat) : Int) from wrap_id (by omega) (by omega), show wrap64 (c + 1) = c + 1 from wrap_id (by omega) (by omega)]
      simp only [most_mx, least_mn, cws, maxFrom, minFrom, hs']
      rw [show ((i : Int) + 1 + 1) = ((i + 1 : Nat) : Int) + 1 from rfl, ← ih, ← hc]
      unfold b2i
      cases left l ((i : Int) + w) <;> simp [obind]
    refine Ev.mk' (K + K0 + K1 + K2 + 1) fun k hk => ?_
    simp only [spec_gpWindows.l1]
    rw [hK k (by omega), obind, if_pos (by simp only []; omega), h3 k (by omega), obind]
    rw [show wrap64 (cw l w i - 1) = cw l w i - 1 from wrap_id (by omega) (by omega)]
    cases h1 : left l i
    · rw [if_neg (by simp)]
      exact key _ k (by omega) (by rw [hs, h1]; simp [b2i]) (by omega) (by omega)
    · rw [if_pos rfl]
      exact key _ k (by omega) (by rw [hs, h1]; simp [b2i]) (by omega) (by omega)
def vWin (l : List SRule) (w : Int) : Int × Int × Bool := if (pgaps l).2.2 = true ∧ 0 ≤ w ∧ w ≤ 200 then (maxFrom (cw l w.toNat 0) (cws l w.toNat 1 ((period l).getD 0)), minFrom (cw l w.toNat 0) (cws l w.toNat 1 ((period l).getD 0)), true) else (0, 0, false)
theorem gpWindows_ev (l : List SRule) (w : Int) : Ev (fun k => spec_gpWindows.f k l w) (vWin l w) := by
  obtain ⟨K1, h1⟩ := gpLeft_ev l
  dsimp only at h1
  have hgp := gpL_pgaps l
  unfold vWin
  by_cases hg : (pgaps l).2.2 = true
  · have hgo := good_all (pgaps_good hg)
    by_cases ha : 0 ≤ w ∧ w ≤ 200
    · rw [if_pos ⟨hg, ha⟩]
      cases hp : period l with
      | none => simp [pgaps, hp] at hg
      | some p =>
        obtain ⟨-, hp0, hp1⟩ := period_some hp
        have hw : ((w.toNat : Nat) : Int) = w := Int.toNat_of_nonneg ha.1
        have e1 := specWin_l1 l p hp w.toNat (by omega) p 0 (cw l w.toNat 0) (cw l w.toNat 0) (by omega)
        obtain ⟨K2, h2⟩ := specWin_l0 l hgo.1 hgo.2 w.toNat (by omega) _ e1 w.toNat 0 (by omega)
        have h2 : ∀ k, K2 ≤ k → spec_gpWindows.l0 k l (w.toNat : Nat) 0 0 = _ := h2
        rw [hw] at h2
        refine Ev.mk' (K1 + K2) fun k hk => ?_
        simp (disch := omega) only [spec_gpWindows.f, h1, obind, hgp.1, hg, if_true, l1In_ok, ha.1, ha.2, decide_true, Bool.and_self, Bool.not_true]
        simp (disch := omega) only [spec_gpWindows.j0, h2, Bool.false_eq_true, if_false]
        rfl
    · rw [if_neg (by simp [hg]; omega)]
      refine Ev.mk' K1 fun k hk => ?_
      simp (disch := omega) only [spec_gpWindows.f, h1, obind, hgp.1, hg, if_true, l1In_ok]
      have : (decide (0 ≤ w) && decide (w ≤ 200)) = false := by simp; omega
      rw [this]
      simp [spec_gpWindows.j0]
  · rw [if_neg (by simp [hg])]
    refine Ev.mk' K1 fun k hk => ?_
    simp (disch := omega) only [spec_gpWindows.f, h1, obind, hgp.1, hg]
    simp [spec_gpWindows.j0]
theorem windowsOf_ev (l : List SRule) (w : Int) : Ev (fun k => impl_windowsOf.f k l w) (if (pgaps l).2.2 = true ∧ 0 ≤ w ∧ w ≤ 200 then (cws l w.toNat 0 ((period l).getD 0), true) else ([], false)) := by
  obtain ⟨K1, h1⟩ := periodGaps_ev l
  dsimp only at h1
  by_cases hg : (pgaps l).2.2 = true
  · have hgo := good_all (pgaps_good hg)
    by_cases ha : 0 ≤ w ∧ w ≤ 200
    · rw [if_pos ⟨hg, ha⟩]
      cases hp : period l with
      | none => simp [pgaps, hp] at hg
      | some p =>
        obtain ⟨-, hp0, hp1⟩ := period_some hp
        have hw : ((w.toNat : Nat) : Int) = w := Int.toNat_of_nonneg ha.1
        obtain ⟨K2, h2⟩ := periodOf_ev l
        dsimp only at h2
        rw [hp] at h2
        obtain ⟨K3, h3⟩ := leftBetween_ev l hgo.2 0 (w - 1) (by omega) (by omega) (by omega)
        dsimp only at h3
        obtain ⟨K4, h4⟩ := implWin_l0 l hgo.2 w.toNat (by omega) p hp1 p 0 [] (by omega) (by simp)
        have h4 : ∀ k, K4 ≤ k → impl_windowsOf.l0 k l (w.toNat : Nat) (cw l w.toNat 0) [] p 0 = _ := h4
        rw [hw] at h4
        have e : ((leftsTo l 0 (w - 1)).length : Int) = cw l w.toNat 0 := by
          unfold leftsTo cw
          rw [show (w - 1 + 1 - 0).toNat = w.toNat by omega]
        have c1 : ¬ w < 0 := by omega
        have c2 : ¬ w > 200 := by omega
        refine Ev.mk' (K1 + K2 + K3 + K4) fun k hk => ?_
        simp (disch := omega) only [impl_windowsOf.f, h1, obind, hg, if_true, if_neg c1]
        simp (disch := omega) only [impl_windowsOf.j0, c2, decide_false, Bool.false_eq_true, if_false, h2, obind]
        rw [wrap_id (by omega) (by omega), h3 k (by omega), obind, e, h4 k (by omega)]
        rfl
    · rw [if_neg (by simp [hg]; omega)]
      refine Ev.mk' K1 fun k hk => ?_
      simp (disch := omega) only [impl_windowsOf.f, h1, obind, hg, if_true]
      by_cases c1 : w < 0
      · simp [c1, impl_windowsOf.j0]
      · have c2 : w > 200 := by omega
        simp [c1, c2, impl_windowsOf.j0]
  · rw [if_neg (by simp [hg])]
    refine Ev.mk' K1 fun k hk => ?_
    simp (disch := omega) only [impl_windowsOf.f, h1, obind, hg]
    simp [impl_windowsOf.j0]
theorem cws_max (l : List SRule) (p : Nat) (hp : period l = some p) (w : Nat) : ∃ t, cws l w 0 p = cw l w 0 :: t ∧ maxFrom (cw l w 0) (cws l w 1 p) = maxFrom (cw l w 0) t ∧ minFrom (cw l w 0) (cws l w 1 p) = minFrom (cw l w 0) t := by
  obtain ⟨-, hp0, -⟩ := period_some hp
  obtain ⟨q, rfl⟩ : ∃ q, p = q + 1 := ⟨p - 1, by omega⟩
  refine ⟨cws l w 1 q, rfl, ?_, ?_⟩
  · rw [cws_snoc, maxFrom_snoc]
    have : cw l w (1 + (q : Int)) = cw l w 0 := by
      have := cw_period l (q + 1) hp w 0
      rw [← this]; congr 1; omega
    rw [this]
    have := maxFrom_ge' (cws l w 1 q) (cw l w 0)
    unfold mx; split <;> omega
  · rw [cws_snoc, minFrom_snoc]
    have : cw l w (1 + (q : Int)) = cw l w 0 := by
      have := cw_period l (q + 1) hp w 0
      rw [← this]; congr 1; omega
    rw [this]
    have := minFrom_le' (cws l w 1 q) (cw l w 0)
    unfold mn; split <;> omega
def vMost (l : List SRule) (w : Int) : Int × Bool := ((vWin l w).1, (vWin l w).2.2)
def vLeast (l : List SRule) (w : Int) : Int × Bool := ((vWin l w).2.1, (vWin l w).2.2)
theorem MostInWindow_main (l : List SRule) (w : Int) : Ev (fun k => spec_MostInWindow.f k l w) (vMost l w) ∧ Ev (fun k => impl_MostInWindow.f k l w) (vMost l w) := by
  obtain ⟨K1, h1⟩ := gpWindows_ev l w
  obtain ⟨K2, h2⟩ := windowsOf_ev l w
  dsimp only at h1 h2
  constructor
  · refine ⟨K1, fun k hk => ?_⟩
    simp (disch := omega) only [spec_MostInWindow.f, h1, obind, vMost]
  · refine ⟨K2, fun k hk => ?_⟩
    simp (disch := omega) only [impl_MostInWindow.f, h2, obind, vMost, vWin]
    by_cases hg : (pgaps l).2.2 = true ∧ 0 ≤ w ∧ w ≤ 200
    · simp only [if_pos hg]
      cases hp : period l with
      | none => simp [pgaps, hp] at hg
      | some p =>
        obtain ⟨t, e, e1, -⟩ := cws_max l p hp w.toNat
        simp only [Option.getD_some, e, slices_Max_int_int.f, obind, if_true, e1]
    · simp only [if_neg hg]; simp
theorem LeastInWindow_main (l : List SRule) (w : Int) : Ev (fun k => spec_LeastInWindow.f k l w) (vLeast l w) ∧ Ev (fun k => impl_LeastInWindow.f k l w) (vLeast l w) := by
  obtain ⟨K1, h1⟩ := gpWindows_ev l w
  obtain ⟨K2, h2⟩ := windowsOf_ev l w
  dsimp only at h1 h2
  constructor
  · refine ⟨K1, fun k hk => ?_⟩
    simp (disch := omega) only [spec_LeastInWindow.f, h1, obind, vLeast]
  · refine ⟨K2, fun k hk => ?_⟩
    simp (disch := omega) only [impl_LeastInWindow.f, h2, obind, vLeast, vWin]
    by_cases hg : (pgaps l).2.2 = true ∧ 0 ≤ w ∧ w ≤ 200
    · simp only [if_pos hg]
      cases hp : period l with
      | none => simp [pgaps, hp] at hg
      | some p =>
        obtain ⟨t, e, -, e1⟩ := cws_max l p hp w.toNat
        simp only [Option.getD_some, e, slices_Min_int_int.f, obind, if_true, e1]
    · simp only [if_neg hg]; simp
end Go.Proofs.Ytdcijdeiaefjpaa.P
namespace Go.Proofs.Ytdcijdeiaefjpaa.P
open Go.RowKit Go.Proofs.YtdcijdeiaefjpaaW.PrintWords Go.Proofs.YtdcijdeiaefjpaaW.PrintLast
set_option linter.unusedVariables false
set_option linter.unusedSimpArgs false
theorem countGaps_l0_same : ∀ (k : Nat) (a b : Int) (l : List Int) (n i : Int), impl_CountGaps.l0 k a b l n i = spec_CountGaps.l0 k a b l n i
  | 0, _, _, _, _, _ => rfl
  | k + 1, a, b, l, n, i => by simp only [impl_CountGaps.l0, spec_CountGaps.l0, countGaps_l0_same k]
def countI (g : Int) : List Int → Int
  | [] => 0
  | x :: t => (if x = g then 1 else 0) + countI g t
theorem countI_bound (g : Int) : ∀ l : List Int, 0 ≤ countI g l ∧ countI g l ≤ l.length
  | [] => by simp [countI]
  | x :: t => by
    have := countI_bound g t
    simp only [countI, List.length_cons]
    split <;> omega
theorem countGaps_l0 (l : List Int) (hm : l.length ≤ 4611686018427387904) (g : Int) : ∀ (d i : Nat) (c : Int), i + d = l.length → 0 ≤ c → c ≤ i → Ev (fun k => spec_CountGaps.l0 k g c l l.length i) (c + countI g (l.drop i), true)
  | 0, i, c, h, h0, h1 => Ev.mk' 0 fun k _ => by
    simp only [spec_CountGaps.l0]
    rw [if_neg (by omega), List.drop_eq_nil_of_le (by omega)]; simp [countI]
  | d + 1, i, c, h, h0, h1 => by
    rw [rd_dropG l i (by omega), countI]
    by_cases hc : rd l i = g
    · obtain ⟨K, ih⟩ := countGaps_l0 l hm g d (i + 1) (c + 1) (by omega) (by omega) (by omega)
      dsimp only at ih
      refine Ev.mk' K fun k hk => ?_
      simp only [spec_CountGaps.l0]
      rw [if_pos (by omega), if_pos (by omega), if_pos (by omega), if_pos hc, if_pos hc]
      rw [show wrap64 ((i : Int) + 1) = ((i + 1 : Nat) : Int) from wrap_id (by omega) (by omega), show wrap64 (c + 1) = c + 1 from wrap_id (by omega) (by omega), ih k hk]
      congr 2; omega
    · obtain ⟨K, ih⟩ := countGaps_l0 l hm g d (i + 1) c (by omega) (by omega) (by omega)
      dsimp only at ih
      refine Ev.mk' K fun k hk => ?_
      simp only [spec_CountGaps.l0]
      rw [if_pos (by omega), if_pos (by omega), if_pos (by omega), if_neg hc, if_neg hc]
      rw [show wrap64 ((i : Int) + 1) = ((i + 1 : Nat) : Int) from wrap_id (by omega) (by omega), ih k hk]
      congr 2; omega
theorem pgaps_len (l : List SRule) : (pgaps l).1.length ≤ 100000 ∧ (pgaps l).2.1.length ≤ 100000 := by
  unfold pgaps
  cases hp : period l with
  | none => simp
  | some p =>
    obtain ⟨hg, hp0, hp1⟩ := period_some hp
    have hl := perL_length l p
    by_cases he : perL l p = []
    · simp [he]
    · simp only [he, if_false, gapsL_length]
      simp [perL1]; omega
def vCountGaps (l : List SRule) (g : Int) : Int × Bool := if (pgaps l).2.2 = true ∧ 1 ≤ g then (countI g (pgaps l).2.1, true) else (0, false)
theorem CountGaps_main (l : List SRule) (g : Int) : Ev (fun k => spec_CountGaps.f k l g) (vCountGaps l g) ∧ Ev (fun k => impl_CountGaps.f k l g) (vCountGaps l g) := by
  obtain ⟨K1, h1⟩ := gpGaps_ev l
  obtain ⟨K2, h2⟩ := periodGaps_ev l
  obtain ⟨K3, h3⟩ := countGaps_l0 (pgaps l).2.1 (by have := (pgaps_len l).2; omega) g (pgaps l).2.1.length 0 0 (by omega) (by omega) (by omega)
  have h3 : ∀ k, K3 ≤ k → spec_CountGaps.l0 k g 0 (pgaps l).2.1 (pgaps l).2.1.length 0 = _ := h3
  dsimp only at h1 h2
  rw [List.drop_zero] at h3
  unfold vCountGaps
  constructor
  · refine Ev.mk' (K1 + K3) fun k hk => ?_
    simp (disch := omega) only [spec_CountGaps.f, h1, obind, gpG, spec_CountGaps.j0, h3]
    by_cases hc : g < 1
    · have : ¬ 1 ≤ g := by omega
      simp [hc, this]
    · have : 1 ≤ g := by omega
      cases (pgaps l).2.2 <;> simp [hc, this]
  · refine Ev.mk' (K2 + K3) fun k hk => ?_
    simp (disch := omega) only [impl_CountGaps.f, h2, obind, impl_CountGaps.j0, countGaps_l0_same, h3]
    by_cases hc : g < 1
    · have : ¬ 1 ≤ g := by omega
      simp [hc, this]
    · have : 1 ≤ g := by omega
      cases (pgaps l).2.2 <;> simp [hc, this]
end Go.Proofs.Ytdcijdeiaefjpaa.P
namespace Go.Proofs.Ytdcijdeiaefjpaa.P
open Go.RowKit Go.Proofs.YtdcijdeiaefjpaaW.PrintWords Go.Proofs.YtdcijdeiaefjpaaW.PrintLast
set_option linter.unusedVariables false
set_option linter.unusedSimpArgs false
theorem dif_gaps2 : ∀ (t : List Int) (x : Int), (∀ y ∈ x :: t, 0 ≤ y ∧ y ≤ 1000000) → dif x t = gaps x t
  | [], x, _ => rfl
  | y :: t, x, h => by
    have h1 := h x List.mem_cons_self
    have h2 := h y (List.mem_cons_of_mem _ List.mem_cons_self)
    simp only [dif, gaps]
    rw [wrap_id (by omega) (by omega), dif_gaps2 t y (fun z hz => h z (List.mem_cons_of_mem _ hz))]
theorem per_chain {l : List SRule} {p : Nat} (hp : period l = some p) {x : Int} {t : List Int} (hL : perL l p = x :: t) :
    GapOk l x (t ++ [x + p]) ∧ (∀ y ∈ x :: t, left l y = true ∧ 0 ≤ y ∧ y < p) ∧ gapsL (perL1 l p) = gaps x (t ++ [x + (p : Int)]) ∧ (∀ z, 0 ≤ z → z < x → left l z = false) := by
  obtain ⟨-, hp0, hp1⟩ := period_some hp
  have hper := period_left hp
  have hL2 : lefts l 0 p = x :: t := by
    have h_ := hL
    unfold perL leftsTo at h_
    rwa [show ((p : Int) - 1 + 1 - 0).toNat = p by omega] at h_
  obtain ⟨h1, h2, h3, h4, h5, h6, h7, h8⟩ := lefts_shape l p 0 x t hL2
  have hall := gapOk_left l p 0
  rw [hL2] at hall
  have hg : GapOk l x (t ++ [x + p]) := gapOk_snoc l (x + p) t x h5 (by omega) (fun z z1 z2 => by
    by_cases c : z < p
    · exact h8 z z1 (by omega)
    · have := hper (z - p)
      rw [show z - (p : Int) + p = z by omega] at this
      rw [this]
      exact h4 (z - p) (by omega) (by omega))
  have hb : ∀ y ∈ x :: t, 0 ≤ y ∧ y < p := fun y hy => by
    have := lefts_ge l p 0 y (by rw [hL2]; exact hy)
    omega
  refine ⟨hg, fun y hy => ⟨hall y hy, hb y hy⟩, ?_, fun z hz hz2 => h4 z hz hz2⟩
  unfold gapsL perL1
  rw [hL]
  have hx := hb x List.mem_cons_self
  simp only [List.cons_append, List.drop_succ_cons, List.drop_zero, rd, Int.toNat_zero, List.getD_cons_zero]
  rw [wrap_id (by omega) (by omega)]
  refine dif_gaps2 _ x fun y hy => ?_
  simp only [List.mem_cons, List.mem_append, List.not_mem_nil, or_false] at hy
  rcases hy with rfl | hy | rfl
  · omega
  · have := hb y (List.mem_cons_of_mem _ hy); omega
  · omega
theorem pgaps_true {l : List SRule} (h : (pgaps l).2.2 = true) : ∃ p x t, period l = some p ∧ perL l p = x :: t ∧ (pgaps l).1 = x :: t ∧ (pgaps l).2.1 = gaps x (t ++ [x + (p : Int)]) := by
  unfold pgaps at h ⊢
  cases hp : period l with
  | none => rw [hp] at h; exact absurd h (by simp)
  | some p =>
    rw [hp] at h
    by_cases he : perL l p = []
    · simp only [if_pos he] at h; exact absurd h (by simp)
    · cases hL : perL l p with
      | nil => exact absurd hL he
      | cons x t =>
        refine ⟨p, x, t, rfl, hL, ?_, ?_⟩
        · simp [hL]
        · simp only []
          rw [if_neg (by simp [hL])]
          exact (per_chain hp hL).2.2.1
theorem gaps_length : ∀ (t : List Int) (x : Int), (gaps x t).length = t.length
  | [], _ => rfl
  | y :: t, x => by simp [gaps, gaps_length t y]
def sumI : List Int → Int
  | [] => 0
  | x :: t => x + sumI t
theorem gaps_sum : ∀ (t : List Int) (x : Int), sumI (gaps x t) = lastOf x t - x
  | [], x => by simp [gaps, sumI, lastOf]
  | y :: t, x => by simp only [gaps, sumI, lastOf, gaps_sum t y]; omega
theorem sumI_bound : ∀ (l : List Int), (∀ y ∈ l, 0 ≤ y ∧ y ≤ 1000000) → 0 ≤ sumI l ∧ sumI l ≤ 1000000 * l.length
  | [], _ => by simp [sumI]
  | x :: t, h => by
    have h1 := sumI_bound t (fun y hy => h y (List.mem_cons_of_mem _ hy))
    have h2 := h x List.mem_cons_self
    simp only [sumI, List.length_cons]; omega
theorem tSum_l0 (l : List Int) (hl : l.length ≤ 1000000) (hb : ∀ y ∈ l, 0 ≤ y ∧ y ≤ 1000000) : ∀ (d i : Nat) (a : Int), i + d = l.length → 0 ≤ a → a ≤ 1000000 * i → Ev (fun k => laws_tSum.l0 k a l l.length i) (a + sumI (l.drop i))
  | 0, i, a, h, h0, h1 => by
    refine Ev.mk' 0 fun k _ => ?_
    simp only [laws_tSum.l0]
    rw [if_neg (by omega), List.drop_eq_nil_of_le (by omega)]
    simp [sumI]
  | d + 1, i, a, h, h0, h1 => by
    have hm := hb (rd l i) (rd_memI l i (by omega))
    obtain ⟨K, ih⟩ := tSum_l0 l hl hb d (i + 1) (a + rd l i) (by omega) (by omega) (by omega)
    dsimp only at ih
    refine Ev.mk' K fun k hk => ?_
    simp only [laws_tSum.l0]
    rw [if_pos (by omega), if_pos (by omega), if_pos (by omega), wrap_id (n := a + rd l i) (by omega) (by omega), show wrap64 ((i : Int) + 1) = ((i + 1 : Nat) : Int) from wrap_id (by omega) (by omega), ih k hk, rd_dropG l i (by omega)]
    simp only [sumI]; congr 1; omega
theorem tSum_ev (l : List Int) (hl : l.length ≤ 1000000) (hb : ∀ y ∈ l, 0 ≤ y ∧ y ≤ 1000000) : Ev (fun k => laws_tSum.f k l) (sumI l) := by
  obtain ⟨K, h⟩ := tSum_l0 l hl hb l.length 0 0 (by omega) (by omega) (by omega)
  dsimp only at h
  refine ⟨K, fun k hk => ?_⟩
  have := h k hk
  simp only [List.drop_zero, Int.zero_add] at this
  exact this
theorem tHas_l0 (l : List Int) (hl : l.length ≤ 1000000) (n : Int) : ∀ (d i : Nat), i + d = l.length → Ev (fun k => laws_tHas.l0 k n l l.length i) ((l.drop i).any (· == n))
  | 0, i, h => by
    refine Ev.mk' 0 fun k _ => ?_
    simp only [laws_tHas.l0]
    rw [if_neg (by omega), List.drop_eq_nil_of_le (by omega)]
    rfl
  | d + 1, i, h => by
    obtain ⟨K, ih⟩ := tHas_l0 l hl n d (i + 1) (by omega)
    dsimp only at ih
    refine Ev.mk' K fun k hk => ?_
    simp only [laws_tHas.l0]
    rw [if_pos (by omega), if_pos (by omega), if_pos (by omega), show wrap64 ((i : Int) + 1) = ((i + 1 : Nat) : Int) from wrap_id (by omega) (by omega), rd_dropG l i (by omega), List.any_cons]
    by_cases c : rd l i = n
    · rw [if_pos c, c]; simp
    · rw [if_neg c, ih k hk, show (rd l i == n) = false from beq_eq_false_iff_ne.2 c]; simp
theorem tHas_ev (l : List Int) (hl : l.length ≤ 1000000) (n : Int) : Ev (fun k => laws_tHas.f k l n) (l.any (· == n)) := by
  obtain ⟨K, h⟩ := tHas_l0 l hl n l.length 0 (by omega)
  dsimp only at h
  refine ⟨K, fun k hk => ?_⟩
  have := h k hk
  rw [List.drop_zero] at this
  exact this
theorem any_mem {l : List Int} {n : Int} (h : n ∈ l) : l.any (· == n) = true := List.any_eq_true.2 ⟨n, h, by simp⟩
theorem left_count {l : List SRule} {p : Nat} (hp : period l = some p) : (leftsTo l 1 (p : Int)).length = (perL l p).length := by
  unfold perL leftsTo
  rw [show ((p : Int) + 1 - 1).toNat = p by omega, show ((p : Int) - 1 + 1 - 0).toNat = p by omega]
  obtain ⟨-, hp0, -⟩ := period_some hp
  have hper := period_left hp 0
  obtain ⟨q, rfl⟩ : ∃ q, p = q + 1 := ⟨p - 1, by omega⟩
  have e : ∀ (m : Nat) (i : Int), (lefts l i (m + 1)).length = (lefts l i m).length + (if left l (i + m) = true then 1 else 0) := by
    intro m
    induction m with
    | zero => intro i; simp [lefts]; split <;> simp_all
    | succ m ih =>
      intro i
      rw [show lefts l i (m + 1 + 1) = (if left l i = true then [i] else []) ++ lefts l (i + 1) (m + 1) from rfl, show lefts l i (m + 1) = (if left l i = true then [i] else []) ++ lefts l (i + 1) m from rfl, List.length_append, List.length_append, ih (i + 1), show i + 1 + (m : Int) = i + ((m + 1 : Nat) : Int) by omega]
      omega
  rw [e q 1, show lefts l 0 (q + 1) = (if left l 0 = true then [(0 : Int)] else []) ++ lefts l (0 + 1) q from rfl, List.length_append]
  rw [show (1 : Int) + (q : Int) = 0 + ((q + 1 : Nat) : Int) by omega, hper]
  rw [show (0 : Int) + 1 = 1 by omega]
  split <;> simp <;> omega
theorem LeftInPeriod_ev (l : List SRule) {p : Nat} (hp : period l = some p) : Ev (fun k => impl_LeftInPeriod.f k l) (((leftsTo l 1 (p : Int)).length : Int), true) := by
  obtain ⟨hg, hp0, hp1⟩ := period_some hp
  obtain ⟨K1, h1⟩ := periodOf_ev l
  dsimp only at h1
  rw [hp] at h1
  obtain ⟨K2, h2⟩ := leftBetween_ev l (good_all hg).2 1 (p : Int) (by omega) (by omega) (by omega)
  dsimp only at h2
  refine ⟨K1 + K2, fun k hk => ?_⟩
  simp (disch := omega) only [impl_LeftInPeriod.f, h1, h2, Option.bind_some, if_true]
theorem PeriodOfRules_ev (l : List SRule) {p : Nat} (hp : period l = some p) : Ev (fun k => impl_PeriodOfRules.f k l) ((p : Int), true) := by
  obtain ⟨K1, h1⟩ := periodOf_ev l
  dsimp only at h1
  rw [hp] at h1
  refine ⟨K1, fun k hk => ?_⟩
  simp (disch := omega) only [impl_PeriodOfRules.f, h1, Option.bind_some]
end Go.Proofs.Ytdcijdeiaefjpaa.P
namespace Go.Proofs.Ytdcijdeiaefjpaa.P
open Go.RowKit Go.Proofs.YtdcijdeiaefjpaaW.PrintWords Go.Proofs.YtdcijdeiaefjpaaW.PrintLast
set_option linter.unusedVariables false
set_option linter.unusedSimpArgs false
theorem cws_in (l : List SRule) (w : Nat) : ∀ (m : Nat) (n : Int) (j : Nat), j < m → cw l w (n + j) ∈ cws l w n m
  | 0, _, _, h => absurd h (Nat.not_lt_zero _)
  | m + 1, n, 0, _ => by simp [cws]
  | m + 1, n, j + 1, h => by
    simp only [cws]
    refine List.mem_cons_of_mem _ ?_
    have := cws_in l w m (n + 1) j (by omega)
    rwa [show n + 1 + (j : Int) = n + ((j + 1 : Nat) : Int) by omega] at this
theorem in_cws (l : List SRule) (w : Nat) : ∀ (m : Nat) (n : Int) (y : Int), y ∈ cws l w n m → ∃ z, y = cw l w z
  | 0, _, y, h => by simp [cws] at h
  | m + 1, n, y, h => by
    simp only [cws, List.mem_cons] at h
    rcases h with rfl | h
    · exact ⟨n, rfl⟩
    · exact in_cws l w m (n + 1) y h
theorem minFrom_all : ∀ (t : List Int) (m : Int), ∀ y ∈ m :: t, minFrom m t ≤ y
  | [], m, y, h => by simp at h; subst h; simp [minFrom]
  | x :: t, m, y, h => by
    have h0 := minFrom_le' t (mn m x)
    simp only [List.mem_cons] at h
    have e : minFrom m (x :: t) = minFrom (mn m x) t := rfl
    rw [e]
    have hm : mn m x ≤ m ∧ mn m x ≤ x := by unfold mn; split <;> omega
    rcases h with rfl | rfl | h
    · omega
    · omega
    · exact minFrom_all t (mn m x) y (List.mem_cons_of_mem _ h)
theorem minFrom_mem : ∀ (t : List Int) (m : Int), minFrom m t ∈ m :: t
  | [], m => by simp [minFrom]
  | x :: t, m => by
    have h := minFrom_mem t (mn m x)
    have e : minFrom m (x :: t) = minFrom (mn m x) t := rfl
    rw [e]
    simp only [List.mem_cons] at h ⊢
    rcases h with h | h
    · rw [h]; unfold mn; split <;> simp
    · exact .inr (.inr h)
theorem cw_shift {l : List SRule} {p : Nat} (hp : period l = some p) (w : Nat) : ∀ (k : Nat) (n : Int), cw l w (n + k * p) = cw l w n
  | 0, n => by simp
  | k + 1, n => by
    have := cw_shift hp w k (n + p)
    rw [cw_period l p hp w n] at this
    rw [← this, Int.natCast_succ, Int.add_mul, Int.one_mul]
    congr 1; omega
theorem cw_any {l : List SRule} {p : Nat} (hp : period l = some p) (w : Nat) (n : Int) : ∃ j : Nat, j < p ∧ cw l w n = cw l w j := by
  obtain ⟨-, hp0, -⟩ := period_some hp
  have hd := Int.emod_add_mul_ediv n p
  have hm0 := Int.emod_nonneg n (show (p : Int) ≠ 0 by omega)
  have hm1 := Int.emod_lt_of_pos n (show (0 : Int) < p by omega)
  refine ⟨(n % p).toNat, by omega, ?_⟩
  rw [show (((n % (p : Int)).toNat : Nat) : Int) = n % p by omega]
  have e : (p : Int) * (n / p) = n / p * p := Int.mul_comm _ _
  by_cases h : 0 ≤ n / (p : Int)
  · have := cw_shift hp w (n / (p : Int)).toNat (n % p)
    rw [show (((n / (p : Int)).toNat : Nat) : Int) = n / p by omega] at this
    rw [← this]; congr 1; omega
  · have := cw_shift hp w (-(n / (p : Int))).toNat n
    rw [show (((-(n / (p : Int))).toNat : Nat) : Int) = -(n / p) by omega, Int.neg_mul] at this
    rw [← this]; congr 1; omega
theorem win_all {l : List SRule} {p : Nat} (hp : period l = some p) (w : Nat) :
    (∀ n, minFrom (cw l w 0) (cws l w 1 p) ≤ cw l w n ∧ cw l w n ≤ maxFrom (cw l w 0) (cws l w 1 p)) ∧ (∃ n, minFrom (cw l w 0) (cws l w 1 p) = cw l w n) ∧ ∃ n, maxFrom (cw l w 0) (cws l w 1 p) = cw l w n := by
  have hmem : ∀ n, cw l w n ∈ cw l w 0 :: cws l w 1 p := by
    intro n
    obtain ⟨j, hj, e⟩ := cw_any hp w n
    rw [e]
    rcases Nat.eq_zero_or_pos j with rfl | h0
    · simp
    · refine List.mem_cons_of_mem _ ?_
      have := cws_in l w p 1 (j - 1) (by omega)
      rwa [show (1 : Int) + ((j - 1 : Nat) : Int) = (j : Int) by omega] at this
  have hex : ∀ y, y ∈ cw l w 0 :: cws l w 1 p → ∃ n, y = cw l w n := by
    intro y hy
    rcases List.mem_cons.1 hy with rfl | hy
    · exact ⟨0, rfl⟩
    · exact in_cws l w p 1 y hy
  exact ⟨fun n => ⟨minFrom_all _ _ _ (hmem n), maxFrom_all _ _ _ (hmem n)⟩, hex _ (minFrom_mem _ _), hex _ (maxFrom_mem _ _)⟩
theorem cw_zero (l : List SRule) (w : Nat) (n : Int) : cw l w n = 0 ↔ ∀ j : Nat, j < w → left l (n + j) = false := by
  rw [← lefts_nil l w n]
  unfold cw
  omega
theorem cw_full (l : List SRule) : ∀ (w : Nat) (n : Int), cw l w n = w ↔ ∀ j : Nat, j < w → left l (n + j) = true
  | 0, n => by simp [cw, lefts]
  | w + 1, n => by
    have ih := cw_full l w (n + 1)
    have hb := (cw_bound l w (n + 1)).2
    have e : cw l (w + 1) n = (if left l n = true then 1 else 0) + cw l w (n + 1) := by
      unfold cw
      rw [show lefts l n (w + 1) = (if left l n = true then [n] else []) ++ lefts l (n + 1) w from rfl, List.length_append]
      split <;> simp <;> omega
    rw [e]
    constructor
    · intro h j hj
      by_cases c : left l n = true
      · rw [if_pos c] at h
        cases j with
        | zero => rw [Int.natCast_zero, Int.add_zero]; exact c
        | succ j =>
          have := ih.1 (by omega) j (by omega)
          rwa [show n + 1 + (j : Int) = n + ((j + 1 : Nat) : Int) by omega] at this
      · rw [if_neg c] at h; exfalso; omega
    · intro h
      have h0 := h 0 (by omega)
      rw [Int.natCast_zero, Int.add_zero] at h0
      rw [if_pos h0]
      have := ih.2 (fun j hj => by
        have := h (j + 1) (by omega)
        rwa [show n + ((j + 1 : Nat) : Int) = n + 1 + (j : Int) by omega] at this)
      omega
theorem gaps_all_left {l : List SRule} {x : Int} {t : List Int} {p : Nat} (hper : ∀ z, left l (z + p) = left l z) (hall : ∀ y ∈ x :: t, left l y = true ∧ 0 ≤ y ∧ y < p) : ∀ y ∈ t ++ [x + (p : Int)], left l y = true := by
  intro y hy
  rcases List.mem_append.1 hy with hy | hy
  · exact (hall y (List.mem_cons_of_mem _ hy)).1
  · obtain rfl := List.mem_singleton.1 hy
    rw [hper]; exact (hall x List.mem_cons_self).1
theorem least_gap {l : List SRule} {p : Nat} (hp : period l = some p) {x : Int} {t : List Int} (hL : perL l p = x :: t) (g : Nat) (hg : (g : Int) ∈ gaps x (t ++ [x + (p : Int)])) (hmax : ∀ y ∈ gaps x (t ++ [x + (p : Int)]), y ≤ (g : Int)) :
    minFrom (cw l (g - 1) 0) (cws l (g - 1) 1 p) = 0 ∧ 1 ≤ minFrom (cw l g 0) (cws l g 1 p) := by
  have hp0 := (period_some hp).2.1
  obtain ⟨h1, h2⟩ := run_max hp0 (period_left hp) hL
  constructor
  · obtain ⟨hg1, a, ha⟩ := h1 g hg
    obtain ⟨w1, ⟨n, hn⟩, -⟩ := win_all hp (g - 1)
    have hz : cw l (g - 1) (a + 1) = 0 := (cw_zero l (g - 1) (a + 1)).2 fun j hj => by
      have := ha (1 + j) (by omega) (by omega)
      rwa [show a + (1 + (j : Int)) = a + 1 + j by omega] at this
    have := (w1 (a + 1)).1
    have := (cw_bound l (g - 1) n).1
    omega
  · obtain ⟨-, ⟨n, hn⟩, -⟩ := win_all hp g
    have hb := (cw_bound l g n).1
    by_cases c : cw l g n = 0
    · exfalso
      have hz := (cw_zero l g n).1 c
      have hg1 := (h1 g hg).1
      obtain ⟨y, hy, hy2⟩ := h2 (n - 1) g (by omega) (fun j j1 j2 => by
        have := hz (j - 1) (by omega)
        rwa [show n + ((j - 1 : Nat) : Int) = n - 1 + (j : Int) by omega] at this)
      have := hmax y hy
      omega
    · omega
theorem mx_ge (a b : Int) : a ≤ mx a b ∧ b ≤ mx a b := by unfold mx; split <;> omega
theorem mx_or (a b : Int) : mx a b = a ∨ mx a b = b := by unfold mx; split <;> simp
theorem runs_ge : ∀ (G : List Int) (m r : Int), m ≤ runs m r G
  | [], m, r => by simp [runs]
  | g :: t, m, r => by
    have h := runs_ge t (mx m (if g = 1 then r + 1 else 1)) (if g = 1 then r + 1 else 1)
    have := (mx_ge m (if g = 1 then r + 1 else 1)).1
    simp only [runs]; omega
def LRun (l : List SRule) (m : Int) : Prop := ∃ n : Int, ∀ j : Int, 0 ≤ j → j < m → left l (n + j) = true
theorem runs_valid (l : List SRule) : ∀ (S : List Int) (y m r : Int), GapOk l y S → (∀ z ∈ S, left l z = true) → (∀ j : Int, 0 ≤ j → j < r → left l (y - j) = true) → LRun l m → LRun l (runs m r (gaps y S)) ∧ ∀ j : Int, 0 ≤ j → j < (runs2 m r (gaps y S)).2 → left l (lastOf y S - j) = true
  | [], y, m, r, _, _, hr, hm => ⟨hm, hr⟩
  | y' :: S, y, m, r, hg, hS, hr, hm => by
    have hy : left l y' = true := hS y' List.mem_cons_self
    obtain ⟨r', hr'⟩ : ∃ r', r' = (if y' - y = 1 then r + 1 else 1) := ⟨_, rfl⟩
    have hv : ∀ j : Int, 0 ≤ j → j < r' → left l (y' - j) = true := by
      intro j j0 j1
      by_cases c : y' - y = 1
      · rw [if_pos c] at hr'
        rcases Int.lt_or_le 0 j with h | h
        · have := hr (j - 1) (by omega) (by omega)
          rwa [show y - (j - 1) = y' - j by omega] at this
        · rw [show y' - j = y' by omega]; exact hy
      · rw [if_neg c] at hr'
        rw [show y' - j = y' by omega]; exact hy
    have hm' : LRun l (mx m r') := by
      rcases mx_or m r' with e | e
      · rw [e]; exact hm
      · rw [e]
        refine ⟨y' - (r' - 1), fun j j0 j1 => ?_⟩
        have := hv (r' - 1 - j) (by omega) (by omega)
        rwa [show y' - (r' - 1 - j) = y' - (r' - 1) + j by omega] at this
    have ih := runs_valid l S y' (mx m r') r' hg.2.2 (fun z hz => hS z (List.mem_cons_of_mem _ hz)) hv hm'
    simp only [gaps, runs, runs2, lastOf]
    rw [← hr']
    exact ih
theorem runs_exact (l : List SRule) : ∀ (S : List Int) (y m r : Int), GapOk l y S → 1 ≤ r → left l (y - r) = false →
    left l (lastOf y S - (runs2 m r (gaps y S)).2) = false ∧ 1 ≤ (runs2 m r (gaps y S)).2 ∧ ∀ y' ∈ S, ∀ c : Int, 0 ≤ c → (∀ j : Int, 0 ≤ j → j ≤ c → left l (y' - j) = true) → c + 1 ≤ runs m r (gaps y S)
  | [], y, m, r, _, h1, hr => ⟨hr, h1, fun y' h => absurd h (by simp)⟩
  | z :: S, y, m, r, hg, h1, hr => by
    obtain ⟨r', hr'⟩ : ∃ r', r' = (if z - y = 1 then r + 1 else 1) := ⟨_, rfl⟩
    have hx : left l (z - r') = false := by
      by_cases c : z - y = 1
      · rw [if_pos c] at hr'
        rw [show z - r' = y - r by omega]; exact hr
      · rw [if_neg c] at hr'
        have := hg.1
        exact hg.2.1 _ (by omega) (by omega)
    have hr1 : 1 ≤ r' := by rw [hr']; split <;> omega
    obtain ⟨i1, i2, i3⟩ := runs_exact l S z (mx m r') r' hg.2.2 hr1 hx
    simp only [gaps, runs, runs2, lastOf]
    rw [← hr']
    refine ⟨i1, i2, fun y' hy' c c0 hc => ?_⟩
    rcases List.mem_cons.1 hy' with rfl | hy'
    · have h2 := runs_ge (gaps y' S) (mx m r') r'
      have h3 := (mx_ge m r').2
      by_cases e : r' ≤ c
      · have := hc r' (by omega) e
        rw [this] at hx; exact absurd hx (by decide)
      · omega
    · exact i3 y' hy' c c0 hc
theorem runs_break (l : List SRule) : ∀ (S : List Int) (y m r : Int), GapOk l y S → (∃ g ∈ gaps y S, g ≠ 1) → left l (lastOf y S - (runs2 m r (gaps y S)).2) = false ∧ 1 ≤ (runs2 m r (gaps y S)).2
  | [], y, m, r, _, h => by obtain ⟨g, hg, -⟩ := h; simp [gaps] at hg
  | z :: S, y, m, r, hg, h => by
    simp only [gaps, runs2, lastOf]
    by_cases c : z - y = 1
    · obtain ⟨g, hg1, hg2⟩ := h
      simp only [gaps, List.mem_cons] at hg1
      exact runs_break l S z _ _ hg.2.2 ⟨g, hg1.resolve_left (fun e => hg2 (e.trans c)), hg2⟩
    · rw [if_neg c]
      have := hg.1
      obtain ⟨i1, i2, -⟩ := runs_exact l S z (mx m 1) 1 hg.2.2 (Int.le_refl _) (hg.2.1 _ (by omega) (by omega))
      exact ⟨i1, i2⟩
theorem gapOk_shift {l : List SRule} {p : Nat} (hper : ∀ z, left l (z + p) = left l z) : ∀ (S : List Int) (y : Int), GapOk l y S → GapOk l (y + p) (S.map (· + (p : Int)))
  | [], _, _ => trivial
  | z :: S, y, h => by
    refine ⟨by have := h.1; show y + (p : Int) < z + p; omega, fun q h1 h2 => ?_, gapOk_shift hper S z h.2.2⟩
    have h2 : q < z + (p : Int) := h2
    have := h.2.1 (q - p) (by omega) (by omega)
    rw [← hper, show q - (p : Int) + p = q by omega] at this
    exact this
theorem gaps_shift (p : Int) : ∀ (S : List Int) (y : Int), gaps (y + p) (S.map (· + p)) = gaps y S
  | [], _ => rfl
  | z :: S, y => by simp only [List.map_cons, gaps, gaps_shift p S z]; congr 1; omega
theorem lefts_has (l : List SRule) : ∀ (m : Nat) (i z : Int), i ≤ z → z < i + m → left l z = true → z ∈ lefts l i m
  | 0, i, z, h1, h2, _ => by omega
  | m + 1, i, z, h1, h2, hz => by
    simp only [lefts, List.mem_append]
    by_cases e : z = i
    · subst e; exact .inl (by simp [hz])
    · exact .inr (lefts_has l m (i + 1) z (by omega) (by omega) hz)
theorem run_left {l : List SRule} {p : Nat} (hp : period l = some p) {x : Int} {t : List Int} (hL : perL l p = x :: t) (hne : l ≠ []) (G : List Int) (hG : G = gaps x (t ++ [x + (p : Int)])) :
    LRun l (runs 1 1 (G ++ G)) ∧ ∀ (n c : Int), 0 ≤ c → (∀ j : Int, 0 ≤ j → j ≤ c → left l (n + j) = true) → c + 1 ≤ runs 1 1 (G ++ G) := by
  subst hG
  obtain ⟨hgood, hp0, -⟩ := period_some hp
  have hper := period_left hp
  obtain ⟨hok, hall, -, -⟩ := per_chain hp hL
  have hS := gaps_all_left hper hall
  have hx := (hall x List.mem_cons_self).1
  have hok2 := gapOk_shift hper _ _ hok
  have hS2 : ∀ z ∈ (t ++ [x + (p : Int)]).map (· + (p : Int)), left l z = true := fun z hz => by
    obtain ⟨q, hq, rfl⟩ := List.mem_map.1 hz
    rw [hper]; exact hS q hq
  have hlast := lastOf_snoc (x + (p : Int)) t x
  have h1 : ∀ j : Int, 0 ≤ j → j < 1 → left l (x - j) = true := fun j j0 j1 => by rw [show x - j = x by omega]; exact hx
  have v1 := runs_valid l _ x 1 1 hok hS h1 ⟨x, fun j j0 j1 => by rw [show x + j = x by omega]; exact hx⟩
  rw [hlast] at v1
  have hb : ∃ g ∈ gaps x (t ++ [x + (p : Int)]), g ≠ 1 := by
    cases hl : l with
    | nil => exact absurd hl hne
    | cons r l2 =>
      have hr := (okRule_iff r).1 (List.all_eq_true.1 (good_all hgood).2 r (by rw [hl]; exact List.mem_cons_self))
      obtain ⟨g, hg, hg2⟩ := (run_max hp0 hper hL).2 (r.f1 - 1) 1 (Nat.le_refl _) (fun j j1 j2 => by
        obtain rfl : j = 1 := by omega
        refine (left_false l _).2 ⟨r, by rw [hl]; exact List.mem_cons_self, ?_⟩
        rw [show r.f1 - 1 + ((1 : Nat) : Int) = r.f1 by omega]
        exact Int.emod_eq_of_lt (by omega) (by omega))
      exact ⟨g, hg, by omega⟩
  obtain ⟨b1, b2⟩ := runs_break l _ x 1 1 hok hb
  rw [hlast] at b1
  rw [runs_app]
  rw [show gaps x (t ++ [x + (p : Int)]) = gaps (x + (p : Int)) ((t ++ [x + (p : Int)]).map (· + (p : Int))) from (gaps_shift _ _ _).symm] at v1 b1 b2 ⊢
  obtain ⟨V, hV⟩ : ∃ V, V = runs2 1 1 (gaps (x + (p : Int)) ((t ++ [x + (p : Int)]).map (· + (p : Int)))) := ⟨_, rfl⟩
  rw [runs_fst 1 1] at v1
  rw [← hV] at v1 b1 b2 ⊢
  refine ⟨(runs_valid l _ _ V.1 V.2 hok2 hS2 v1.2 v1.1).1, fun n c c0 hc => ?_⟩
  have e3 := (runs_exact l _ _ V.1 V.2 hok2 b2 b1).2.2
  have hY : left l (n + c) = true := hc c c0 (Int.le_refl _)
  obtain ⟨q, hq⟩ : ∃ q, q = (n + c) / (p : Int) := ⟨_, rfl⟩
  have hd := Int.emod_add_mul_ediv (n + c) p
  have hm0 := Int.emod_nonneg (n + c) (show (p : Int) ≠ 0 by omega)
  have hm1 := Int.emod_lt_of_pos (n + c) (show (0 : Int) < p by omega)
  rw [← hq] at hd
  have hqp : (p : Int) * q = q * p := Int.mul_comm _ _
  obtain ⟨z, hz⟩ : ∃ z, z = (n + c) % (p : Int) := ⟨_, rfl⟩
  rw [← hz] at hd hm0 hm1
  have hzl : left l z = true := by
    have := per_all hper q z
    rw [show z + q * (p : Int) = n + c by omega] at this
    rw [← this]; exact hY
  have hzm : z ∈ x :: t := by
    rw [← hL]
    unfold perL leftsTo
    rw [show ((p : Int) - 1 + 1 - 0).toNat = p by omega]
    exact lefts_has l p 0 z hm0 (by omega) hzl
  have key : ∀ k : Int, z + k * p ∈ (t ++ [x + (p : Int)]).map (· + (p : Int)) → c + 1 ≤ runs V.1 V.2 (gaps (x + (p : Int)) ((t ++ [x + (p : Int)]).map (· + (p : Int)))) := fun k hk => e3 _ hk c c0 fun j j0 j1 => by
    have h2 := hc (c - j) (by omega) (by omega)
    have h3 := per_all hper (k - q) (n + (c - j))
    rw [h2, Int.sub_mul] at h3
    rw [← h3]; congr 1; omega
  rcases List.mem_cons.1 hzm with e | hzt
  · refine key 2 (List.mem_map.2 ⟨x + p, by simp, by omega⟩)
  · refine key 1 (List.mem_map.2 ⟨z, List.mem_append_left _ hzt, by omega⟩)
theorem count_pairs (l : List SRule) (g : Int) (e : Int) : ∀ (t : List Int) (x : Int), (∀ y ∈ x :: t ++ [e], 0 ≤ y ∧ y ≤ 1000000) → 0 ≤ g → g ≤ 1000 → (∀ y ∈ t ++ [e], left l y = true) → countI g (gaps x (t ++ [e])) ≤ cntP l g (x :: t)
  | [], x, hb, h0, h1, hl => by
    have hx := hb x (by simp)
    simp only [List.nil_append, gaps, countI, cntP]
    rw [wrap_id (by omega) (by omega)]
    by_cases c : e - x = g
    · rw [if_pos c, if_pos (by rw [show x + g = e by omega]; exact hl e (by simp))]; omega
    · rw [if_neg c]; split <;> omega
  | y :: t, x, hb, h0, h1, hl => by
    have ih := count_pairs l g e t y (fun z hz => hb z (by simp at hz ⊢; exact .inr hz)) h0 h1 (fun z hz => hl z (by simp at hz ⊢; exact .inr hz))
    have hx := hb x (by simp)
    rw [show cntP l g (x :: y :: t) = (if left l (wrap64 (x + g)) = true then 1 else 0) + cntP l g (y :: t) from rfl]
    simp only [List.cons_append, gaps, countI]
    rw [wrap_id (by omega) (by omega)]
    by_cases c : y - x = g
    · rw [if_pos c, if_pos (by rw [show x + g = y by omega]; exact hl y (by simp))]; omega
    · rw [if_neg c]; split <;> omega
end Go.Proofs.Ytdcijdeiaefjpaa.P
namespace Go.Proofs.Ytdcijdeiaefjpaa.P
open Go.RowKit Go.Proofs.YtdcijdeiaefjpaaW.PrintWords Go.Proofs.YtdcijdeiaefjpaaW.PrintLast
set_option linter.unusedVariables false
set_option linter.unusedSimpArgs false
def NextL (l : List SRule) (f d : Int) : Prop := 0 ≤ f ∧ f ≤ 600 ∧ 1 ≤ d ∧ d ≤ 600 ∧ (∀ z, f < z → z < f + d → left l z = false) ∧ left l (f + d) = true
def RowsOk (l : List SRule) (N D : List Int) : Int → List (List Int) → Prop
  | _, [] => True
  | b, r :: R => ∃ f d, r = [f, d] ∧ f ∈ N ∧ d ∈ D ∧ b < d ∧ NextL l f d ∧ RowsOk l N D d R
def lastB : Int → List (List Int) → Int
  | b, [] => b
  | _, r :: R => lastB (rd r 1) R
theorem rec_ok (l : List SRule) (N D : List Int) : ∀ (t : List Int) (x b : Int), GapOk l x t → (∀ y ∈ t, left l y = true) → (∀ y ∈ x :: t, 0 ≤ y ∧ y ≤ 600) → (∀ y ∈ x :: t, y ∈ N) → (∀ g ∈ gaps x t, g ∈ D) →
    RowsOk l N D b (recZ (frm x t) (gaps x t) b) ∧ b ≤ lastB b (recZ (frm x t) (gaps x t) b) ∧ ∀ g ∈ gaps x t, g ≤ lastB b (recZ (frm x t) (gaps x t) b)
  | [], x, b, _, _, _, _, _ => by simp [frm, gaps, recZ, RowsOk, lastB]
  | y :: t, x, b, hg, hl, hb, hN, hD => by
    have hx := hb x List.mem_cons_self
    have hy := hb y (List.mem_cons_of_mem _ List.mem_cons_self)
    have hg1 := hg.1
    simp only [frm, gaps, recZ]
    have rest : ∀ c, RowsOk l N D c (recZ (frm y t) (gaps y t) c) ∧ c ≤ lastB c (recZ (frm y t) (gaps y t) c) ∧ ∀ g ∈ gaps y t, g ≤ lastB c (recZ (frm y t) (gaps y t) c) := fun c =>
      rec_ok l N D t y c hg.2.2 (fun z hz => hl z (List.mem_cons_of_mem _ hz)) (fun z hz => hb z (List.mem_cons_of_mem _ hz)) (fun z hz => hN z (List.mem_cons_of_mem _ hz)) (fun g hgg => hD g (by simp [gaps, hgg]))
    by_cases c : y - x > b
    · rw [if_pos c]
      obtain ⟨r1, r2, r3⟩ := rest (y - x)
      refine ⟨⟨x, y - x, rfl, hN x List.mem_cons_self, hD _ (by simp [gaps]), c, ⟨hx.1, hx.2, by omega, by omega, fun z z1 z2 => hg.2.1 z z1 (by omega), ?_⟩, r1⟩, ?_, ?_⟩
      · rw [show x + (y - x) = y by omega]; exact hl y List.mem_cons_self
      · show b ≤ lastB (rd [x, y - x] 1) _
        rw [show rd [x, y - x] 1 = y - x from rfl]; omega
      · intro g hgg
        show g ≤ lastB (rd [x, y - x] 1) _
        rw [show rd [x, y - x] 1 = y - x from rfl]
        rcases List.mem_cons.1 hgg with rfl | hgg
        · exact r2
        · exact r3 g hgg
    · rw [if_neg c]
      obtain ⟨r1, r2, r3⟩ := rest b
      refine ⟨r1, r2, fun g hgg => ?_⟩
      rcases List.mem_cons.1 hgg with rfl | hgg
      · omega
      · exact r3 g hgg
theorem next_l0 (l : List SRule) (hl : l.all okRule = true) (f d : Int) (h : NextL l f d) : ∀ (m : Nat) (i : Int), i + m = f + d → f < i → Ev (fun k => impl_NextLeft.l0 k l f i) (f + d, true)
  | 0, i, e, h1 => by
    obtain ⟨n0, n1, n2, n3, n4, n5⟩ := h
    refine Ev.mk' 0 fun k _ => ?_
    simp only [impl_NextLeft.l0]
    rw [wrap_id (n := f + 1000) (by omega) (by omega), if_pos (by omega), isLeft_ok i l hl, obind, show i = f + d by omega, n5, if_pos rfl]
  | m + 1, i, e, h1 => by
    obtain ⟨K, ih⟩ := next_l0 l hl f d h m (i + 1) (by omega) (by omega)
    obtain ⟨n0, n1, n2, n3, n4, n5⟩ := h
    dsimp only at ih
    refine Ev.mk' K fun k hk => ?_
    simp only [impl_NextLeft.l0]
    rw [wrap_id (n := f + 1000) (by omega) (by omega), if_pos (by omega), isLeft_ok i l hl, obind, n4 i h1 (by omega), if_neg (by decide), wrap_id (by omega) (by omega), ih k hk]
theorem NextLeft_ev (l : List SRule) (hg : goodRules l = true) (f d : Int) (h : NextL l f d) : Ev (fun k => impl_NextLeft.f k l f) (f + d, true) := by
  have h' := h
  obtain ⟨n0, n1, n2, n3, n4, n5⟩ := h'
  obtain ⟨K, h2⟩ := next_l0 l (good_all hg).2 f d h (d - 1).toNat (f + 1) (by omega) (by omega)
  dsimp only at h2
  refine ⟨K + 1, fun k hk => ?_⟩
  obtain ⟨q, rfl⟩ : ∃ q, k = q + 1 := ⟨k - 1, by omega⟩
  simp only [impl_NextLeft.f, areRules_ok, hg, obind, if_true, impl_isNumber.f]
  rw [if_pos (by omega), obind, decide_eq_true (show f ≤ 600 by omega)]
  simp only [impl_NextLeft.j0, Bool.not_true, Bool.false_eq_true, if_false]
  rw [wrap_id (by omega) (by omega), h2 q (by omega)]
theorem rds_drop (R : List (List Int)) (k : Nat) (h : k < R.length) : R.drop k = rd_Ints R k :: R.drop (k + 1) := by
  rw [List.drop_eq_getElem_cons h]
  simp [rd_Ints, List.getD, h]
theorem LeftUpTo_ev (l : List SRule) (n : Int) (hg : goodRules l = true) (hn : mostOk n = true) : Ev (fun k => impl_LeftUpTo.f k l n) (leftsTo l 1 n, true) := by
  have hn' := (mostOk_iff n).1 hn
  obtain ⟨K2, h2⟩ := leftBetween_ev l (good_all hg).2 1 n (by omega) (by omega) (by omega)
  dsimp only at h2
  refine ⟨K2, fun k hk => ?_⟩
  simp (disch := omega) only [impl_LeftUpTo.f, areRules_ok, isMost_ok, hg, hn, h2, obind, if_true]
theorem tSame_l0 (l : List Int) (hl : l.length ≤ 1000000) : ∀ (d i : Nat), i + d = l.length → Ev (fun k => laws_tSame.l0 k l l l.length i) true
  | 0, i, h => Ev.mk' 0 fun k _ => by
    simp only [laws_tSame.l0]
    rw [if_neg (by omega)]
  | d + 1, i, h => by
    obtain ⟨K, ih⟩ := tSame_l0 l hl d (i + 1) (by omega)
    dsimp only at ih
    refine Ev.mk' K fun k hk => ?_
    simp only [laws_tSame.l0]
    rw [if_pos (by omega), if_pos (by omega), if_pos (by omega), if_pos (by omega), if_pos trivial, show wrap64 ((i : Int) + 1) = ((i + 1 : Nat) : Int) from wrap_id (by omega) (by omega), ih k hk]
theorem tSame_ev (l : List Int) (hl : l.length ≤ 1000000) : Ev (fun k => laws_tSame.f k l l) true := by
  obtain ⟨K, h⟩ := tSame_l0 l hl l.length 0 (by omega)
  dsimp only at h
  refine ⟨K, fun k hk => ?_⟩
  simp only [laws_tSame.f]
  rw [if_pos trivial]; exact h k hk
theorem tRows_l0 (R : List (List Int)) (hl : R.length ≤ 1000000) (hr : ∀ r ∈ R, r.length ≤ 1000000) : ∀ (d i : Nat), i + d = R.length → Ev (fun k => laws_tRows.l0 k R R R.length i) true
  | 0, i, h => Ev.mk' 0 fun k _ => by
    simp only [laws_tRows.l0]
    rw [if_neg (by omega)]
  | d + 1, i, h => by
    obtain ⟨K, ih⟩ := tRows_l0 R hl hr d (i + 1) (by omega)
    have hm : rd_Ints R i ∈ R := by rw [show rd_Ints R i = R[i] by simp [rd_Ints, List.getD, show i < R.length by omega]]; exact List.getElem_mem _
    obtain ⟨K2, h2⟩ := tSame_ev (rd_Ints R i) (hr _ hm)
    dsimp only at ih h2
    refine Ev.mk' (K + K2) fun k hk => ?_
    simp only [laws_tRows.l0]
    rw [if_pos (by omega), if_pos (by omega), if_pos (by omega), if_pos (by omega), h2 k (by omega), obind, if_pos rfl, show wrap64 ((i : Int) + 1) = ((i + 1 : Nat) : Int) from wrap_id (by omega) (by omega), ih k (by omega)]
theorem tRows_ev (R : List (List Int)) (hl : R.length ≤ 1000000) (hr : ∀ r ∈ R, r.length ≤ 1000000) : Ev (fun k => laws_tRows.f k R R) true := by
  obtain ⟨K, h⟩ := tRows_l0 R hl hr R.length 0 (by omega)
  dsimp only at h
  refine ⟨K, fun k hk => ?_⟩
  simp only [laws_tRows.f]
  rw [if_pos trivial]; exact h k hk
theorem recZ_rows : ∀ (F D : List Int) (b : Int), ∀ r ∈ recZ F D b, r.length = 2
  | f :: F, g :: D, b, r, h => by
    simp only [recZ] at h
    split at h
    · rcases List.mem_cons.1 h with rfl | h
      · rfl
      · exact recZ_rows F D g r h
    · exact recZ_rows F D b r h
  | [], _, _, r, h => by simp [recZ] at h
  | _ :: _, [], _, r, h => by simp [recZ] at h
end Go.Proofs.Ytdcijdeiaefjpaa.P
namespace Go.Proofs.Ytdcijdeiaefjpaa.P
open Go.RowKit Go.Proofs.YtdcijdeiaefjpaaW.PrintWords Go.Proofs.YtdcijdeiaefjpaaW.PrintLast
set_option linter.unusedVariables false
set_option linter.unusedSimpArgs false
theorem and255 (x : Int) : 0 ≤ Go.bits .and .u64 x 255 ∧ Go.bits .and .u64 x 255 ≤ 255 := by
  have h : (BitVec.ofInt IntKind.u64.bits x &&& BitVec.ofInt IntKind.u64.bits 255).toNat ≤ 255 := by
    rw [BitVec.toNat_and]
    exact Nat.le_trans Nat.and_le_right (by decide)
  have e : Go.bits .and .u64 x 255 = IntKind.u64.wrap ((BitVec.ofInt IntKind.u64.bits x &&& BitVec.ofInt IntKind.u64.bits 255).toNat : Int) := rfl
  rw [e]
  obtain ⟨q, hq⟩ : ∃ q, q = (BitVec.ofInt IntKind.u64.bits x &&& BitVec.ofInt IntKind.u64.bits 255).toNat := ⟨_, rfl⟩
  rw [← hq] at h ⊢
  have e2 : IntKind.u64.wrap (q : Int) = (q : Int) % 18446744073709551616 := by simp [IntKind.wrap, IntKind.bits, IntKind.signed]
  rw [e2]; omega
def bytesOk (c : List Int) : Prop := ∀ x ∈ c, 0 ≤ x ∧ x ≤ 255
theorem rd_in (l : List Int) (i : Int) (h0 : 0 ≤ i) (h1 : i < (l.length : Int)) : rd l i ∈ l := by
  have hi : i.toNat < l.length := by omega
  simp [rd, List.getD, hi]
theorem next_ok (c : List Int) (hc : bytesOk c) (p s : Int) (h0 : 0 ≤ p) (h1 : p ≤ 1000000000000) : ∃ v s', spec_l1Cur_next.f c p s = some (v, p + 1, s') ∧ 0 ≤ v ∧ v ≤ 255 := by
  unfold spec_l1Cur_next.f
  rw [wrap_id (n := p + 1) (by omega) (by omega)]
  by_cases c1 : p < (c.length : Int)
  · rw [if_pos c1, if_pos h0]
    have hb := hc _ (rd_in c p h0 c1)
    rw [if_pos (by omega), wrap_id (n := rd c p) (by omega) (by omega)]
    exact ⟨_, _, rfl, hb.1, hb.2⟩
  · rw [if_neg c1, if_neg (by omega)]
    have hb := and255 ((IntKind.u64.wrap ((IntKind.u64.wrap ((IntKind.u64.wrap (s * 6364136223846793005)) + 0)) + 1442695040888963407)) / 1099511627776)
    exact ⟨_, _, rfl, by rw [wrap_id (by omega) (by omega)]; exact hb.1, by rw [wrap_id (by omega) (by omega)]; exact hb.2⟩
theorem pick_ok (c : List Int) (hc : bytesOk c) (p s : Int) (h0 : 0 ≤ p) (h1 : p ≤ 100000000000) (n : Int) (hn : 1 ≤ n) (hn2 : n ≤ 100000) : ∃ r p' s', spec_l1Cur_pick.f c p s n = some (r, p', s') ∧ 0 ≤ r ∧ r < n ∧ p ≤ p' ∧ p' ≤ p + 2 := by
  unfold spec_l1Cur_pick.f
  by_cases c1 : n ≤ 1
  · rw [if_pos c1]; exact ⟨0, p, s, rfl, by omega, by omega, by omega, by omega⟩
  · rw [if_neg c1]
    obtain ⟨v, s1, e1, v0, v1⟩ := next_ok c hc p s h0 (by omega)
    rw [e1, obind]
    dsimp only
    by_cases c2 : n > 200
    · rw [if_pos c2]
      obtain ⟨v2, s2, e2, w0, w1⟩ := next_ok c hc (p + 1) s1 (by omega) (by omega)
      rw [e2, obind]
      dsimp only
      rw [if_neg (by omega), wrap_id (n := v * 256) (by omega) (by omega), wrap_id (by omega) (by omega), Int.tmod_eq_emod_of_nonneg (by omega)]
      exact ⟨_, _, _, rfl, Int.emod_nonneg _ (by omega), Int.emod_lt_of_pos _ (by omega), by omega, by omega⟩
    · rw [if_neg c2, if_neg (by omega), Int.tmod_eq_emod_of_nonneg (by omega)]
      exact ⟨_, _, _, rfl, Int.emod_nonneg _ (by omega), Int.emod_lt_of_pos _ (by omega), by omega, by omega⟩
theorem among_ok (c : List Int) (hc : bytesOk c) (p s : Int) (h0 : 0 ≤ p) (h1 : p ≤ 100000000000) (l : List Int) (hl : 1 ≤ l.length) (hl2 : l.length ≤ 1000) : ∃ r p' s', spec_l1Cur_among.f c p s l = some (r, p', s') ∧ r ∈ l ∧ p ≤ p' ∧ p' ≤ p + 2 := by
  obtain ⟨r, p', s', e, r0, r1, a, b⟩ := pick_ok c hc p s h0 h1 (l.length : Int) (by omega) (by omega)
  refine ⟨rd l r, p', s', ?_, rd_in l r r0 r1, a, b⟩
  unfold spec_l1Cur_among.f
  rw [e, obind]
  dsimp only
  rw [if_pos r0, if_pos r1]
theorem one_ok (c : List Int) (hc : bytesOk c) (p s : Int) (h0 : 0 ≤ p) (h1 : p ≤ 100000000000) (n : Int) (hn : 1 ≤ n) (hn2 : n ≤ 100000) : ∃ b p' s', spec_l1Cur_one.f c p s n = some (b, p', s') ∧ p ≤ p' ∧ p' ≤ p + 2 := by
  obtain ⟨r, p', s', e, -, -, a, b⟩ := pick_ok c hc p s h0 h1 n hn hn2
  refine ⟨(r == 0), p', s', ?_, a, b⟩
  unfold spec_l1Cur_one.f
  rw [e, obind]
end Go.Proofs.Ytdcijdeiaefjpaa.P
namespace Go.Proofs.Ytdcijdeiaefjpaa.P
open Go.RowKit Go.Proofs.YtdcijdeiaefjpaaW.PrintWords Go.Proofs.YtdcijdeiaefjpaaW.PrintLast
set_option linter.unusedVariables false
set_option linter.unusedSimpArgs false
theorem rule_ok (c : List Int) (hc : bytesOk c) (p s : Int) (h0 : 0 ≤ p) (h1 : p ≤ 10000000000) : ∃ e r p' s', spec_l1Cur_rule.f c p s = some (e, r, p', s') ∧ okRule ⟨e, r⟩ = true ∧ p ≤ p' ∧ p' ≤ p + 4 := by
  obtain ⟨e, p1, s1, e1, he, a1, b1⟩ := among_ok c hc p s h0 (by omega) [2, 3, 4, 5, 6, 7, 8, 9, 10, 12, 15] (by decide) (by decide)
  have hb : 2 ≤ e ∧ e ≤ 15 := by
    simp only [List.mem_cons, List.not_mem_nil, or_false] at he
    omega
  obtain ⟨r, p2, s2, e2, r0, r1, a2, b2⟩ := pick_ok c hc p1 s1 (by omega) (by omega) e (by omega) (by omega)
  refine ⟨e, r, p2, s2, ?_, (okRule_iff _).2 ⟨hb.1, by show e ≤ 60; omega, r0, r1⟩, by omega, by omega⟩
  unfold spec_l1Cur_rule.f
  rw [e1, obind]
  dsimp only
  rw [e2, obind]
theorem sure_l0 (c : List Int) (hc : bytesOk c) : ∀ (m : Nat) (L : List SRule) (p s : Int), L.length + m ≤ 12 → L.all okRule = true → 0 ≤ p → p + 4 * m ≤ 10000000000 →
    ∃ L' p' s', Ev (fun k => spec_l1Cur_sureRules.l0 k L (m : Int) c p s) (L', p', s') ∧ L'.length ≤ L.length + m ∧ L'.all okRule = true ∧ p ≤ p' ∧ p' ≤ p + 4 * m
  | 0, L, p, s, h, hl, h0, h1 => by
    refine ⟨L, p, s, Ev.mk' 0 fun k _ => ?_, by omega, hl, by omega, by omega⟩
    simp only [spec_l1Cur_sureRules.l0]
    rw [if_neg (by omega)]
  | m + 1, L, p, s, h, hl, h0, h1 => by
    obtain ⟨e, r, p1, s1, e1, hr, a1, b1⟩ := rule_ok c hc p s h0 (by omega)
    have hall : (L ++ [(⟨e, r⟩ : SRule)]).all okRule = true := by rw [List.all_append, hl]; simp [hr]
    have hg : goodRules (L ++ [(⟨e, r⟩ : SRule)]) = true := by unfold goodRules; rw [hall, decide_eq_true (by simp; omega)]; rfl
    obtain ⟨t, K, hk⟩ : ∃ t, Ev (fun k => spec_siPeriod.f k (L ++ [(⟨e, r⟩ : SRule)])) t := ⟨_, siPeriod_ev (L ++ [(⟨e, r⟩ : SRule)]) hg⟩
    dsimp only at hk
    obtain ⟨A, pa, sa, ⟨KA, ha⟩, lA, oA, xA, yA⟩ := sure_l0 c hc m (L ++ [(⟨e, r⟩ : SRule)]) p1 s1 (by simp; omega) hall (by omega) (by omega)
    obtain ⟨B, pb, sb, ⟨KB, hb⟩, lB, oB, xB, yB⟩ := sure_l0 c hc m L p1 s1 (by omega) hl (by omega) (by omega)
    dsimp only at ha hb
    have hlen : (L ++ [(⟨e, r⟩ : SRule)]).length = L.length + 1 := by simp
    rw [hlen] at lA
    by_cases c1 : t > 0 ∧ t ≤ 3000
    · refine ⟨A, pa, sa, Ev.mk' (K + KA) fun k hk2 => ?_, by omega, oA, by omega, by omega⟩
      simp only [spec_l1Cur_sureRules.l0]
      rw [if_pos (by omega), obind, if_pos (by simp; omega), obind, List.nil_append, e1, obind]
      dsimp only
      rw [if_pos (by omega), obind, hk k (by omega), obind, if_pos c1.1, obind, if_pos c1.2, show wrap64 (((m + 1 : Nat) : Int) - 1) = (m : Int) by rw [wrap_id (by omega) (by omega)]; omega]
      exact ha k (by omega)
    · refine ⟨B, pb, sb, Ev.mk' (K + KB) fun k hk2 => ?_, by omega, oB, by omega, by omega⟩
      simp only [spec_l1Cur_sureRules.l0]
      rw [if_pos (by omega), obind, if_pos (by simp; omega), obind, List.nil_append, e1, obind]
      dsimp only
      rw [if_pos (by omega), obind, hk k (by omega), obind, show wrap64 (((m + 1 : Nat) : Int) - 1) = (m : Int) by rw [wrap_id (by omega) (by omega)]; omega]
      by_cases c2 : t > 0
      · rw [if_pos c2, obind, if_neg (fun h => c1 ⟨c2, h⟩)]
        exact hb k (by omega)
      · rw [if_neg c2]
        exact hb k (by omega)
theorem sure_ok (c : List Int) (hc : bytesOk c) (p s : Int) (h0 : 0 ≤ p) (h1 : p ≤ 1000000000) : ∃ L p' s', Ev (fun k => spec_l1Cur_sureRules.f k c p s 5) (L, p', s') ∧ L.length ≤ 5 ∧ L.all okRule = true ∧ p ≤ p' ∧ p' ≤ p + 100 := by
  obtain ⟨r, p1, s1, e1, r0, r1, a1, b1⟩ := pick_ok c hc p s h0 (by omega) 6 (by omega) (by omega)
  obtain ⟨m, rfl⟩ : ∃ m : Nat, r = m := ⟨r.toNat, by omega⟩
  obtain ⟨L, p2, s2, ⟨K, hk⟩, l2, o2, x2, y2⟩ := sure_l0 c hc m [] p1 s1 (by simp; omega) rfl (by omega) (by omega)
  refine ⟨L, p2, s2, ⟨K, fun k hk2 => ?_⟩, by simp at l2; omega, o2, by omega, by omega⟩
  unfold spec_l1Cur_sureRules.f
  rw [show wrap64 (5 + 1) = 6 from wrap_id (by omega) (by omega), e1]
  exact hk k hk2
theorem rules_l0 (c : List Int) (hc : bytesOk c) : ∀ (d : Nat) (L : List SRule) (p s : Int), L.length + d = 14 → 0 ≤ p → p + 2 * d ≤ 10000000000 → ∃ L' p' s', Ev (fun k => spec_l1Cur_rules.l0 k L c p s) (L', p', s') ∧ L'.length ≤ 14 ∧ p ≤ p' ∧ p' ≤ p + 2 * (d + 1)
  | 0, L, p, s, h, h0, h1 => by
    obtain ⟨r, p1, s1, e1, r0, r1, a1, b1⟩ := pick_ok c hc p s h0 (by omega) 2 (by omega) (by omega)
    refine ⟨L, p1, s1, Ev.mk' 0 fun k _ => ?_, by omega, by omega, by omega⟩
    simp only [spec_l1Cur_rules.l0]
    rw [e1, obind]
    dsimp only
    rw [wrap_id (by omega) (by omega), if_neg (by omega)]
  | d + 1, L, p, s, h, h0, h1 => by
    obtain ⟨r, p1, s1, e1, r0, r1, a1, b1⟩ := pick_ok c hc p s h0 (by omega) 2 (by omega) (by omega)
    obtain ⟨A, pa, sa, ⟨KA, ha⟩, lA, xA, yA⟩ := rules_l0 c hc d (L ++ [(⟨2, 0⟩ : SRule)]) p1 s1 (by simp; omega) (by omega) (by omega)
    dsimp only at ha
    by_cases c1 : (L.length : Int) < 12 + r
    · refine ⟨A, pa, sa, Ev.mk' KA fun k hk => ?_, lA, by omega, by omega⟩
      simp only [spec_l1Cur_rules.l0]
      rw [e1, obind]
      dsimp only
      rw [wrap_id (by omega) (by omega), if_pos c1, if_pos (by omega)]
      exact ha k hk
    · refine ⟨L, p1, s1, Ev.mk' 0 fun k _ => ?_, by omega, by omega, by omega⟩
      simp only [spec_l1Cur_rules.l0]
      rw [e1, obind]
      dsimp only
      rw [wrap_id (by omega) (by omega), if_neg c1]
theorem rules_ok (c : List Int) (hc : bytesOk c) (p s : Int) (h0 : 0 ≤ p) (h1 : p ≤ 100000000) : ∃ L p' s', Ev (fun k => spec_l1Cur_rules.f k c p s) (L, p', s') ∧ L.length ≤ 14 ∧ p ≤ p' ∧ p' ≤ p + 200 := by
  obtain ⟨L, p1, s1, ⟨K, hk⟩, l1, o1, a1, b1⟩ := sure_ok c hc p s h0 (by omega)
  obtain ⟨r, p2, s2, e2, r0, r1, a2, b2⟩ := pick_ok c hc p1 s1 (by omega) (by omega) 16 (by omega) (by omega)
  dsimp only at hk
  by_cases c1 : r = 0
  · obtain ⟨e, p3, s3, e3, -, a3, b3⟩ := among_ok c hc p2 s2 (by omega) (by omega) [0, 1, 60, 61, -1] (by decide) (by decide)
    obtain ⟨q, p4, s4, e4, -, a4, b4⟩ := among_ok c hc p3 s3 (by omega) (by omega) [0, 1, -1, 59, 60] (by decide) (by decide)
    refine ⟨L ++ [(⟨e, q⟩ : SRule)], p4, s4, ⟨K, fun k hk2 => ?_⟩, by simp; omega, by omega, by omega⟩
    simp only [spec_l1Cur_rules.f]
    rw [hk k hk2, obind]
    dsimp only
    rw [e2, obind]
    dsimp only
    rw [if_pos c1, e3, obind]
    dsimp only
    rw [e4, obind]
    dsimp only
    rw [if_pos (by omega)]
  · by_cases c2 : r = 1
    · obtain ⟨A, pa, sa, ⟨KA, ha⟩, lA, xA, yA⟩ := rules_l0 c hc (14 - L.length) L p2 s2 (by omega) (by omega) (by omega)
      refine ⟨A, pa, sa, ⟨K + KA, fun k hk2 => ?_⟩, lA, by omega, by omega⟩
      simp only [spec_l1Cur_rules.f]
      rw [hk k (by omega), obind]
      dsimp only
      rw [e2, obind]
      dsimp only
      rw [if_neg c1, if_pos c2]
      exact ha k (by omega)
    · by_cases c3 : r = 2
      · refine ⟨[(⟨59, 0⟩ : SRule), (⟨53, 1⟩ : SRule), (⟨47, 2⟩ : SRule)], p2, s2, ⟨K, fun k hk2 => ?_⟩, by decide, by omega, by omega⟩
        simp only [spec_l1Cur_rules.f]
        rw [hk k hk2, obind]
        dsimp only
        rw [e2, obind]
        dsimp only
        rw [if_neg c1, if_neg c2, if_pos c3]
      · refine ⟨L, p2, s2, ⟨K, fun k hk2 => ?_⟩, by omega, by omega, by omega⟩
        simp only [spec_l1Cur_rules.f]
        rw [hk k hk2, obind]
        dsimp only
        rw [e2, obind]
        dsimp only
        rw [if_neg c1, if_neg c2, if_neg c3]
theorem prime_some (n : Int) (h0 : 0 ≤ n) (h1 : n ≤ 4) : ∃ q, spec_rePrime.f n = some q := by
  unfold spec_rePrime.f
  have : n = 0 ∨ n = 1 ∨ n = 2 ∨ n = 3 ∨ n = 4 := by omega
  rcases this with rfl | rfl | rfl | rfl | rfl <;> simp
theorem primes_l0 (c : List Int) (hc : bytesOk c) : ∀ (d : Nat) (L : List Int) (n p s : Int), n + d = 5 → 0 ≤ n → (L.length : Int) ≤ n → 0 ≤ p → p + 4 * d ≤ 10000000000 → ∃ L' p' s', Ev (fun k => spec_l1Cur_primeList.l0 k L n c p s) (L', p', s') ∧ L'.length ≤ 6 ∧ p ≤ p' ∧ p' ≤ p + 4 * d + 10
  | d, L, n, p, s, h, hn, hL, h0, h1 => by
    obtain ⟨r, p1, s1, e1, r0, r1, a1, b1⟩ := pick_ok c hc p s h0 (by omega) 9 (by omega) (by omega)
    have hq : wrap64 (4 + wrap64 (Int.tdiv r 8)) = 4 + r / 8 := by
      rw [Int.tdiv_eq_ediv_of_nonneg r0, wrap_id (n := r / 8) (by omega) (by omega), wrap_id (by omega) (by omega)]
    by_cases c1 : n < 4 + r / 8
    · obtain ⟨d, rfl⟩ : ∃ q, d = q + 1 := ⟨d - 1, by omega⟩
      obtain ⟨r2, p2, s2, e2, r20, r21, a2, b2⟩ := pick_ok c hc p1 s1 (by omega) (by omega) 3 (by omega) (by omega)
      by_cases c2 : r2 > 0
      · obtain ⟨q, hq2⟩ := prime_some n hn (by omega)
        obtain ⟨A, pa, sa, ⟨KA, ha⟩, lA, xA, yA⟩ := primes_l0 c hc d (L ++ [q]) (n + 1) p2 s2 (by omega) (by omega) (by simp; omega) (by omega) (by omega)
        dsimp only at ha
        refine ⟨A, pa, sa, Ev.mk' KA fun k hk => ?_, lA, by omega, by omega⟩
        simp only [spec_l1Cur_primeList.l0]
        rw [e1, obind]
        dsimp only
        rw [hq, if_pos c1, e2, obind]
        dsimp only
        rw [if_pos c2, hq2, obind, if_pos (by omega), wrap_id (n := n + 1) (by omega) (by omega)]
        exact ha k hk
      · obtain ⟨A, pa, sa, ⟨KA, ha⟩, lA, xA, yA⟩ := primes_l0 c hc d L (n + 1) p2 s2 (by omega) (by omega) (by omega) (by omega) (by omega)
        dsimp only at ha
        refine ⟨A, pa, sa, Ev.mk' KA fun k hk => ?_, lA, by omega, by omega⟩
        simp only [spec_l1Cur_primeList.l0]
        rw [e1, obind]
        dsimp only
        rw [hq, if_pos c1, e2, obind]
        dsimp only
        rw [if_neg c2, wrap_id (n := n + 1) (by omega) (by omega)]
        exact ha k hk
    · obtain ⟨r3, p3, s3, e3, r30, r31, a3, b3⟩ := pick_ok c hc p1 s1 (by omega) (by omega) 14 (by omega) (by omega)
      by_cases c3 : r3 = 0
      · obtain ⟨e, p4, s4, e4, -, a4, b4⟩ := among_ok c hc p3 s3 (by omega) (by omega) [2, 1, 13, 17] (by decide) (by decide)
        refine ⟨L ++ [e], p4, s4, Ev.mk' 0 fun k _ => ?_, by simp; omega, by omega, by omega⟩
        simp only [spec_l1Cur_primeList.l0]
        rw [e1, obind]
        dsimp only
        rw [hq, if_neg c1, e3, obind]
        dsimp only
        rw [if_pos c3, e4, obind]
        dsimp only
        rw [if_pos (by omega)]
      · by_cases c4 : r3 = 1
        · refine ⟨[2, 3, 5, 7, 11], p3, s3, Ev.mk' 0 fun k _ => ?_, by decide, by omega, by omega⟩
          simp only [spec_l1Cur_primeList.l0]
          rw [e1, obind]
          dsimp only
          rw [hq, if_neg c1, e3, obind]
          dsimp only
          rw [if_neg c3, if_pos c4]
        · refine ⟨L, p3, s3, Ev.mk' 0 fun k _ => ?_, by omega, by omega, by omega⟩
          simp only [spec_l1Cur_primeList.l0]
          rw [e1, obind]
          dsimp only
          rw [hq, if_neg c1, e3, obind]
          dsimp only
          rw [if_neg c3, if_neg c4]
theorem primes_ok (c : List Int) (hc : bytesOk c) (p s : Int) (h0 : 0 ≤ p) (h1 : p ≤ 100000000) : ∃ L p' s', Ev (fun k => spec_l1Cur_primeList.f k c p s) (L, p', s') ∧ L.length ≤ 6 ∧ p ≤ p' ∧ p' ≤ p + 30 := by
  obtain ⟨A, pa, sa, hA, lA, xA, yA⟩ := primes_l0 c hc 5 [] 0 p s (by omega) (by omega) (by simp) h0 (by omega)
  exact ⟨A, pa, sa, hA, lA, xA, by omega⟩
theorem DrawMostCovered_ok (c : List Int) (hc : bytesOk c) : ∃ ps, Ev (fun k => spec_DrawMostCovered.f k c) ps ∧ ps.length ≤ 6 := by
  obtain ⟨L, p1, s1, ⟨K, hk⟩, l1, a1, b1⟩ := primes_ok c hc 0 0 (by omega) (by omega)
  obtain ⟨b, p2, s2, e2, a2, b2⟩ := one_ok c hc p1 s1 (by omega) (by omega) 4 (by omega) (by omega)
  dsimp only at hk
  by_cases c1 : (L.length : Int) > 4
  · cases hb : b with
    | true =>
      refine ⟨L, ⟨K, fun k hk2 => ?_⟩, l1⟩
      simp only [spec_DrawMostCovered.f, spec_DrawMostCovered.g]
      rw [hk k hk2, obind]
      dsimp only
      rw [if_pos c1, e2, obind, hb]
      simp only [if_true, obind]
    | false =>
      refine ⟨[2, 3, 5], ⟨K, fun k hk2 => ?_⟩, by decide⟩
      simp only [spec_DrawMostCovered.f, spec_DrawMostCovered.g]
      rw [hk k hk2, obind]
      dsimp only
      rw [if_pos c1, e2, obind, hb]
      simp only [Bool.false_eq_true, if_false, obind]
  · refine ⟨L, ⟨K, fun k hk2 => ?_⟩, l1⟩
    simp only [spec_DrawMostCovered.f, spec_DrawMostCovered.g]
    rw [hk k hk2, obind]
    dsimp only
    rw [if_neg c1, obind]
theorem DrawFirstCover_ok (c : List Int) (hc : bytesOk c) : ∃ ps n, Ev (fun k => spec_DrawFirstCover.f k c) (ps, n) ∧ ps.length ≤ 6 := by
  obtain ⟨b, p0, s0, e0, a0, b0⟩ := one_ok c hc 0 0 (by omega) (by omega) 12 (by omega) (by omega)
  obtain ⟨L, p1, s1, ⟨K, hk⟩, l1, a1, b1⟩ := primes_ok c hc p0 s0 (by omega) (by omega)
  dsimp only at hk
  cases hb : b with
  | true =>
    obtain ⟨n, p2, s2, e2, -, a2, b2⟩ := among_ok c hc p1 s1 (by omega) (by omega) [-1, 0, 40, 41] (by decide) (by decide)
    refine ⟨L, n, ⟨K, fun k hk2 => ?_⟩, l1⟩
    simp only [spec_DrawFirstCover.f, spec_DrawFirstCover.g]
    rw [e0, obind, hb]
    dsimp only
    rw [if_pos rfl, hk k hk2, obind]
    dsimp only
    rw [e2, obind, obind]
  | false =>
    obtain ⟨n, p2, s2, e2, -, -, a2, b2⟩ := pick_ok c hc p1 s1 (by omega) (by omega) 11 (by omega) (by omega)
    refine ⟨L, n, ⟨K, fun k hk2 => ?_⟩, l1⟩
    simp only [spec_DrawFirstCover.f, spec_DrawFirstCover.g]
    rw [e0, obind, hb]
    dsimp only
    rw [if_neg Bool.false_ne_true, hk k hk2, obind]
    dsimp only
    rw [e2, obind, obind]
theorem DrawIsCover_ok (c : List Int) (hc : bytesOk c) : ∃ r n, Ev (fun k => spec_DrawIsCover.f k c) (r, n) ∧ r.length ≤ 14 := by
  obtain ⟨b, p0, s0, e0, a0, b0⟩ := one_ok c hc 0 0 (by omega) (by omega) 12 (by omega) (by omega)
  obtain ⟨L, p1, s1, ⟨K, hk⟩, l1, a1, b1⟩ := rules_ok c hc p0 s0 (by omega) (by omega)
  dsimp only at hk
  cases hb : b with
  | true =>
    obtain ⟨n, p2, s2, e2, -, a2, b2⟩ := among_ok c hc p1 s1 (by omega) (by omega) [-1, 0, 40, 41] (by decide) (by decide)
    refine ⟨L, n, ⟨K, fun k hk2 => ?_⟩, l1⟩
    simp only [spec_DrawIsCover.f, spec_DrawIsCover.g]
    rw [e0, obind, hb]
    dsimp only
    rw [if_pos rfl, hk k hk2, obind]
    dsimp only
    rw [e2, obind, obind]
  | false =>
    obtain ⟨n, p2, s2, e2, -, -, a2, b2⟩ := pick_ok c hc p1 s1 (by omega) (by omega) 8 (by omega) (by omega)
    refine ⟨L, n, ⟨K, fun k hk2 => ?_⟩, l1⟩
    simp only [spec_DrawIsCover.f, spec_DrawIsCover.g]
    rw [e0, obind, hb]
    dsimp only
    rw [if_neg Bool.false_ne_true, hk k hk2, obind]
    dsimp only
    rw [e2, obind, obind]
end Go.Proofs.Ytdcijdeiaefjpaa.P
namespace Go.Proofs.Ytdcijdeiaefjpaa.P
open Go.RowKit Go.Proofs.YtdcijdeiaefjpaaW.PrintWords Go.Proofs.YtdcijdeiaefjpaaW.PrintLast
set_option linter.unusedVariables false
set_option linter.unusedSimpArgs false
theorem some_l0 (c : List Int) (hc : bytesOk c) (Y : List Int) (hY : ∀ y ∈ Y, 2 ≤ y ∧ y ≤ 7) (hY2 : Y.length ≤ 10) : ∀ (d i : Nat) (L : List SRule) (p s : Int), i + d = Y.length → L.length ≤ i → 0 ≤ p → p + 4 * d ≤ 10000000 →
    ∃ L' p' s', Ev (fun k => spec_l1Cur_someLeft.l0 k L Y (Y.length : Int) (i : Int) c p s) (L', p', s') ∧ L'.length ≤ 11 ∧ p ≤ p' ∧ p' ≤ p + 4 * d + 10
  | 0, i, L, p, s, h, hL, h0, h1 => by
    obtain ⟨b, p1, s1, e1, a1, b1⟩ := one_ok c hc p s h0 (by omega) 3 (by omega) (by omega)
    cases hb : b with
    | true =>
      obtain ⟨e, r, p2, s2, e2, -, a2, b2⟩ := rule_ok c hc p1 s1 (by omega) (by omega)
      refine ⟨L ++ [(⟨e, r⟩ : SRule)], p2, s2, Ev.mk' 0 fun k _ => ?_, by simp; omega, by omega, by omega⟩
      simp only [spec_l1Cur_someLeft.l0]
      rw [if_neg (by omega), e1, obind, hb]
      dsimp only
      rw [if_pos rfl, e2, obind]
      dsimp only
      rw [if_pos (by omega)]
    | false =>
      refine ⟨L, p1, s1, Ev.mk' 0 fun k _ => ?_, by omega, by omega, by omega⟩
      simp only [spec_l1Cur_someLeft.l0]
      rw [if_neg (by omega), e1, obind, hb]
      dsimp only
      rw [if_neg Bool.false_ne_true]
  | d + 1, i, L, p, s, h, hL, h0, h1 => by
    obtain ⟨b, p1, s1, e1, a1, b1⟩ := one_ok c hc p s h0 (by omega) 2 (by omega) (by omega)
    have hy := hY _ (rd_in Y i (by omega) (by omega))
    cases hb : b with
    | true =>
      obtain ⟨r, p2, s2, e2, -, -, a2, b2⟩ := pick_ok c hc p1 s1 (by omega) (by omega) (rd Y i) (by omega) (by omega)
      obtain ⟨A, pa, sa, ⟨KA, ha⟩, lA, xA, yA⟩ := some_l0 c hc Y hY hY2 d (i + 1) (L ++ [(⟨rd Y i, r⟩ : SRule)]) p2 s2 (by omega) (by simp; omega) (by omega) (by omega)
      dsimp only at ha
      refine ⟨A, pa, sa, Ev.mk' KA fun k hk => ?_, lA, by omega, by omega⟩
      simp only [spec_l1Cur_someLeft.l0]
      rw [if_pos (by omega), if_pos (by omega), if_pos (by omega), e1, obind, hb]
      dsimp only
      rw [if_pos rfl, e2, obind]
      dsimp only
      rw [if_pos (by omega), show wrap64 ((i : Int) + 1) = ((i + 1 : Nat) : Int) from wrap_id (by omega) (by omega)]
      exact ha k hk
    | false =>
      obtain ⟨A, pa, sa, ⟨KA, ha⟩, lA, xA, yA⟩ := some_l0 c hc Y hY hY2 d (i + 1) L p1 s1 (by omega) (by omega) (by omega) (by omega)
      dsimp only at ha
      refine ⟨A, pa, sa, Ev.mk' KA fun k hk => ?_, lA, by omega, by omega⟩
      simp only [spec_l1Cur_someLeft.l0]
      rw [if_pos (by omega), if_pos (by omega), if_pos (by omega), e1, obind, hb]
      dsimp only
      rw [if_neg Bool.false_ne_true, show wrap64 ((i : Int) + 1) = ((i + 1 : Nat) : Int) from wrap_id (by omega) (by omega)]
      exact ha k hk
theorem some_ok (c : List Int) (hc : bytesOk c) (p s : Int) (h0 : 0 ≤ p) (h1 : p ≤ 1000000) : ∃ L p' s', Ev (fun k => spec_l1Cur_someLeft.f k c p s) (L, p', s') ∧ L.length ≤ 14 ∧ p ≤ p' ∧ p' ≤ p + 300 := by
  obtain ⟨b, p1, s1, e1, a1, b1⟩ := one_ok c hc p s h0 (by omega) 8 (by omega) (by omega)
  cases hb : b with
  | true =>
    obtain ⟨L, p2, s2, ⟨K, hk⟩, l2, a2, b2⟩ := rules_ok c hc p1 s1 (by omega) (by omega)
    dsimp only at hk
    refine ⟨L, p2, s2, ⟨K, fun k hk2 => ?_⟩, l2, by omega, by omega⟩
    simp only [spec_l1Cur_someLeft.f]
    rw [e1, obind, hb]
    dsimp only
    rw [if_pos rfl, hk k hk2, obind]
  | false =>
    obtain ⟨L, p2, s2, ⟨K, hk⟩, l2, a2, b2⟩ := some_l0 c hc [2, 3, 5, 7] (by decide) (by decide) 4 0 [] p1 s1 (by decide) (by decide) (by omega) (by omega)
    dsimp only at hk
    refine ⟨L, p2, s2, ⟨K, fun k hk2 => ?_⟩, by omega, by omega, by omega⟩
    simp only [spec_l1Cur_someLeft.f]
    rw [e1, obind, hb]
    dsimp only
    rw [if_neg Bool.false_ne_true, obind]
    exact hk k hk2
theorem DrawGapsOfPeriod_ok (c : List Int) (hc : bytesOk c) : ∃ l, Ev (fun k => spec_DrawGapsOfPeriod.f k c) l ∧ l.length ≤ 14 := by
  obtain ⟨L, p1, s1, ⟨K, hk⟩, l1, a1, b1⟩ := some_ok c hc 0 0 (by omega) (by omega)
  dsimp only at hk
  refine ⟨L, ⟨K, fun k hk2 => ?_⟩, l1⟩
  simp only [spec_DrawGapsOfPeriod.f, spec_DrawGapsOfPeriod.g]
  rw [hk k hk2, obind, obind]
theorem upTo_ok (c : List Int) (hc : bytesOk c) (p s : Int) (h0 : 0 ≤ p) (h1 : p ≤ 1000000) : ∃ n p' s', spec_l1Cur_upTo.f c p s = some (n, p', s') := by
  obtain ⟨b, p1, s1, e1, a1, b1⟩ := one_ok c hc p s h0 (by omega) 12 (by omega) (by omega)
  unfold spec_l1Cur_upTo.f
  rw [e1, obind]
  dsimp only
  cases b with
  | true =>
    obtain ⟨n, p2, s2, e2, -, a2, b2⟩ := among_ok c hc p1 s1 (by omega) (by omega) [-1, 0, 600, 601, 4611686018427387904] (by decide) (by decide)
    rw [if_pos rfl, e2, obind]
    exact ⟨_, _, _, rfl⟩
  | false =>
    obtain ⟨n, p2, s2, e2, -, -, a2, b2⟩ := pick_ok c hc p1 s1 (by omega) (by omega) 120 (by omega) (by omega)
    rw [if_neg Bool.false_ne_true, e2, obind]
    exact ⟨_, _, _, rfl⟩
theorem DrawGapsUpTo_ok (c : List Int) (hc : bytesOk c) : ∃ l n, Ev (fun k => spec_DrawGapsUpTo.f k c) (l, n) ∧ l.length ≤ 14 := by
  obtain ⟨L, p1, s1, ⟨K, hk⟩, l1, a1, b1⟩ := some_ok c hc 0 0 (by omega) (by omega)
  obtain ⟨n, p2, s2, e2⟩ := upTo_ok c hc p1 s1 (by omega) (by omega)
  dsimp only at hk
  refine ⟨L, n, ⟨K, fun k hk2 => ?_⟩, l1⟩
  simp only [spec_DrawGapsUpTo.f, spec_DrawGapsUpTo.g]
  rw [hk k hk2, obind]
  dsimp only
  rw [e2, obind, obind]
theorem DrawMostInWindow_ok (c : List Int) (hc : bytesOk c) : ∃ l n, Ev (fun k => spec_DrawMostInWindow.f k c) (l, n) ∧ l.length ≤ 14 := by
  obtain ⟨b, p0, s0, e0, a0, b0⟩ := one_ok c hc 0 0 (by omega) (by omega) 12 (by omega) (by omega)
  obtain ⟨L, p1, s1, ⟨K, hk⟩, l1, a1, b1⟩ := some_ok c hc p0 s0 (by omega) (by omega)
  dsimp only at hk
  cases hb : b with
  | true =>
    obtain ⟨n, p2, s2, e2, -, a2, b2⟩ := among_ok c hc p1 s1 (by omega) (by omega) [-1, 0, 200, 201] (by decide) (by decide)
    refine ⟨L, n, ⟨K, fun k hk2 => ?_⟩, l1⟩
    simp only [spec_DrawMostInWindow.f, spec_DrawMostInWindow.g]
    rw [e0, obind, hb]
    dsimp only
    rw [if_pos rfl, hk k hk2, obind]
    dsimp only
    rw [e2, obind, obind]
  | false =>
    obtain ⟨n, p2, s2, e2, -, -, a2, b2⟩ := pick_ok c hc p1 s1 (by omega) (by omega) 40 (by omega) (by omega)
    refine ⟨L, n, ⟨K, fun k hk2 => ?_⟩, l1⟩
    simp only [spec_DrawMostInWindow.f, spec_DrawMostInWindow.g]
    rw [e0, obind, hb]
    dsimp only
    rw [if_neg Bool.false_ne_true, hk k hk2, obind]
    dsimp only
    rw [e2, obind, obind]
theorem DrawPairsInPeriod_ok (c : List Int) (hc : bytesOk c) : ∃ l n, Ev (fun k => spec_DrawPairsInPeriod.f k c) (l, n) ∧ l.length ≤ 14 := by
  obtain ⟨b, p0, s0, e0, a0, b0⟩ := one_ok c hc 0 0 (by omega) (by omega) 12 (by omega) (by omega)
  obtain ⟨L, p1, s1, ⟨K, hk⟩, l1, a1, b1⟩ := some_ok c hc p0 s0 (by omega) (by omega)
  dsimp only at hk
  cases hb : b with
  | true =>
    obtain ⟨n, p2, s2, e2, -, a2, b2⟩ := among_ok c hc p1 s1 (by omega) (by omega) [-1, 0, 1000, 1001] (by decide) (by decide)
    refine ⟨L, n, ⟨K, fun k hk2 => ?_⟩, l1⟩
    simp only [spec_DrawPairsInPeriod.f, spec_DrawPairsInPeriod.g]
    rw [e0, obind, hb]
    dsimp only
    rw [if_pos rfl, hk k hk2, obind]
    dsimp only
    rw [e2, obind, obind]
  | false =>
    obtain ⟨n, p2, s2, e2, -, -, a2, b2⟩ := pick_ok c hc p1 s1 (by omega) (by omega) 20 (by omega) (by omega)
    refine ⟨L, n, ⟨K, fun k hk2 => ?_⟩, l1⟩
    simp only [spec_DrawPairsInPeriod.f, spec_DrawPairsInPeriod.g]
    rw [e0, obind, hb]
    dsimp only
    rw [if_neg Bool.false_ne_true, hk k hk2, obind]
    dsimp only
    rw [e2, obind, obind]
theorem DrawCountGaps_ok (c : List Int) (hc : bytesOk c) : ∃ l n, Ev (fun k => spec_DrawCountGaps.f k c) (l, n) ∧ l.length ≤ 14 := by
  obtain ⟨L, p1, s1, ⟨K, hk⟩, l1, a1, b1⟩ := some_ok c hc 0 0 (by omega) (by omega)
  obtain ⟨n, p2, s2, e2, -, -, a2, b2⟩ := pick_ok c hc p1 s1 (by omega) (by omega) 9 (by omega) (by omega)
  dsimp only at hk
  refine ⟨L, n, ⟨K, fun k hk2 => ?_⟩, l1⟩
  simp only [spec_DrawCountGaps.f, spec_DrawCountGaps.g]
  rw [hk k hk2, obind]
  dsimp only
  rw [e2, obind, obind]
end Go.Proofs.Ytdcijdeiaefjpaa.P
namespace Go.Proofs.Ytdcijdeiaefjpaa.P
open Go.RowKit Go.Proofs.YtdcijdeiaefjpaaW.PrintWords Go.Proofs.YtdcijdeiaefjpaaW.PrintLast
set_option linter.unusedVariables false
set_option linter.unusedSimpArgs false
abbrev Rs := List SRule
theorem l3_ok (m : List Int) (b : Int) (D : List Int) (hD : D.length ≤ 1000000) (hb : ∀ g ∈ D, g ≤ b) (hj : Ev (fun k => laws_FnGapsTold.j10 k m) true) :
    ∀ (d i : Nat), i + d = D.length → Ev (fun k => laws_FnGapsTold.l3 k m b D D.length i) true
  | 0, i, h => by
    obtain ⟨K, hk⟩ := hj
    refine Ev.mk' K fun k hk2 => ?_
    simp only [laws_FnGapsTold.l3]
    rw [if_neg (by omega)]; exact hk k hk2
  | d + 1, i, h => by
    obtain ⟨K, ih⟩ := l3_ok m b D hD hb hj d (i + 1) (by omega)
    dsimp only at ih
    have := hb (rd D i) (rd_memI D i (by omega))
    refine Ev.mk' K fun k hk => ?_
    simp only [laws_FnGapsTold.l3]
    rw [if_pos (by omega), if_pos (by omega), if_pos (by omega), if_neg (by omega), show wrap64 ((i : Int) + 1) = ((i + 1 : Nat) : Int) from wrap_id (by omega) (by omega), ih k hk]
theorem l2_ok (l : List SRule) (hg : goodRules l = true) (m : List Int) (N D : List Int) (hD : D.length ≤ 1000000) (hN : N.length ≤ 1000000) (R : List (List Int)) (hR : R.length ≤ 1000000) (hj : Ev (fun k => laws_FnGapsTold.j10 k m) true) :
    ∀ (d i : Nat) (b : Int), i + d = R.length → RowsOk l N D b (R.drop i) → (∀ g ∈ D, g ≤ lastB b (R.drop i)) → Ev (fun k => laws_FnGapsTold.l2 k m l D N b R R.length i) true
  | 0, i, b, h, h1, h2 => by
    rw [List.drop_eq_nil_of_le (by omega)] at h2
    obtain ⟨K, hk⟩ := l3_ok m b D hD h2 hj D.length 0 (by omega)
    refine Ev.mk' K fun k hk2 => ?_
    simp only [laws_FnGapsTold.l2]
    rw [if_neg (by omega)]; exact hk k hk2
  | d + 1, i, b, h, h1, h2 => by
    rw [rds_drop R i (by omega)] at h1 h2
    obtain ⟨f, g, e, hf, hgD, hbg, hn, hrest⟩ := h1
    obtain ⟨K, ih⟩ := l2_ok l hg m N D hD hN R hR hj d (i + 1) g (by omega) hrest (by
      have e2 : lastB b (rd_Ints R i :: R.drop (i + 1)) = lastB (rd (rd_Ints R i) 1) (R.drop (i + 1)) := rfl
      rw [e2, e] at h2; exact h2)
    dsimp only at ih
    obtain ⟨K1, h3⟩ := NextLeft_ev l hg f g hn
    obtain ⟨K2, h4⟩ := tHas_ev N hN f
    obtain ⟨K3, h5⟩ := tHas_ev D hD g
    rw [any_mem hf] at h4
    rw [any_mem hgD] at h5
    dsimp only at h3 h4 h5
    obtain ⟨n0, n1, n2, n3, -, -⟩ := hn
    have r0 : rd (rd_Ints R i) 0 = f := by rw [e]; rfl
    have r1 : rd (rd_Ints R i) 1 = g := by rw [e]; rfl
    have rl : (rd_Ints R i).length = 2 := by rw [e]; rfl
    refine Ev.mk' (K + K1 + K2 + K3) fun k hk => ?_
    simp only [laws_FnGapsTold.l2]
    rw [if_pos (by omega), if_pos (by omega), if_pos (by omega), if_pos (by omega), r0, h3 k (by omega), obind, h4 k (by omega), obind, if_pos rfl, if_pos (by omega), r1, if_neg (by omega), h5 k (by omega), obind, if_pos rfl]
    dsimp only
    rw [if_pos rfl, wrap_id (n := f + g) (by omega) (by omega), if_pos rfl, show wrap64 ((i : Int) + 1) = ((i + 1 : Nat) : Int) from wrap_id (by omega) (by omega), ih k (by omega)]
theorem vWin_le (l : Rs) (w : Int) : (vWin l w).2.1 ≤ (vWin l w).1 := by
  unfold vWin
  split
  · next h =>
    obtain ⟨p, x, t, hp, -, -, -⟩ := pgaps_true h.1
    have := (win_all hp w.toNat).1 0
    rw [hp]
    show minFrom _ _ ≤ maxFrom _ _
    have e : (some p).getD 0 = p := rfl
    rw [e]
    omega
  · exact Int.le_refl _
theorem j14_ok (m : List Int) (hb : bytesOk m) : Ev (fun k => laws_FnGapsTold.j10 k m) true := by
  obtain ⟨s, w, ⟨Ka, ha⟩, -⟩ := DrawMostInWindow_ok m hb
  obtain ⟨t, ap, ⟨Kb, hb2⟩, -⟩ := DrawPairsInPeriod_ok m hb
  obtain ⟨u, g, ⟨Kc, hc⟩, -⟩ := DrawCountGaps_ok m hb
  obtain ⟨⟨K1, h1⟩, ⟨K2, h2⟩⟩ := MostInWindow_main s w
  obtain ⟨⟨K3, h3⟩, ⟨K4, h4⟩⟩ := LeastInWindow_main s w
  obtain ⟨⟨K5, h5⟩, ⟨K6, h6⟩⟩ := PairsInPeriod_main t ap
  obtain ⟨⟨K7, h7⟩, ⟨K8, h8⟩⟩ := CountGaps_main u g
  dsimp only at ha hb2 hc h1 h2 h3 h4 h5 h6 h7 h8
  refine Ev.mk' (Ka + Kb + Kc + K1 + K2 + K3 + K4 + K5 + K6 + K7 + K8) fun k hk => ?_
  have e : (vMost s w).1 ≥ (vLeast s w).1 := vWin_le s w
  have e2 : ((vMost s w).2 == (vLeast s w).2) = true := beq_iff_eq.2 rfl
  simp only [laws_FnGapsTold.j10]
  rw [ha k (by omega), obind]
  dsimp only
  rw [h2 k (by omega), obind, h1 k (by omega), obind, h4 k (by omega), obind, h3 k (by omega), obind, hb2 k (by omega), obind]
  dsimp only
  rw [h6 k (by omega), obind, h5 k (by omega), obind, hc k (by omega), obind]
  dsimp only
  rw [h8 k (by omega), obind, h7 k (by omega), obind, beq_self_eq_true, if_pos rfl, if_pos rfl, beq_self_eq_true, if_pos rfl, if_pos rfl, e2, if_pos rfl, if_pos e, beq_self_eq_true, if_pos rfl, if_pos rfl, beq_self_eq_true, if_pos rfl, beq_self_eq_true]
theorem rd_last : ∀ (t : List Int) (x : Int), rd (x :: t) (t.length : Int) = lastOf x t
  | [], x => rfl
  | y :: t, x => by
    have := rd_last t y
    simp only [rd, Int.toNat_natCast] at this ⊢
    rw [show (y :: t).length = t.length + 1 from rfl, List.getD_cons_succ]
    exact this
theorem j11_ok (r : Rs) (hg : goodRules r = true) (m : List Int) (hb : bytesOk m) (most : Int) (h0 : 0 ≤ most) (h1 : most ≤ 600) :
    Ev (fun k => laws_FnGapsTold.j7 k m r (gapsL (leftsTo r 1 most)) (recZ (fromL (leftsTo r 1 most)) (gapsL (leftsTo r 1 most)) 0) (leftsTo r 1 most) false) true := by
  obtain ⟨N, hN⟩ : ∃ N, N = leftsTo r 1 most := ⟨_, rfl⟩
  have hlen : N.length ≤ 600 := by have := leftsTo_length r 1 most; rw [← hN] at this; omega
  rw [← hN]
  have hDl : (gapsL N).length ≤ 600 := by rw [gapsL_length]; omega
  have hR : (recZ (fromL N) (gapsL N) 0).length ≤ 600 := Nat.le_trans (recZ_length _ _ _) hDl
  have hj := j14_ok m hb
  have key : RowsOk r N (gapsL N) 0 (recZ (fromL N) (gapsL N) 0) ∧ ∀ y ∈ gapsL N, y ≤ lastB 0 (recZ (fromL N) (gapsL N) 0) := by
    cases hc : N with
    | nil => exact ⟨trivial, fun y hy => absurd hy (by simp [gapsL, dif])⟩
    | cons x T =>
      have hL : lefts r 1 (most + 1 - 1).toNat = x :: T := by rw [← hc, hN]; rfl
      obtain ⟨a1, a2, a3, a4, a5, a6, a7, a8⟩ := lefts_shape r _ 1 x T hL
      have hall := gapOk_left r (most + 1 - 1).toNat 1
      rw [hL] at hall
      have hb : ∀ y ∈ x :: T, 0 ≤ y ∧ y ≤ 600 := fun y hy => by
        have := lefts_ge r (most + 1 - 1).toNat 1 y (by rw [hL]; exact hy)
        omega
      have e1 : gapsL (x :: T) = gaps x T := by
        show dif (rd (x :: T) 0) T = _
        exact dif_gaps2 T x fun y hy => by have := hb y hy; omega
      have e2 : fromL (x :: T) = frm x T := rfl
      have := rec_ok r (x :: T) (gapsL (x :: T)) T x 0 a5 (fun y hy => hall y (List.mem_cons_of_mem _ hy)) hb (fun y hy => hy) (fun y hy => by rw [e1]; exact hy)
      rw [e2, e1]
      rw [e1] at this
      exact ⟨this.1, this.2.2⟩
  obtain ⟨K, hk⟩ := l2_ok r hg m N (gapsL N) (by omega) (by omega) (recZ (fromL N) (gapsL N) 0) (by omega) hj (recZ (fromL N) (gapsL N) 0).length 0 0 (by omega) key.1 key.2
  dsimp only at hk
  refine Ev.mk' K fun k hk2 => ?_
  simp only [laws_FnGapsTold.j7, Bool.false_eq_true, if_false]
  exact hk k hk2
theorem j10_ok (m : List Int) (hb : bytesOk m) (r : Rs) (most : Int) :
    Ev (fun k => (if (gapsUpTo r most).2 = true then ((impl_LeftUpTo.f k r most).bind fun bt163 => (if bt163.2 = true then (if (bt163.1.length : Int) > 0 then (if ((gapsUpTo r most).1.length : Int) = (wrap64 ((bt163.1.length : Int) - 1)) then ((laws_tSum.f k (gapsUpTo r most).1).bind fun t167 => (if 0 ≤ (wrap64 ((bt163.1.length : Int) - 1)) then (if (wrap64 ((bt163.1.length : Int) - 1)) < (bt163.1.length : Int) then (if 0 < (bt163.1.length : Int) then (laws_FnGapsTold.j7 k m r (gapsUpTo r most).1 (recVal r most).1 bt163.1 (t167 != (wrap64 ((rd bt163.1 (wrap64 ((bt163.1.length : Int) - 1))) - (rd bt163.1 0))))) else (none)) else (none)) else (none))) else (some false)) else (laws_FnGapsTold.j7 k m r (gapsUpTo r most).1 (recVal r most).1 bt163.1 false)) else (some false))) else (laws_FnGapsTold.j10 k m))) true := by
  unfold gapsUpTo recVal
  by_cases c : goodRules r = true ∧ mostOk most = true
  · rw [if_pos c, if_pos c]
    have hn := (mostOk_iff most).1 c.2
    obtain ⟨K1, h1⟩ := LeftUpTo_ev r most c.1 c.2
    obtain ⟨K2, h2⟩ := j11_ok r c.1 m hb most hn.1 hn.2
    dsimp only at h1 h2
    obtain ⟨N, hN⟩ : ∃ N, N = leftsTo r 1 most := ⟨_, rfl⟩
    have hlen : N.length ≤ 600 := by have := leftsTo_length r 1 most; rw [← hN] at this; omega
    have hb : ∀ y ∈ N, 1 ≤ y ∧ y ≤ 600 := fun y hy => by
      have := lefts_ge r (most + 1 - 1).toNat 1 y (by rw [hN] at hy; exact hy)
      omega
    have hinc : ∀ x T, N = x :: T → GapOk r x T := fun x T e => by
      have hL : lefts r 1 (most + 1 - 1).toNat = x :: T := by rw [← e, hN]; rfl
      exact (lefts_shape r _ 1 x T hL).2.2.2.2.1
    rw [← hN] at h1 h2 ⊢
    have hD : (gapsL N).length = N.length - 1 := gapsL_length N
    cases hc : N with
    | nil =>
      rw [hc] at h1 h2
      refine ⟨K1 + K2, fun k hk => ?_⟩
      simp only [if_true, h1 k (by omega), obind]
      rw [if_neg (by simp)]
      exact h2 k (by omega)
    | cons x T =>
      rw [hc] at h1 h2 hb hlen hD
      have e1 : gapsL (x :: T) = gaps x T := by
        show dif (rd (x :: T) 0) T = _
        exact dif_gaps2 T x fun y hy => by have := hb y hy; omega
      have hgb : ∀ y ∈ gaps x T, 0 ≤ y ∧ y ≤ 1000000 := by
        intro y hy
        have h3 := (gap_in r T x (hinc x T hc) y hy).1
        have h4 : ∀ (T : List Int) (x : Int), (∀ z ∈ x :: T, 1 ≤ z ∧ z ≤ 600) → ∀ y ∈ gaps x T, y ≤ 1000000 := by
          intro T
          induction T with
          | nil => intro x _ y hy; simp [gaps] at hy
          | cons z T ih =>
            intro x hx y hy
            simp only [gaps, List.mem_cons] at hy
            have q1 := hx x (by simp)
            have q2 := hx z (by simp)
            rcases hy with rfl | hy
            · omega
            · exact ih z (fun q hq => hx q (List.mem_cons_of_mem _ hq)) y hy
        exact ⟨by omega, h4 T x hb y hy⟩
      obtain ⟨K3, h3⟩ := tSum_ev (gaps x T) (by rw [gaps_length]; simp at hlen; omega) hgb
      dsimp only at h3
      rw [gaps_sum] at h3
      have hl1 : lastOf x T ∈ x :: T := by
        have : ∀ (T : List Int) (x : Int), lastOf x T ∈ x :: T := by
          intro T
          induction T with
          | nil => intro x; simp [lastOf]
          | cons z T ih => intro x; exact List.mem_cons_of_mem _ (ih z)
        exact this T x
      have b1 := hb _ hl1
      have b2 := hb x (by simp)
      rw [e1] at h2 hD ⊢
      have hl2 : ((x :: T).length : Int) = (T.length : Int) + 1 := by simp
      have e3 : wrap64 (((x :: T).length : Int) - 1) = (T.length : Int) := by rw [wrap_id (by omega) (by omega)]; omega
      have e4 : ((gaps x T).length : Int) = (T.length : Int) := by rw [gaps_length]
      refine ⟨K1 + K2 + K3, fun k hk => ?_⟩
      simp only [if_true, h1 k (by omega), obind, e3, e4]
      rw [if_pos (by omega), h3 k (by omega), obind, if_pos (by omega), if_pos (by omega), if_pos (by omega), rd_last T x, show rd (x :: T) 0 = x from rfl, wrap_id (by omega) (by omega), bne_self_eq_false]
      exact h2 k (by omega)
  · rw [if_neg c, if_neg c]
    obtain ⟨K, h⟩ := j14_ok m hb
    dsimp only at h
    refine ⟨K, fun k hk => ?_⟩
    simp only [Bool.false_eq_true, if_false]
    exact h k hk
theorem j9_ok (m : List Int) (hb : bytesOk m) : Ev (fun k => laws_FnGapsTold.j6 k m) true := by
  obtain ⟨r, most, ⟨Ka, ha⟩, -⟩ := DrawGapsUpTo_ok m hb
  obtain ⟨⟨K1, h1⟩, ⟨K2, h2⟩⟩ := GapsUpTo_main r most
  obtain ⟨⟨K3, h3⟩, ⟨K4, h4⟩⟩ := RecordGaps_main r most
  obtain ⟨K5, h5⟩ := tSame_ev (gapsUpTo r most).1 (by have := gapsUpTo_len r most; omega)
  obtain ⟨K6, h6⟩ := tRows_ev (recVal r most).1 (by have := recVal_len r most; omega) (fun q hq => by
    unfold recVal at hq
    split at hq
    · have := recZ_rows _ _ _ q hq; omega
    · simp at hq)
  obtain ⟨K7, h7⟩ := j10_ok m hb r most
  dsimp only at ha h1 h2 h3 h4 h5 h6 h7
  have e : ((recVal r most).2 != (gapsUpTo r most).2) = false := by unfold recVal gapsUpTo; split <;> rfl
  refine Ev.mk' (Ka + K1 + K2 + K3 + K4 + K5 + K6 + K7) fun k hk => ?_
  simp only [laws_FnGapsTold.j6]
  rw [ha k (by omega), obind]
  dsimp only
  rw [h2 k (by omega), obind, h1 k (by omega), obind, h4 k (by omega), obind, h3 k (by omega), obind, bne_self_eq_false, if_neg Bool.false_ne_true, h5 k (by omega), obind, if_pos rfl, bne_self_eq_false, if_neg Bool.false_ne_true, h6 k (by omega), obind, if_pos rfl, e, if_neg Bool.false_ne_true]
  exact h7 k (by omega)
theorem l1_ok (l : Rs) (hok : (pgaps l).2.2 = true) (m : List Int) (hb : bytesOk m) : ∀ (d : Nat) (i : Int), i + d = 7 → 1 ≤ i → Ev (fun k => laws_FnGapsTold.l1 k m l i) true
  | 0, i, h, h1 => by
    obtain ⟨K, hk⟩ := j9_ok m hb
    refine Ev.mk' K fun k hk2 => ?_
    simp only [laws_FnGapsTold.l1]
    rw [if_neg (by omega)]; exact hk k hk2
  | d + 1, i, h, h1 => by
    obtain ⟨K, ih⟩ := l1_ok l hok m hb d (i + 1) (by omega) (by omega)
    obtain ⟨-, ⟨K1, h2⟩⟩ := CountGaps_main l i
    obtain ⟨-, ⟨K2, h3⟩⟩ := PairsInPeriod_main l i
    dsimp only at ih h2 h3
    have e1 : vCountGaps l i = (countI i (pgaps l).2.1, true) := by unfold vCountGaps; rw [if_pos ⟨hok, h1⟩]
    have e2 : vPairs l i = (cntP l i (pgaps l).1, true) := by unfold vPairs; rw [if_pos ⟨hok, by omega, by omega⟩]
    rw [e1] at h2
    rw [e2] at h3
    have hle : countI i (pgaps l).2.1 ≤ cntP l i (pgaps l).1 := by
      obtain ⟨p, x, T, hp, hL, q1, q2⟩ := pgaps_true hok
      obtain ⟨-, hall, -, -⟩ := per_chain hp hL
      have hp1 := (period_some hp).2.2
      have hper := period_left hp
      rw [q1, q2]
      refine count_pairs l i (x + p) T x (fun y hy => ?_) (by omega) (by omega) (gaps_all_left hper hall)
      simp only [List.cons_append, List.mem_cons, List.mem_append, List.not_mem_nil, or_false] at hy
      have hx := hall x (by simp)
      rcases hy with rfl | hy | rfl
      · omega
      · have := hall y (List.mem_cons_of_mem _ hy); omega
      · omega
    refine Ev.mk' (K + K1 + K2) fun k hk => ?_
    simp only [laws_FnGapsTold.l1]
    rw [if_pos (by omega), h2 k (by omega), obind, h3 k (by omega), obind]
    dsimp only
    rw [if_pos rfl, if_pos rfl, if_neg (by omega), wrap_id (by omega) (by omega), ih k (by omega)]
theorem j6_ok (l : Rs) (hok : (pgaps l).2.2 = true) (m : List Int) (hb : bytesOk m) :
    Ev (fun k => laws_FnGapsTold.j2 k m l (vRunLeft l).1 (vRunLeft l).2) true := by
  obtain ⟨K0, h0⟩ := l1_ok l hok m hb 6 1 (by omega) (by omega)
  dsimp only at h0
  have h7 : ∀ k, K0 ≤ k → laws_FnGapsTold.j4 (k + 1) m l = some true := fun k hk => by
    simp only [laws_FnGapsTold.j4]; exact h0 k hk
  unfold vRunLeft
  by_cases c : (pgaps l).2.2 = true ∧ l.length ≠ 0
  · rw [if_pos c]
    obtain ⟨R, hR⟩ : ∃ R, R = runs 1 1 ((pgaps l).2.1 ++ (pgaps l).2.1) := ⟨_, rfl⟩
    rw [← hR]
    by_cases c2 : R < 200
    · obtain ⟨p, x, T, hp, hL, q1, q2⟩ := pgaps_true hok
      have hne : l ≠ [] := fun e => c.2 (by rw [e]; rfl)
      obtain ⟨⟨n, hn⟩, hlong⟩ := run_left hp hL hne (pgaps l).2.1 q2
      rw [← hR] at hn hlong
      have hR1 : 1 ≤ R := by rw [hR]; exact runs_ge _ 1 1
      obtain ⟨m, rfl⟩ : ∃ m : Nat, R = m := ⟨R.toNat, by omega⟩
      obtain ⟨-, ⟨K1, h1⟩⟩ := MostInWindow_main l (m : Int)
      obtain ⟨-, ⟨K2, h2⟩⟩ := MostInWindow_main l ((m : Int) + 1)
      dsimp only at h1 h2
      obtain ⟨a1, -, ⟨n1, a2⟩⟩ := win_all hp m
      obtain ⟨b1, -, ⟨n2, b2⟩⟩ := win_all hp (m + 1)
      have e1 : vMost l (m : Int) = ((m : Int), true) := by
        unfold vMost vWin
        rw [if_pos ⟨hok, by omega, by omega⟩, hp]
        show (maxFrom _ _, true) = _
        have z1 := (cw_bound l m n1).2
        have z2 := (cw_full l m n).2 (fun j hj => hn j (by omega) (by omega))
        have z3 := (a1 n).2
        rw [Int.toNat_natCast, show (some p).getD 0 = p from rfl]
        rw [show maxFrom (cw l m 0) (cws l m 1 p) = (m : Int) by omega]
      have e2 : (vMost l ((m : Int) + 1)).2 = true ∧ (vMost l ((m : Int) + 1)).1 ≤ (m : Int) := by
        unfold vMost vWin
        rw [if_pos ⟨hok, by omega, by omega⟩, hp]
        refine ⟨rfl, ?_⟩
        show maxFrom _ _ ≤ _
        rw [show ((m : Int) + 1).toNat = m + 1 by omega, show (some p).getD 0 = p from rfl, b2]
        have z1 := (cw_bound l (m + 1) n2).2
        by_cases z : cw l (m + 1) n2 = ((m + 1 : Nat) : Int)
        · exfalso
          have := hlong n2 (m : Int) (by omega) (fun j j0 j1 => by
            have := (cw_full l (m + 1) n2).1 z j.toNat (by omega)
            rwa [show ((j.toNat : Nat) : Int) = j by omega] at this)
          omega
        · omega
      rw [e1] at h1
      refine Ev.mk' (K0 + K1 + K2 + 3) fun k hk => ?_
      obtain ⟨k, rfl⟩ : ∃ q, k = q + 2 := ⟨k - 2, by omega⟩
      simp only [laws_FnGapsTold.j2, if_true, decide_eq_true c2]
      simp only [laws_FnGapsTold.j3, if_true]
      rw [wrap_id (n := (m : Int) + 1) (by omega) (by omega), h1 (k + 1) (by omega), obind, h2 (k + 1) (by omega), obind]
      dsimp only
      rw [if_pos rfl, if_pos rfl, e2.1, if_pos rfl, if_neg (by have := e2.2; omega)]
      exact h7 k (by omega)
    · refine Ev.mk' (K0 + 3) fun k hk => ?_
      obtain ⟨k, rfl⟩ : ∃ q, k = q + 2 := ⟨k - 2, by omega⟩
      simp only [laws_FnGapsTold.j2, if_true, decide_eq_false c2]
      simp only [laws_FnGapsTold.j3, Bool.false_eq_true, if_false]
      exact h7 k (by omega)
  · rw [if_neg c]
    refine Ev.mk' (K0 + 3) fun k hk => ?_
    obtain ⟨k, rfl⟩ : ∃ q, k = q + 2 := ⟨k - 2, by omega⟩
    simp only [laws_FnGapsTold.j2, Bool.false_eq_true, if_false]
    simp only [laws_FnGapsTold.j3, Bool.false_eq_true, if_false]
    exact h7 k (by omega)
theorem longest_is {l : Rs} (hok : (pgaps l).2.2 = true) : (vLongestGap l).1 ∈ (pgaps l).2.1 ∧ (∀ y ∈ (pgaps l).2.1, y ≤ (vLongestGap l).1) ∧ (vLongestGap l).2.1 ∈ (pgaps l).1 ∧ (vLongestGap l).2.2 = true := by
  obtain ⟨b, hb, e⟩ := (LongestGap_main l).choose_spec.2.2.1 hok
  have e' : vLongestGap l = (rd (pgaps l).2.1 b, rd (pgaps l).1 b, true) := e
  rw [e']
  refine ⟨rd_memI _ _ hb.1, fun y hy => ?_, rd_memI _ _ (by rw [pgaps_same_len]; exact hb.1), rfl⟩
  obtain ⟨k, hk, rfl⟩ := mem_rd _ y hy
  exact hb.2.1 k hk
theorem countI_pos (g : Int) : ∀ (l : List Int), g ∈ l → 1 ≤ countI g l
  | [], h => absurd h (by simp)
  | x :: t, h => by
    have := (countI_bound g t).1
    simp only [countI]
    rcases List.mem_cons.1 h with rfl | h
    · rw [if_pos rfl]; omega
    · have := countI_pos g t h
      split <;> omega
theorem j4_ok (l : Rs) (hok : (pgaps l).2.2 = true) (m : List Int) (hb : bytesOk m) :
    Ev (fun k => (if (vLongestGap l).1 ≤ 200 then ((impl_LeastInWindow.f k l (wrap64 ((vLongestGap l).1 - 1))).bind fun bt133 => ((impl_LeastInWindow.f k l (vLongestGap l).1).bind fun bt135 => (if bt133.2 = true then (if bt133.1 = 0 then (if bt135.2 = true then (if bt135.1 < 1 then (some false) else (laws_FnGapsTold.j2 k m l (vRunLeft l).1 (vRunLeft l).2)) else (some false)) else (some false)) else (some false)))) else (laws_FnGapsTold.j2 k m l (vRunLeft l).1 (vRunLeft l).2))) true := by
  obtain ⟨K, h⟩ := j6_ok l hok m hb
  dsimp only at h
  obtain ⟨m1, m2, -, -⟩ := longest_is hok
  obtain ⟨p, x, T, hp, hL, q1, q2⟩ := pgaps_true hok
  have hg1 := ((run_max (period_some hp).2.1 (period_left hp) hL).1 (vLongestGap l).1 (by rw [← q2]; exact m1)).1
  obtain ⟨m, hm⟩ : ∃ m : Nat, (vLongestGap l).1 = m := ⟨(vLongestGap l).1.toNat, by omega⟩
  rw [hm] at m1 m2 hg1 ⊢
  by_cases c : (m : Int) ≤ 200
  · obtain ⟨-, ⟨K1, h1⟩⟩ := LeastInWindow_main l ((m : Int) - 1)
    obtain ⟨-, ⟨K2, h2⟩⟩ := LeastInWindow_main l (m : Int)
    dsimp only at h1 h2
    rw [q2] at m1 m2
    obtain ⟨z1, z2⟩ := least_gap hp hL m m1 m2
    have e1 : vLeast l ((m : Int) - 1) = (0, true) := by
      unfold vLeast vWin
      rw [if_pos ⟨hok, by omega, by omega⟩, hp]
      show (minFrom _ _, true) = _
      rw [show ((m : Int) - 1).toNat = m - 1 by omega, show (some p).getD 0 = p from rfl, z1]
    have e2 : (vLeast l (m : Int)).2 = true ∧ 1 ≤ (vLeast l (m : Int)).1 := by
      unfold vLeast vWin
      rw [if_pos ⟨hok, by omega, by omega⟩, hp]
      refine ⟨rfl, ?_⟩
      show 1 ≤ minFrom _ _
      rw [Int.toNat_natCast, show (some p).getD 0 = p from rfl]; exact z2
    rw [e1] at h1
    refine ⟨K + K1 + K2, fun k hk => ?_⟩
    dsimp only
    rw [if_pos c, wrap_id (n := (m : Int) - 1) (by omega) (by omega), h1 k (by omega), obind, h2 k (by omega), obind]
    dsimp only
    rw [if_pos rfl, if_pos rfl, e2.1, if_pos rfl, if_neg (by have := e2.2; omega)]
    exact h k (by omega)
  · refine ⟨K, fun k hk => ?_⟩
    dsimp only
    rw [if_neg c]
    exact h k hk
theorem l0_ok (l : Rs) (hok : (pgaps l).2.2 = true) (p : Nat) (hp : period l = some p) (m : List Int) (hb : bytesOk m) : ∀ (d i : Nat), i + d = (pgaps l).2.1.length →
    Ev (fun k => laws_FnGapsTold.l0 k m l (pgaps l).2.1 (vLongestGap l).1 (vLongestGap l).2.1 (vRunLeft l).1 (vRunLeft l).2 (p : Int) (pgaps l).2.1 (pgaps l).2.1.length i) true
  | 0, i, h => by
    obtain ⟨K, h4⟩ := j4_ok l hok m hb
    obtain ⟨m1, m2, m3, -⟩ := longest_is hok
    have hlen := (pgaps_len3 l).1
    obtain ⟨-, ⟨K1, h1⟩⟩ := CountGaps_main l (vLongestGap l).1
    obtain ⟨K2, h2⟩ := tHas_ev (pgaps l).2.1 (by omega) (vLongestGap l).1
    rw [any_mem m1] at h2
    obtain ⟨p', x, T, hp', hL, q1, q2⟩ := pgaps_true hok
    obtain rfl : p = p' := Option.some.inj (hp.symm.trans hp')
    have hg1 := ((run_max (period_some hp).2.1 (period_left hp) hL).1 (vLongestGap l).1 (by rw [← q2]; exact m1)).1
    have e1 : vCountGaps l (vLongestGap l).1 = (countI (vLongestGap l).1 (pgaps l).2.1, true) := by unfold vCountGaps; rw [if_pos ⟨hok, hg1⟩]
    rw [e1] at h1
    have hc := countI_pos _ _ m1
    have hat : 0 ≤ (vLongestGap l).2.1 ∧ (vLongestGap l).2.1 < p := by
      rw [q1] at m3
      exact ((per_chain hp hL).2.1 _ m3).2
    dsimp only at h4 h1 h2
    refine Ev.mk' (K + K1 + K2) fun k hk => ?_
    simp only [laws_FnGapsTold.l0]
    rw [if_neg (by omega), h1 k (by omega), obind]
    dsimp only
    rw [if_pos rfl, if_neg (by omega), h2 k (by omega), obind, if_pos rfl, if_neg (by omega), if_neg (by omega)]
    exact h4 k (by omega)
  | d + 1, i, h => by
    obtain ⟨K, ih⟩ := l0_ok l hok p hp m hb d (i + 1) (by omega)
    obtain ⟨-, m2, -, -⟩ := longest_is hok
    have hlen := (pgaps_len3 l).1
    have hm := rd_memI (pgaps l).2.1 i (by omega)
    have b1 := m2 _ hm
    have b2 := pgaps_pos l _ hm
    dsimp only at ih
    refine Ev.mk' K fun k hk => ?_
    simp only [laws_FnGapsTold.l0]
    rw [if_pos (by omega), if_pos (by omega), if_pos (by omega), if_neg (by omega), if_neg (by omega), show wrap64 ((i : Int) + 1) = ((i + 1 : Nat) : Int) from wrap_id (by omega) (by omega), ih k hk]
theorem j1_ok (l : Rs) (m : List Int) (hb : bytesOk m) :
    Ev (fun k => laws_FnGapsTold.j0 k m l (vGaps l).1 (vGaps l).2 (vLongestGap l).1 (vLongestGap l).2.1 (vRunOut l).1 (vRunLeft l).1 (vRunLeft l).2 false) true := by
  cases hok : (pgaps l).2.2 with
  | false =>
    obtain ⟨K, h⟩ := j9_ok m hb
    dsimp only at h
    refine Ev.mk' K fun k hk => ?_
    simp only [laws_FnGapsTold.j0, Bool.false_eq_true, if_false, vGaps, hok]
    exact h k hk
  | true =>
    obtain ⟨p, x, T, hp, hL, q1, q2⟩ := pgaps_true hok
    obtain ⟨hg, hp0, hp1⟩ := period_some hp
    obtain ⟨K, h⟩ := l0_ok l hok p hp m hb (pgaps l).2.1.length 0 (by omega)
    obtain ⟨K1, h1⟩ := PeriodOfRules_ev l hp
    obtain ⟨K2, h2⟩ := LeftInPeriod_ev l hp
    have hlen := (pgaps_len3 l).1
    obtain ⟨-, hall, -, -⟩ := per_chain hp hL
    have hx := hall x (by simp)
    have hgs := (run_max hp0 (period_left hp) hL).1
    have hgb : ∀ y ∈ (pgaps l).2.1, 0 ≤ y ∧ y ≤ 1000000 := by
      intro y hy
      have h3 := pgaps_pos l y hy
      rw [q2] at hy
      have h4 : ∀ (T : List Int) (x : Int), (∀ z ∈ x :: T, 0 ≤ z ∧ z ≤ 1000000) → ∀ y ∈ gaps x T, y ≤ 1000000 := by
        intro T
        induction T with
        | nil => intro x _ y hy; simp [gaps] at hy
        | cons z T ih =>
          intro x hx y hy
          simp only [gaps, List.mem_cons] at hy
          have q1 := hx x (by simp)
          have q2 := hx z (by simp)
          rcases hy with rfl | hy
          · omega
          · exact ih z (fun q hq => hx q (List.mem_cons_of_mem _ hq)) y hy
      refine ⟨by omega, h4 _ x (fun z hz => ?_) y hy⟩
      simp only [List.mem_cons, List.mem_append, List.not_mem_nil, or_false] at hz
      rcases hz with rfl | hz | rfl
      · omega
      · have := hall z (List.mem_cons_of_mem _ hz); omega
      · omega
    obtain ⟨K3, h3⟩ := tSum_ev (pgaps l).2.1 (by omega) hgb
    dsimp only at h h1 h2 h3
    have hsum : sumI (pgaps l).2.1 = (p : Int) := by rw [q2, gaps_sum, lastOf_snoc]; omega
    rw [hsum] at h3
    have hcnt : ((pgaps l).2.1.length : Int) = ((leftsTo l 1 (p : Int)).length : Int) := by
      rw [left_count hp, hL, q2, gaps_length]; simp
    obtain ⟨m1, m2, -, -⟩ := longest_is hok
    have hrun : (vRunOut l).1 = (vLongestGap l).1 - 1 := by
      unfold vRunOut
      rw [if_pos hok]
      obtain ⟨g0, G, e0⟩ : ∃ g0 G, (pgaps l).2.1 = g0 :: G := by
        cases hh : (pgaps l).2.1 with
        | nil => rw [hh] at m1; exact absurd m1 (by simp)
        | cons a b => exact ⟨a, b, rfl⟩
      have r1 := runOut_max G 1 (fun y hy => by
        have h5 := hgb y (by rw [e0]; exact List.mem_cons_of_mem _ hy)
        have h6 := pgaps_pos l y (by rw [e0]; exact List.mem_cons_of_mem _ hy)
        omega)
      have r2 := runOut_max (g0 :: G) 1 (fun y hy => by
        have h5 := hgb y (by rw [e0]; exact hy)
        have h6 := pgaps_pos l y (by rw [e0]; exact hy)
        omega)
      show runOut 0 (pgaps l).2.1 = _
      rw [e0, show (0 : Int) = 1 - 1 by omega, r2]
      have a1 := maxFrom_all (g0 :: G) 1
      have a2 := maxFrom_mem (g0 :: G) 1
      have b1 := a1 (vLongestGap l).1 (List.mem_cons_of_mem _ (by rw [← e0]; exact m1))
      have b0 := pgaps_pos l _ m1
      rcases List.mem_cons.1 a2 with e | e
      · omega
      · have := m2 _ (by rw [e0]; exact e); omega
    have hl1 := hgb _ m1
    have hl2 := pgaps_pos l _ m1
    refine Ev.mk' (K + K1 + K2 + K3 + 1) fun k hk => ?_
    obtain ⟨k, rfl⟩ : ∃ q, k = q + 1 := ⟨k - 1, by omega⟩
    simp only [laws_FnGapsTold.j0, Bool.false_eq_true, if_false, vGaps, hok, if_true]
    rw [h1 (k + 1) (by omega), obind, h2 (k + 1) (by omega), obind]
    dsimp only
    rw [if_pos rfl, if_pos rfl, if_pos hcnt, h3 (k + 1) (by omega), obind, if_pos rfl, hrun, wrap_id (by omega) (by omega), if_pos rfl]
    exact h (k + 1) (by omega)
theorem all_ok (c0 m : List Int) (hb0 : bytesOk c0) (hb : bytesOk m) : ∃ k, laws_FnGapsTold.f k c0 m = some true := by
  obtain ⟨b, hbig⟩ : ∃ b, laws_big.f c0 m = some b := by
    unfold laws_big.f
    split
    · exact ⟨_, rfl⟩
    · exact ⟨_, rfl⟩
  cases b with
  | true => exact ⟨0, by simp only [laws_FnGapsTold.f]; rw [hbig, obind, if_pos rfl]⟩
  | false =>
  obtain ⟨l, ⟨Ka, ha⟩, -⟩ := DrawGapsOfPeriod_ok c0 hb0
  obtain ⟨⟨K1, h1⟩, ⟨K2, h2⟩⟩ := GapsOfPeriod_main l
  obtain ⟨⟨K3, h3⟩, ⟨K4, h4⟩⟩ := LongestGap_main' l
  obtain ⟨⟨K5, h5⟩, ⟨K6, h6⟩⟩ := LongestRunOut_main l
  obtain ⟨⟨K7, h7⟩, ⟨K8, h8⟩⟩ := LongestRunLeft_main l
  obtain ⟨K9, h9⟩ := tSame_ev (vGaps l).1 (by have := vGaps_len l; omega)
  obtain ⟨K10, h10⟩ := j1_ok l m hb
  dsimp only at ha h1 h2 h3 h4 h5 h6 h7 h8 h9 h10
  have e1 : ((vLongestGap l).2.2 != (vGaps l).2) = false := by
    rw [show (vLongestGap l).2.2 = (pgaps l).2.2 from (LongestGap_main l).choose_spec.1]; exact bne_self_eq_false _
  have e2 : ((vRunOut l).2 != (vGaps l).2) = false := by
    unfold vRunOut vGaps
    cases (pgaps l).2.2 <;> rfl
  have e3 : (if (vGaps l).2 = true then ((vRunLeft l).2 != decide ((l.length : Int) > 0)) else ((vRunLeft l).2 != false)) = false := by
    unfold vRunLeft vGaps
    cases hc : (pgaps l).2.2 with
    | false => simp
    | true =>
      by_cases z : l.length = 0
      · simp [z]
      · simp [z]; omega
  refine ⟨Ka + K1 + K2 + K3 + K4 + K5 + K6 + K7 + K8 + K9 + K10 + 1, ?_⟩
  simp only [laws_FnGapsTold.f]
  rw [hbig, obind, if_neg Bool.false_ne_true, ha _ (by omega), obind, h2 _ (by omega), obind, h1 _ (by omega), obind, h4 _ (by omega), obind, h3 _ (by omega), obind, h6 _ (by omega), obind, h5 _ (by omega), obind, h8 _ (by omega), obind, h7 _ (by omega), obind]
  rw [bne_self_eq_false, if_neg Bool.false_ne_true, h9 _ (by omega), obind, if_pos rfl, bne_self_eq_false, if_neg Bool.false_ne_true, if_pos rfl, if_pos rfl, bne_self_eq_false, if_neg Bool.false_ne_true, if_pos rfl, bne_self_eq_false, if_neg Bool.false_ne_true, if_pos rfl, e1, if_neg Bool.false_ne_true, e2, if_neg Bool.false_ne_true]
  by_cases z : (vGaps l).2 = true
  · rw [if_pos z] at e3
    rw [if_pos z, e3]
    exact h10 _ (by omega)
  · rw [if_neg z] at e3
    rw [if_neg z, e3]
    exact h10 _ (by omega)
theorem bytes_of {l : List Int} (h : ∀ z_ ∈ l, (Lit.int .u8 z_).wf = true) : bytesOk l := fun x hx => by
  have h1 := h x hx
  unfold Lit.wf at h1
  simp only [Bool.and_eq_true, decide_eq_true_eq] at h1
  exact h1
theorem FnGapsTold : laws_FnGapsTold.Pure := by
  intro l0 l1 _ h0 _ h1
  exact all_ok l0 l1 (bytes_of h0) (bytes_of h1)
end Go.Proofs.Ytdcijdeiaefjpaa.P
