/- The plain laws on what the functions answer; the last one: the law FnCoversFound answers true for all arguments. Proved in this text: its theorems. Conditions: as each theorem states them. -/
import Derived.Test.YtdcijdeiaefjpaaCFnCoversFoundP
import Derived.Test.YtdcijdeiaefjpaaCFnCoversFoundF0
import Derived.Test.YtdcijdeiaefjpaaCFnCoversFoundF1
import Derived.Test.YtdcijdeiaefjpaaCFnCoversFoundF2
import Derived.Test.YtdcijdeiaefjpaaCFnCoversFoundF3
import Derived.Deep.Slices
import Derived.Deep.Fields
import Derived.ChangeSame
import Derived.ChangeSlices
import Derived.Lib.SmallJoins
import Derived.ProofKit
import Derived.OpenShut
import Derived.ShutString
import Derived.ChangeOld
import Derived.SizedLaws
import Derived.KernelRfl
namespace Go.Proofs.Ytdcijdeiaefjpaa.P
open Go.RowKit Go.Proofs.YtdcijdeiaefjpaaW.PrintWords Go.Proofs.YtdcijdeiaefjpaaW.PrintLast
set_option linter.unusedVariables false
set_option linter.unusedSimpArgs false
section
open Go.ChangeShapes Go.WideShapes Go.Deep Go.ChangeAt
variable {H : Type} {enc : TypeId × Value → H} {P : Program} {w : World} {base : Nat} {spare : Nat → Bool} {held : Bool}
theorem open_pairs {t e : TypeId} {f0 f1 : Field} {fuel : Nat} {v : Value} {x : DataW H × List MemPlace} (ht : P.underlying t = some (.slice e)) (he : P.underlying e = some (.struct #[f0, f1]))
    (hone : oneCellFields P #[f0, f1] = true) (hC : P.cellsOf e = 2) (h0 : P.underlying f0.type = some (.int .i64)) (h1 : P.underlying f1.type = some (.int .i64)) (h : DataW.trod enc P w base spare held fuel t [v] = some x) :
    ∃ (a : Option Addr) (len cap : Nat) (l : List (Int × Int)), v = .slice a len cap ∧ len = l.length ∧ len ≤ cap ∧ l.length ≤ 9223372036854775807 ∧ (∀ p ∈ l, (Lit.int .i64 p.1).wf = true ∧ (Lit.int .i64 p.2).wf = true) ∧
      (0 < l.length → ∃ ad, a = some ad ∧ ∀ j p, l[j]? = some p → w.cell? (ad.add (j * 2)) = some (.int .i64 p.1) ∧ w.cell? (ad.add (j * 2 + 1)) = some (.int .i64 p.2)) := by
  rcases open_slice ht h with ⟨hcs, -⟩ | ⟨a, len, cap, m, n, D, Pl, hcs, hb, hl, hm, hmm, hx, hi⟩
  · simp at hcs
    exact ⟨none, 0, 0, [], hcs, rfl, Nat.le_refl _, by simp, by simp, by simp⟩
  · simp at hcs
    have hlm : len ≤ m := by rw [hmm]; split <;> omega
    have hget : ∀ i, i < len → ∃ p : Int × Int, w.cell? (a.add (i * 2)) = some (.int .i64 p.1) ∧ w.cell? (a.add (i * 2 + 1)) = some (.int .i64 p.2) ∧ (Lit.int .i64 p.1).wf = true ∧ (Lit.int .i64 p.2).wf = true := by
      intro i him
      obtain ⟨cs', hc, ht'⟩ := hi i (by omega)
      rw [hC] at hc
      obtain ⟨y0, y1, n', hy, -, t0, t1⟩ := trod_struct2 he ht'
      obtain ⟨_, hcl, hat⟩ := World.cells?_some hc
      obtain ⟨o0, k0⟩ := hone_of hone 0 f0 rfl
      obtain ⟨o1, k1⟩ := hone_of hone 1 f1 rfl
      have c0 := hat (i := 0) (by omega)
      have c1 := hat (i := 1) (by omega)
      match cs', hcl with
      | [u0, u1], _ =>
        simp only [o0, k0, List.drop_zero, List.take_succ_cons, List.take_zero] at t0
        simp only [o1, k1, List.drop_succ_cons, List.drop_zero, List.take_succ_cons, List.take_zero] at t1
        obtain ⟨z0, e0, -, w0⟩ := DataW.trod_int h0 t0
        obtain ⟨z1, e1, -, w1⟩ := DataW.trod_int h1 t1
        simp at e0 e1
        subst e0 e1
        refine ⟨(z0, z1), ?_, ?_, w0, w1⟩
        · simpa [Go.Deep.add_add] using c0
        · simpa [Go.Deep.add_add] using c1
    let g : Nat → Int × Int := fun i => if hi : i < len then (hget i hi).choose else (0, 0)
    have hg : ∀ i, i < len → w.cell? (a.add (i * 2)) = some (.int .i64 (g i).1) ∧ w.cell? (a.add (i * 2 + 1)) = some (.int .i64 (g i).2) ∧ (Lit.int .i64 (g i).1).wf = true ∧ (Lit.int .i64 (g i).2).wf = true := by
      intro i hi
      have := (hget i hi).choose_spec
      simpa [g, hi] using this
    refine ⟨some a, len, cap, (List.range len).map g, hcs, by simp, hl, by simp; unfold maxLen at hm; omega, ?_, ?_⟩
    · intro p hp
      simp at hp
      obtain ⟨i, hi, rfl⟩ := hp
      exact ⟨(hg i hi).2.2.1, (hg i hi).2.2.2⟩
    · intro _
      refine ⟨a, rfl, fun j p hj => ?_⟩
      simp [List.getElem?_map] at hj
      obtain ⟨i, hij, rfl⟩ := hj
      have hjl : j < len := by
        have := (List.getElem?_eq_some_iff.1 hij).1
        simpa using this
      have : i = j := by
        have := List.getElem?_range hjl
        rw [this] at hij
        simpa using hij.symm
      subst this
      exact ⟨(hg i hjl).1, (hg i hjl).2.1⟩
theorem open_nums {t e : TypeId} {k : IntKind} {fuel : Nat} {v : Value} {x : DataW H × List MemPlace} (ht : P.underlying t = some (.slice e)) (he : P.underlying e = some (.int k)) (hc : P.cellsOf e = 1)
    (h : DataW.trod enc P w base spare held fuel t [v] = some x) :
    ∃ (a : Option Addr) (len cap : Nat) (l : List Int), v = .slice a len cap ∧ len = l.length ∧ len ≤ cap ∧ l.length ≤ 9223372036854775807 ∧ (∀ n ∈ l, (Lit.int k n).wf = true) ∧ (Kd.int k).C w a l.length l := by
  rcases open_ints ht he hc h with ⟨hcs, -⟩ | ⟨a, len, cap, zs, hcs, hb, hl, hm, hz, hx, hcell, hwf⟩
  · simp at hcs
    exact ⟨none, 0, 0, [], hcs, rfl, Nat.le_refl _, by simp, by simp, Kd.C_nil _ _⟩
  · simp at hcs
    have hlz : len ≤ zs.length := by rw [hz]; split <;> omega
    have hlen : (zs.take len).length = len := by simp; omega
    have hmax : (zs.take len).length ≤ 9223372036854775807 := by rw [hlen]; unfold maxLen at hm; omega
    refine ⟨some a, len, cap, zs.take len, hcs, hlen.symm, hl, hmax, fun n hn => hwf n (List.mem_of_mem_take hn), ?_⟩
    refine Kd.C_of_reads (d := (0 : Int)) (h1 := fun _ => rfl) ⟨rfl, hmax, fun hn => ⟨a, rfl, fun i hi => ?_⟩⟩
    rw [hlen] at hi
    rw [hcell i (by omega)]
    congr 2
    simp [List.getD, hi]
end
end Go.Proofs.Ytdcijdeiaefjpaa.P
namespace Go.Proofs.Ytdcijdeiaefjpaa.P
open Go.RowKit Go.Proofs.YtdcijdeiaefjpaaW.PrintWords Go.Proofs.YtdcijdeiaefjpaaW.PrintLast
set_option linter.unusedVariables false
set_option linter.unusedSimpArgs false
theorem Ev.get {α : Type} {g : Nat → Option α} {r : α} (h : Ev g r) : ∃ K, ∀ k, K ≤ k → g k = some r := h
theorem Ev.mk' {α : Type} {g : Nat → Option α} {r : α} (K : Nat) (h : ∀ k, K ≤ k → g (k + 1) = some r) : Ev g r :=
  ⟨K + 1, fun k hk => by obtain ⟨m, rfl⟩ : ∃ m, k = m + 1 := ⟨k - 1, by omega⟩; exact h m (by omega)⟩
theorem Ev.pos {α : Type} {c : Prop} [Decidable c] {g f : Nat → Option α} {r : α} (hc : c) (h : Ev g r) : Ev (fun k => if c then g k else f k) r := by
  obtain ⟨K, h⟩ := h
  exact ⟨K, fun k hk => by show (if c then g k else f k) = some r; rw [if_pos hc]; exact h k hk⟩
theorem Ev.neg {α : Type} {c : Prop} [Decidable c] {g f : Nat → Option α} {r : α} (hc : ¬ c) (h : Ev f r) : Ev (fun k => if c then g k else f k) r := by
  obtain ⟨K, h⟩ := h
  exact ⟨K, fun k hk => by show (if c then g k else f k) = some r; rw [if_neg hc]; exact h k hk⟩
theorem Ev.let_ {α β : Type} {f : Nat → α → Option β} {a : α} {r : β} (k : Ev (fun n => f n a) r) : Ev (fun n => (some a).bind (f n)) r := k
theorem Ev.some_ {α : Type} {a r : α} (h : a = r) : Ev (fun _ => some a) r := ⟨0, fun _ _ => by rw [h]⟩
theorem Ev.eq_ {α : Type} {g : Nat → Option α} {a r : α} (h : Ev g a) (e : a = r) : Ev g r := e ▸ h
theorem wrap_id {n : Int} (h1 : -9223372036854775808 ≤ n) (h2 : n ≤ 9223372036854775807) : wrap64 n = n := by unfold wrap64; omega
theorem wf_int {n : Int} (h : (Lit.int .i64 n).wf = true) : -9223372036854775808 ≤ n ∧ n ≤ 9223372036854775807 := by
  unfold Lit.wf at h
  simp only [Bool.and_eq_true, decide_eq_true_eq] at h
  exact h
theorem obind {α β : Type} (a : α) (f : α → Option β) : (some a).bind f = f a := id rfl
end Go.Proofs.Ytdcijdeiaefjpaa.P
namespace Go.Proofs.Ytdcijdeiaefjpaa.P
open Go.RowKit Go.Proofs.YtdcijdeiaefjpaaW.PrintWords Go.Proofs.YtdcijdeiaefjpaaW.PrintLast
set_option linter.unusedVariables false
set_option linter.unusedSimpArgs false
theorem l1In_ok (a b c : Int) : spec_l1In.f a b c = some (decide (b ≤ a) && decide (a ≤ c)) := by
  unfold spec_l1In.f
  by_cases h : b ≤ a <;> simp [h]
end Go.Proofs.Ytdcijdeiaefjpaa.P
namespace Go.Proofs.Ytdcijdeiaefjpaa.P
open Go.RowKit Go.Proofs.YtdcijdeiaefjpaaW.PrintWords Go.Proofs.YtdcijdeiaefjpaaW.PrintLast
set_option linter.unusedVariables false
set_option linter.unusedSimpArgs false
def left (l : List SRule) (n : Int) : Bool := !(l.any (crosses n))
def goodRules (l : List SRule) : Bool := decide (l.length ≤ 12) && l.all okRule
theorem okRule_iff (x : SRule) : okRule x = true ↔ 2 ≤ x.f0 ∧ x.f0 ≤ 60 ∧ 0 ≤ x.f1 ∧ x.f1 < x.f0 := by
  unfold okRule; simp
theorem siRule_ok (x : SRule) : spec_siRule.f x.f0 x.f1 = some (okRule x) := by
  unfold spec_siRule.f okRule
  simp only [l1In_ok, Option.bind_some]
  by_cases h1 : 2 ≤ x.f0
  · by_cases h2 : x.f0 ≤ 60
    · have : wrap64 (x.f0 - 1) = x.f0 - 1 := wrap_id (by omega) (by omega)
      rw [this]
      by_cases h3 : 0 ≤ x.f1
      · simp [h1, h2, h3]; omega
      · simp [h1, h2, h3]
    · simp [h1, h2]
  · simp [h1]
theorem rd_drop (l : List SRule) (k : Nat) (h : k < l.length) : l.drop k = rd_Rule l k :: l.drop (k + 1) := drop_rd l k h
theorem siGood_l0 (l : List SRule) (hm : l.length ≤ 12) : ∀ d i : Nat, i + d = l.length → Ev (fun k => spec_siGood.l0 k l l.length i) ((l.drop i).all okRule)
  | 0, i, h => Ev.mk' 0 fun k _ => by
    simp only [spec_siGood.l0]
    rw [if_neg (by omega), List.drop_eq_nil_of_le (by omega)]; rfl
  | d + 1, i, h => by
    obtain ⟨K, ih⟩ := siGood_l0 l hm d (i + 1) (by omega)
    dsimp only at ih
    refine Ev.mk' K fun k hk => ?_
    simp only [spec_siGood.l0]
    rw [if_pos (by omega), if_pos (by omega), if_pos (by omega), siRule_ok, rd_drop l i (by omega), List.all_cons, Option.bind_some]
    rw [show wrap64 ((i : Int) + 1) = ((i + 1 : Nat) : Int) from wrap_id (by omega) (by omega), ih k hk]
    cases okRule (rd_Rule l i) <;> simp
theorem siGood_ev (l : List SRule) : Ev (fun k => spec_siGood.f k l) (goodRules l) := by
  unfold goodRules
  by_cases h : l.length ≤ 12
  · obtain ⟨K, ih⟩ := siGood_l0 l h l.length 0 (by omega)
    refine ⟨K, fun k hk => ?_⟩
    simp only [spec_siGood.f]
    rw [if_neg (by omega)]
    simpa [h] using ih k hk
  · refine ⟨0, fun k _ => ?_⟩
    simp only [spec_siGood.f]
    rw [if_pos (by omega)]
    simp [h]
theorem areRules_ok (l : List SRule) : impl_areRules.f l = some (goodRules l) := rfl
theorem good_all {l : List SRule} (h : goodRules l = true) : l.length ≤ 12 ∧ l.all okRule = true := by
  unfold goodRules at h
  simpa using h
theorem siRest_ok (n : Int) (x : SRule) (h : okRule x = true) : spec_siRest.f n x.f0 = some (n % x.f0) := by
  have := mod_ok n x.f0 ((okRule_iff x).1 h).1 ((okRule_iff x).1 h).2.1
  exact this
theorem siFirst_l0 (n : Int) (l : List SRule) (hm : l.length ≤ 9223372036854775807) (hl : l.all okRule = true) : ∀ d i : Nat, i + d = l.length → Ev (fun k => spec_siFirst.l0 k n l l.length i) (firstIx (crosses n) (l.drop i) i)
  | 0, i, h => Ev.mk' 0 fun k _ => by
    simp only [spec_siFirst.l0]
    rw [if_neg (by omega), List.drop_eq_nil_of_le (by omega)]; rfl
  | d + 1, i, h => by
    obtain ⟨K, ih⟩ := siFirst_l0 n l hm hl d (i + 1) (by omega)
    dsimp only at ih
    refine Ev.mk' K fun k hk => ?_
    simp only [spec_siFirst.l0]
    rw [if_pos (by omega), if_pos (by omega), if_pos (by omega), siRest_ok n _ (List.all_eq_true.mp hl _ (rd_mem l i (by omega))), rd_drop l i (by omega), Option.bind_some]
    rw [show wrap64 ((i : Int) + 1) = ((i + 1 : Nat) : Int) from wrap_id (by omega) (by omega), ih k hk]
    rw [firstIx]
    by_cases hc : n % (rd_Rule l i).f0 = (rd_Rule l i).f1
    · rw [if_pos hc, if_pos (by simp [crosses, hc])]
    · rw [if_neg hc, if_neg (by simp [crosses, hc])]; rfl
theorem siFirst_ev (n : Int) (l : List SRule) (hm : l.length ≤ 9223372036854775807) (hl : l.all okRule = true) : Ev (fun k => spec_siFirst.f k l n) (firstIx (crosses n) l 0) :=
  siFirst_l0 n l hm hl l.length 0 (by omega)
theorem first_left (n : Int) (l : List SRule) : decide (firstIx (crosses n) l 0 < 0) = left l n := by
  have h := firstIx_any (crosses n) l 0 (by omega)
  unfold left
  rw [← h]
  by_cases hc : 0 ≤ firstIx (crosses n) l 0
  · simp [hc, Int.not_lt.mpr hc]
  · simp [hc, Int.not_le.mp hc]
theorem siLeft_ev (n : Int) (l : List SRule) (hm : l.length ≤ 9223372036854775807) (hl : l.all okRule = true) : Ev (fun k => spec_siLeft.f k l n) (left l n) := by
  obtain ⟨K, h⟩ := siFirst_ev n l hm hl
  refine ⟨K, fun k hk => ?_⟩
  simp only [spec_siLeft.f, h k hk, Option.bind_some, first_left]
theorem isLeft_ok (n : Int) (l : List SRule) (hl : l.all okRule = true) : impl_isLeft.f l n = some (left l n) := by
  simp only [impl_isLeft.f, impl_firstRule.f, if_pos hl, Option.bind_some, first_left]
end Go.Proofs.Ytdcijdeiaefjpaa.P
namespace Go.Proofs.Ytdcijdeiaefjpaa.P
open Go.RowKit Go.Proofs.YtdcijdeiaefjpaaW.PrintWords Go.Proofs.YtdcijdeiaefjpaaW.PrintLast
set_option linter.unusedVariables false
set_option linter.unusedSimpArgs false
def lefts (l : List SRule) (i : Int) : Nat → List Int
  | 0 => []
  | m + 1 => (if left l i = true then [i] else []) ++ lefts l (i + 1) m
theorem lefts_length (l : List SRule) (m : Nat) : ∀ i, (lefts l i m).length ≤ m := by
  induction m with
  | zero => intro i; simp [lefts]
  | succ m ih =>
    intro i
    have := ih (i + 1)
    simp only [lefts, List.length_append]
    split <;> simp <;> omega
theorem leftBetween_l0 (l : List SRule) (hl : l.all okRule = true) (hi : Int) (h2 : hi ≤ 4611686018427387904) : ∀ (m : Nat) (i : Int) (acc : List Int), i + m = hi + 1 → -4611686018427387904 ≤ i → acc.length + m < 17592186044416 → Ev (fun k => impl_leftBetween.l0 k l hi acc i) (acc ++ lefts l i m)
  | 0, i, acc, h, h0, h1 => Ev.mk' 0 fun k _ => by
    simp only [impl_leftBetween.l0]
    rw [if_neg (by omega)]; simp [lefts]
  | m + 1, i, acc, h, h0, h1 => by
    simp only [lefts]
    by_cases hc : left l i = true
    · obtain ⟨K, ih⟩ := leftBetween_l0 l hl hi h2 m (i + 1) (acc ++ [i]) (by omega) (by omega) (by simp; omega)
      dsimp only at ih
      refine Ev.mk' K fun k hk => ?_
      simp only [impl_leftBetween.l0, isLeft_ok i l hl, Option.bind_some]
      rw [if_pos (by omega), if_pos hc, if_pos (by omega), wrap_id (by omega) (by omega), ih k hk, if_pos hc]
      simp
    · obtain ⟨K, ih⟩ := leftBetween_l0 l hl hi h2 m (i + 1) acc (by omega) (by omega) (by omega)
      dsimp only at ih
      refine Ev.mk' K fun k hk => ?_
      simp only [impl_leftBetween.l0, isLeft_ok i l hl, Option.bind_some]
      rw [if_pos (by omega), if_neg hc, wrap_id (by omega) (by omega), ih k hk, if_neg hc]
      simp
def leftsTo (l : List SRule) (lo hi : Int) : List Int := lefts l lo (hi + 1 - lo).toNat
theorem leftBetween_ev (l : List SRule) (hl : l.all okRule = true) (lo hi : Int) (h0 : -4611686018427387904 ≤ lo) (h2 : hi ≤ 4611686018427387904) (h1 : hi - lo < 17592186044415) : Ev (fun k => impl_leftBetween.f k l lo hi) (leftsTo l lo hi) := by
  unfold leftsTo
  by_cases h : lo ≤ hi + 1
  · obtain ⟨K, ih⟩ := leftBetween_l0 l hl hi h2 (hi + 1 - lo).toNat lo [] (by omega) h0 (by simp; omega)
    refine ⟨K, fun k hk => ?_⟩
    simp only [impl_leftBetween.f]
    simpa using ih k hk
  · refine Ev.mk' 0 fun k _ => ?_
    simp only [impl_leftBetween.f, impl_leftBetween.l0]
    rw [if_neg (by omega), show (hi + 1 - lo).toNat = 0 by omega]; rfl
end Go.Proofs.Ytdcijdeiaefjpaa.P
namespace Go.Proofs.Ytdcijdeiaefjpaa.P
open Go.RowKit Go.Proofs.YtdcijdeiaefjpaaW.PrintWords Go.Proofs.YtdcijdeiaefjpaaW.PrintLast
set_option linter.unusedVariables false
set_option linter.unusedSimpArgs false
theorem gpCovers_l0 (l : List SRule) (hm : l.length ≤ 12) (hl : l.all okRule = true) (hi : Int) (h2 : hi ≤ 4611686018427387904) : ∀ (m : Nat) (i : Int), i + m = hi + 1 → -4611686018427387904 ≤ i → Ev (fun k => spec_gpCovers.l0 k l hi i) ((lefts l i m).length == 0)
  | 0, i, h, h0 => Ev.mk' 0 fun k _ => by
    simp only [spec_gpCovers.l0]
    rw [if_neg (by omega)]; rfl
  | m + 1, i, h, h0 => by
    obtain ⟨K1, h1⟩ := siLeft_ev i l (by omega) hl
    obtain ⟨K, ih⟩ := gpCovers_l0 l hm hl hi h2 m (i + 1) (by omega) (by omega)
    dsimp only at ih h1
    refine Ev.mk' (K + K1) fun k hk => ?_
    simp only [spec_gpCovers.l0, h1 k (by omega), Option.bind_some]
    rw [if_pos (by omega), wrap_id (by omega) (by omega), ih k (by omega), lefts]
    cases left l i <;> simp
theorem gpCovers_ev (l : List SRule) (hm : l.length ≤ 12) (hl : l.all okRule = true) (n : Int) (h0 : 0 ≤ n) (h1 : n ≤ 40) : Ev (fun k => spec_gpCovers.f k l n) ((leftsTo l 1 n).length == 0) := by
  obtain ⟨K, ih⟩ := gpCovers_l0 l hm hl n (by omega) (n + 1 - 1).toNat 1 (by omega) (by omega)
  refine ⟨K, fun k hk => ?_⟩
  simp only [spec_gpCovers.f]
  exact ih k hk
end Go.Proofs.Ytdcijdeiaefjpaa.P
namespace Go.Proofs.Ytdcijdeiaefjpaa.P
open Go.RowKit Go.Proofs.YtdcijdeiaefjpaaW.PrintWords Go.Proofs.YtdcijdeiaefjpaaW.PrintLast
set_option linter.unusedVariables false
set_option linter.unusedSimpArgs false
theorem rd_dropP (l : List Int) (k : Nat) (h : k < l.length) : l.drop k = rd l k :: l.drop (k + 1) := by
  rw [List.drop_eq_getElem_cons h]
  simp [rd, List.getD, h]
def isSix (x : Int) : Bool := x == 2 || (x == 3 || (x == 5 || (x == 7 || (x == 11 || x == 13))))
def incF : Int → List Int → Bool
  | _, [] => true
  | a, b :: t => decide (a < b) && incF b t
def inc : List Int → Bool
  | [] => true
  | a :: t => incF a t
def primeList (l : List Int) : Bool := decide (l.length ≤ 5) && (l.all isSix && inc l)
theorem reIs_ev (x : Int) : Ev (fun k => spec_reIs.f k x) (isSix x) := by
  refine ⟨7, fun k hk => ?_⟩
  obtain ⟨k, rfl⟩ : ∃ m, k = m + 7 := ⟨k - 7, by omega⟩
  unfold isSix
  simp only [spec_reIs.f, spec_reIs.l0, spec_rePrime.f, wrap64]
  by_cases h0 : (2 : Int) = x
  · subst h0; rfl
  by_cases h1 : (3 : Int) = x
  · subst h1; rfl
  by_cases h2 : (5 : Int) = x
  · subst h2; rfl
  by_cases h3 : (7 : Int) = x
  · subst h3; rfl
  by_cases h4 : (11 : Int) = x
  · subst h4; rfl
  by_cases h5 : (13 : Int) = x
  · subst h5; rfl
  have e0 : ¬ x = 2 := fun e => h0 e.symm
  have e1 : ¬ x = 3 := fun e => h1 e.symm
  have e2 : ¬ x = 5 := fun e => h2 e.symm
  have e3 : ¬ x = 7 := fun e => h3 e.symm
  have e4 : ¬ x = 11 := fun e => h4 e.symm
  have e5 : ¬ x = 13 := fun e => h5 e.symm
  simp [h0, h1, h2, h3, h4, h5, e0, e1, e2, e3, e4, e5, obind]
theorem isOneOfSix_ev (x : Int) : Ev (fun k => impl_isOneOfSix.f k x) (isSix x) := by
  refine ⟨7, fun k hk => ?_⟩
  obtain ⟨k, rfl⟩ : ∃ m, k = m + 7 := ⟨k - 7, by omega⟩
  unfold isSix
  simp only [impl_isOneOfSix.f, impl_firstSix.f, obind, slices_Contains_int_int.f, slices_Index_int_int.f, slices_Index_int_int.l0, wrap64, rd]
  by_cases h0 : x = 2
  · subst h0; rfl
  by_cases h1 : x = 3
  · subst h1; rfl
  by_cases h2 : x = 5
  · subst h2; rfl
  by_cases h3 : x = 7
  · subst h3; rfl
  by_cases h4 : x = 11
  · subst h4; rfl
  by_cases h5 : x = 13
  · subst h5; rfl
  simp [h0, h1, h2, h3, h4, h5, obind]
theorem has_l0 (x : Int) (l : List Int) (hm : l.length ≤ 4611686018427387904) : ∀ (d i : Nat), i + d = l.length → Ev (fun k => spec_l1Has.l0 k x l l.length i) ((l.drop i).any (fun y => y == x))
  | 0, i, h => Ev.mk' 0 fun k _ => by
    simp only [spec_l1Has.l0]
    rw [if_neg (by omega), List.drop_eq_nil_of_le (by omega)]; rfl
  | d + 1, i, h => by
    obtain ⟨K, ih⟩ := has_l0 x l hm d (i + 1) (by omega)
    dsimp only at ih
    refine Ev.mk' K fun k hk => ?_
    simp only [spec_l1Has.l0]
    rw [if_pos (by omega), if_pos (by omega), if_pos (by omega), rd_dropP l i (by omega), List.any_cons]
    rw [show wrap64 ((i : Int) + 1) = ((i + 1 : Nat) : Int) from wrap_id (by omega) (by omega), ih k hk]
    by_cases hc : rd l i = x
    · rw [if_pos hc]; simp [hc]
    · rw [if_neg hc]; simp [hc]
theorem has_ev (x : Int) (l : List Int) (hm : l.length ≤ 4611686018427387904) : Ev (fun k => spec_l1Has.f k l x) (l.any (fun y => y == x)) := by
  obtain ⟨K, ih⟩ := has_l0 x l hm l.length 0 (by omega)
  exact ⟨K, fun k hk => ih k hk⟩
def allNd : List Int → List Int → Bool
  | _, [] => true
  | pre, x :: t => isSix x && (!(pre.any (fun y => y == x)) && allNd (pre ++ [x]) t)
theorem rePrimes_l0 (l : List Int) (hm : l.length ≤ 4611686018427387904) : ∀ (d i : Nat), i + d = l.length → Ev (fun k => spec_rePrimes.l0 k l l l.length i) (allNd (l.take i) (l.drop i))
  | 0, i, h => Ev.mk' 0 fun k _ => by
    simp only [spec_rePrimes.l0]
    rw [if_neg (by omega), List.drop_eq_nil_of_le (by omega)]; rfl
  | d + 1, i, h => by
    obtain ⟨K, ih⟩ := rePrimes_l0 l hm d (i + 1) (by omega)
    obtain ⟨K1, h1⟩ := reIs_ev (rd l i)
    obtain ⟨K2, h2⟩ := has_ev (rd l i) (l.take i) (by simp; omega)
    dsimp only at ih h1 h2
    refine Ev.mk' (K + K1 + K2) fun k hk => ?_
    have e : l.take (i + 1) = l.take i ++ [rd l i] := by
      rw [List.take_succ_eq_append_getElem (by omega)]
      simp [rd, List.getD, show i < l.length by omega]
    have ih := ih k (by omega)
    rw [e] at ih
    simp only [spec_rePrimes.l0]
    rw [if_pos (by omega), if_pos (by omega), if_pos (by omega), h1 k (by omega), obind, if_pos (show (i : Int) ≤ (l.length : Int) by omega), Int.toNat_natCast, h2 k (by omega), obind]
    rw [show wrap64 ((i : Int) + 1) = ((i + 1 : Nat) : Int) from wrap_id (by omega) (by omega), ih, rd_dropP l i (by omega), allNd]
    cases isSix (rd l i) <;> cases (l.take i).any (fun y => y == rd l i) <;> simp
theorem rePrimes_ev (l : List Int) : Ev (fun k => spec_rePrimes.f k l) (decide (l.length ≤ 6) && allNd [] l) := by
  by_cases h : l.length ≤ 6
  · obtain ⟨K, ih⟩ := rePrimes_l0 l (by omega) l.length 0 (by omega)
    have ih : ∀ k, K ≤ k → spec_rePrimes.l0 k l l l.length 0 = _ := ih
    refine ⟨K, fun k hk => ?_⟩
    simp only [spec_rePrimes.f]
    rw [if_neg (by omega), ih k hk]
    simp [h]
  · refine ⟨0, fun k _ => ?_⟩
    simp only [spec_rePrimes.f]
    rw [if_pos (by omega)]; simp [h]
theorem gpPrimes_l0 (l : List Int) (hm : l.length ≤ 4611686018427387904) : ∀ (d i : Nat), i + 1 + d = l.length → Ev (fun k => spec_gpPrimes.l0 k l ((i + 1 : Nat) : Int)) (incF (rd l i) (l.drop (i + 1)))
  | 0, i, h => Ev.mk' 0 fun k _ => by
    simp only [spec_gpPrimes.l0]
    rw [if_neg (by omega), List.drop_eq_nil_of_le (by omega)]; rfl
  | d + 1, i, h => by
    obtain ⟨K, ih⟩ := gpPrimes_l0 l hm d (i + 1) (by omega)
    dsimp only at ih
    refine Ev.mk' K fun k hk => ?_
    simp only [spec_gpPrimes.l0]
    rw [show wrap64 (((i + 1 : Nat) : Int) - 1) = (i : Int) by rw [wrap_id (by omega) (by omega)]; omega]
    rw [if_pos (by omega), if_pos (by omega), if_pos (by omega), if_pos (by omega)]
    rw [show wrap64 (((i + 1 : Nat) : Int) + 1) = ((i + 1 + 1 : Nat) : Int) from wrap_id (by omega) (by omega), ih k hk, rd_dropP l (i + 1) (by omega), incF]
    generalize rd l ((i + 1 : Nat) : Int) = v
    by_cases hc : rd l i < v
    · rw [if_neg (by omega)]; simp [hc]
    · rw [if_pos (by omega)]; simp [hc]
theorem gpPrimes_l (l : List Int) (hm : l.length ≤ 4611686018427387904) : Ev (fun k => spec_gpPrimes.l0 k l 1) (inc l) := by
  cases l with
  | nil =>
    refine Ev.mk' 0 fun k _ => ?_
    simp only [spec_gpPrimes.l0]
    rw [if_neg (by simp)]; rfl
  | cons x t =>
    obtain ⟨K, ih⟩ := gpPrimes_l0 (x :: t) hm t.length 0 (by simp; omega)
    exact ⟨K, fun k hk => ih k hk⟩
theorem nd_of_inc : ∀ (t pre : List Int) (a : Int), incF a t = true → (∀ y ∈ pre, y ≤ a) → allNd pre t = t.all isSix
  | [], _, _, _, _ => rfl
  | b :: t, pre, a, hi, hp => by
    simp only [incF, Bool.and_eq_true, decide_eq_true_eq] at hi
    have h1 : pre.any (fun y => y == b) = false := by
      rw [List.any_eq_false]
      intro y hy
      have := hp y hy
      simp; omega
    rw [allNd, h1, nd_of_inc t (pre ++ [b]) b hi.2 (fun y hy => by
      simp only [List.mem_append, List.mem_singleton] at hy
      rcases hy with hy | rfl
      · have := hp y hy; omega
      · exact Int.le_refl _)]
    simp
theorem nd_inc (l : List Int) (h : inc l = true) : allNd [] l = l.all isSix := by
  cases l with
  | nil => rfl
  | cons x t =>
    rw [allNd, nd_of_inc t ([] ++ [x]) x h (by simp)]
    simp
theorem gpPrimes_ev (l : List Int) : Ev (fun k => spec_gpPrimes.f k l) (primeList l) := by
  unfold primeList
  by_cases h : l.length ≤ 5
  · obtain ⟨K1, h1⟩ := rePrimes_ev l
    obtain ⟨K2, h2⟩ := gpPrimes_l l (by omega)
    dsimp only at h1 h2
    refine Ev.mk' (K1 + K2) fun k hk => ?_
    simp (disch := omega) only [spec_gpPrimes.f, h1, obind]
    rw [if_neg (by omega)]
    simp (disch := omega) only [spec_gpPrimes.j0, h2]
    have h6 : l.length ≤ 6 := by omega
    cases hi : inc l
    · cases allNd [] l <;> simp [h, h6]
    · rw [nd_inc l hi]
      cases l.all isSix <;> simp [h, h6]
  · refine Ev.mk' 0 fun k _ => ?_
    simp only [spec_gpPrimes.f, spec_gpPrimes.j0]
    rw [if_pos (by omega)]; simp [h]
theorem arePrimeList_l0 (l : List Int) (hm : l.length ≤ 4611686018427387904) : ∀ (d i : Nat), i + 1 + d = l.length → Ev (fun k => impl_arePrimeList.l0 k l l l.length ((i + 1 : Nat) : Int)) (decide (l.length ≤ 5) && ((l.drop (i + 1)).all isSix && incF (rd l i) (l.drop (i + 1))))
  | 0, i, h => Ev.mk' 0 fun k _ => by
    simp only [impl_arePrimeList.l0]
    rw [if_neg (by omega), List.drop_eq_nil_of_le (by omega)]
    congr 1
    rw [Bool.eq_iff_iff]; simp [incF]; omega
  | d + 1, i, h => by
    obtain ⟨K, ih⟩ := arePrimeList_l0 l hm d (i + 1) (by omega)
    obtain ⟨K1, h1⟩ := isOneOfSix_ev (rd l ((i + 1 : Nat) : Int))
    dsimp only at ih h1
    refine Ev.mk' (K + K1) fun k hk => ?_
    simp only [impl_arePrimeList.l0]
    rw [show wrap64 (((i + 1 : Nat) : Int) - 1) = (i : Int) by rw [wrap_id (by omega) (by omega)]; omega]
    rw [if_pos (by omega), if_pos (by omega), if_pos (by omega), h1 k (by omega), obind, if_pos (show ((i + 1 : Nat) : Int) > 0 by omega), if_pos (show (0 : Int) ≤ (i : Int) by omega), if_pos (show (i : Int) < (l.length : Int) by omega)]
    rw [show wrap64 (((i + 1 : Nat) : Int) + 1) = ((i + 1 + 1 : Nat) : Int) from wrap_id (by omega) (by omega), ih k (by omega), rd_dropP l (i + 1) (by omega), incF, List.all_cons]
    generalize rd l ((i + 1 : Nat) : Int) = v
    cases isSix v
    · simp
    · by_cases hc : rd l i < v
      · rw [if_pos rfl, if_neg (show ¬ rd l i ≥ v by omega)]; simp [hc]
      · rw [if_pos rfl, if_pos (show rd l i ≥ v by omega)]; simp [hc]
theorem arePrimeList_ev (l : List Int) (hm : l.length ≤ 4611686018427387904) : Ev (fun k => impl_arePrimeList.f k l) (primeList l) := by
  unfold primeList
  cases l with
  | nil =>
    refine Ev.mk' 0 fun k _ => ?_
    simp only [impl_arePrimeList.f, impl_arePrimeList.l0]
    rw [if_neg (by simp)]; rfl
  | cons x t =>
    obtain ⟨K, ih⟩ := arePrimeList_l0 (x :: t) hm t.length 0 (by simp; omega)
    obtain ⟨K1, h1⟩ := isOneOfSix_ev x
    have ih : ∀ k, K ≤ k → impl_arePrimeList.l0 k (x :: t) (x :: t) (x :: t).length 1 = _ := ih
    dsimp only at h1
    have hr : rd (x :: t) 0 = x := rfl
    have hw : wrap64 (0 + 1) = 1 := wrap_id (by omega) (by omega)
    refine Ev.mk' (K + K1) fun k hk => ?_
    simp only [impl_arePrimeList.f, impl_arePrimeList.l0]
    rw [if_pos (by simp), if_pos (by omega), if_pos (by simp), hr, h1 k (by omega), obind, if_neg (show ¬ (0 : Int) > 0 by omega), hw, ih k (by omega), List.all_cons, inc]
    cases isSix x
    · simp
    · simp [hr]
def withoutL : List Int → List SRule
  | [] => []
  | p :: t => ⟨p, 0⟩ :: withoutL t
theorem withoutL_length : ∀ l, (withoutL l).length = l.length
  | [] => rfl
  | p :: t => by simp [withoutL, withoutL_length t]
theorem without_l0 (l : List Int) (hm : l.length ≤ 5) : ∀ (d i : Nat) (acc : List SRule), i + d = l.length → acc.length ≤ i → Ev (fun k => spec_RulesWithout.l0 k acc l l.length i) (acc ++ withoutL (l.drop i), true) ∧ Ev (fun k => impl_RulesWithout.l0 k acc l l.length i) (acc ++ withoutL (l.drop i), true)
  | 0, i, acc, h, ha => by
    rw [List.drop_eq_nil_of_le (by omega)]
    constructor
    · refine Ev.mk' 0 fun k _ => ?_
      simp only [spec_RulesWithout.l0]
      rw [if_neg (by omega)]; simp [withoutL]
    · refine Ev.mk' 0 fun k _ => ?_
      simp only [impl_RulesWithout.l0]
      rw [if_neg (by omega)]; simp [withoutL]
  | d + 1, i, acc, h, ha => by
    obtain ⟨⟨K1, h1⟩, ⟨K2, h2⟩⟩ := without_l0 l hm d (i + 1) (acc ++ [⟨rd l i, 0⟩]) (by omega) (by simp; omega)
    dsimp only at h1 h2
    rw [rd_dropP l i (by omega), withoutL]
    constructor
    · refine Ev.mk' K1 fun k hk => ?_
      simp only [spec_RulesWithout.l0]
      rw [if_pos (by omega), if_pos (by omega), if_pos (by omega), if_pos (by omega), show wrap64 ((i : Int) + 1) = ((i + 1 : Nat) : Int) from wrap_id (by omega) (by omega), h1 k hk]
      simp
    · refine Ev.mk' K2 fun k hk => ?_
      simp only [impl_RulesWithout.l0]
      rw [if_pos (by omega), if_pos (by omega), if_pos (by omega), if_pos (by omega), show wrap64 ((i : Int) + 1) = ((i + 1 : Nat) : Int) from wrap_id (by omega) (by omega), h2 k hk]
      simp
def vWithout (l : List Int) : List SRule × Bool := if primeList l = true then (withoutL l, true) else ([], false)
theorem primeList_len {l : List Int} (h : primeList l = true) : l.length ≤ 5 := by
  unfold primeList at h
  simp only [Bool.and_eq_true, decide_eq_true_eq] at h
  exact h.1
theorem vWithout_len (l : List Int) : (vWithout l).1.length ≤ 5 := by
  unfold vWithout
  split
  · next h => have := primeList_len h; simp only [withoutL_length]; omega
  · simp
theorem RulesWithout_main (l : List Int) (hm : l.length ≤ 4611686018427387904) : Ev (fun k => spec_RulesWithout.f k l) (vWithout l) ∧ Ev (fun k => impl_RulesWithout.f k l) (vWithout l) := by
  obtain ⟨K1, h1⟩ := gpPrimes_ev l
  obtain ⟨K2, h2⟩ := arePrimeList_ev l hm
  dsimp only at h1 h2
  unfold vWithout
  by_cases hp : primeList l = true
  · obtain ⟨⟨K3, h3⟩, ⟨K4, h4⟩⟩ := without_l0 l (primeList_len hp) l.length 0 [] (by omega) (by simp)
    have h3 : ∀ k, K3 ≤ k → spec_RulesWithout.l0 k [] l l.length 0 = _ := h3
    have h4 : ∀ k, K4 ≤ k → impl_RulesWithout.l0 k [] l l.length 0 = _ := h4
    rw [if_pos hp]
    constructor
    · refine ⟨K1 + K3, fun k hk => ?_⟩
      simp (disch := omega) only [spec_RulesWithout.f, h1, obind, hp, if_true, h3]
      simp
    · refine ⟨K2 + K4, fun k hk => ?_⟩
      simp (disch := omega) only [impl_RulesWithout.f, h2, obind, hp, if_true, h4]
      simp
  · rw [if_neg hp]
    constructor
    · refine ⟨K1, fun k hk => ?_⟩
      simp (disch := omega) only [spec_RulesWithout.f, h1, obind]
      rw [if_neg hp]
    · refine ⟨K2, fun k hk => ?_⟩
      simp (disch := omega) only [impl_RulesWithout.f, h2, obind]
      rw [if_neg hp]
end Go.Proofs.Ytdcijdeiaefjpaa.P
namespace Go.Proofs.Ytdcijdeiaefjpaa.P
open Go.RowKit Go.Proofs.YtdcijdeiaefjpaaW.PrintWords Go.Proofs.YtdcijdeiaefjpaaW.PrintLast
set_option linter.unusedVariables false
set_option linter.unusedSimpArgs false
def cvr (len : Int) (r : List SRule) : Bool := (leftsTo r 1 len).length == 0
def coverL (ps : List Int) (len : Int) : List (List SRule) := (covL ps).filter (cvr len)
theorem prime_rd {ps : List Int} (h : primeList ps = true) : ps.length ≤ 5 ∧ ∀ p ∈ ps, 2 ≤ p ∧ p ≤ 13 := by
  unfold primeList at h
  simp only [Bool.and_eq_true, decide_eq_true_eq, List.all_eq_true] at h
  refine ⟨h.1, fun p hp => ?_⟩
  have := h.2.1 p hp
  unfold isSix at this
  simp at this
  omega
theorem prime_okC {ps : List Int} (h : primeList ps = true) : okC ps = true := by
  have hp := prime_rd h
  unfold okC
  simp only [Bool.and_eq_true, List.all_eq_true, decide_eq_true_eq]
  exact ⟨hp.1, fun p hm => by have := hp.2 p hm; omega⟩
def extA (L : List (List SRule)) (qs : List Int) : List (List SRule) := qs.foldl extL L
theorem extL_app (A B : List (List SRule)) (p : Int) : extL (A ++ B) p = extL A p ++ extL B p := by unfold extL; rw [List.flatMap_append]
theorem extA_app : ∀ (qs : List Int) (A B : List (List SRule)), extA (A ++ B) qs = extA A qs ++ extA B qs
  | [], A, B => rfl
  | q :: qs, A, B => by
    show extA (extL (A ++ B) q) qs = extA (extL A q) qs ++ extA (extL B q) qs
    rw [extL_app, extA_app qs]
theorem extA_nil : ∀ qs : List Int, extA [] qs = []
  | [] => rfl
  | q :: qs => by show extA (extL [] q) qs = []; rw [show extL [] q = [] from rfl, extA_nil qs]
theorem extL_rows {L : List (List SRule)} {p : Int} (h0 : 2 ≤ p) (h1 : p ≤ 13) (hL : ∀ r ∈ L, r.all okRule = true) : ∀ r ∈ extL L p, r.all okRule = true := by
  intro r hr
  obtain ⟨r', hr', i, hi, rfl⟩ := extL_mem hr
  rw [List.all_append, hL r' hr']
  have : okRule (⟨p, (i : Int)⟩ : SRule) = true := (okRule_iff _).2 ⟨h0, by show p ≤ 60; omega, by show 0 ≤ (i : Int); omega, by show (i : Int) < p; omega⟩
  simp [this]
theorem extA_rows : ∀ (qs : List Int), (∀ p ∈ qs, 2 ≤ p ∧ p ≤ 13) → ∀ L : List (List SRule), (∀ r ∈ L, r.all okRule = true) → ∀ r ∈ extA L qs, r.all okRule = true
  | [], _, L, hL => hL
  | q :: qs, hq, L, hL => extA_rows qs (fun p hp => hq p (List.mem_cons_of_mem _ hp)) (extL L q) (extL_rows (hq q List.mem_cons_self).1 (hq q List.mem_cons_self).2 hL)
theorem covL_rows {ps : List Int} (h : primeList ps = true) : ∀ r ∈ covL ps, r.all okRule = true := extA_rows ps (prime_rd h).2 [[]] (by simp)
def sibs (q : Int) (bg : List SRule) (i : Nat) : Nat → List (List SRule)
  | 0 => []
  | d + 1 => (bg ++ [(⟨q, (i : Int)⟩ : SRule)]) :: sibs q bg (i + 1) d
theorem sibs_map (q : Int) (bg : List SRule) : ∀ (d i : Nat), (List.range d).map (fun (j : Nat) => bg ++ [(⟨q, ((i + j : Nat) : Int)⟩ : SRule)]) = sibs q bg i d
  | 0, i => rfl
  | d + 1, i => by
    rw [List.range_succ_eq_map, List.map_cons, List.map_map, sibs, ← sibs_map q bg d (i + 1)]
    simp only [Nat.add_zero]
    congr 1
    apply List.map_congr_left
    intro j _
    simp only [Function.comp]
    rw [show i + Nat.succ j = i + 1 + j by omega]
theorem extL_sibs (q : Int) (bg : List SRule) : extL [bg] q = sibs q bg 0 q.toNat := by
  rw [← sibs_map]
  simp [extL]
theorem all_ev {α β : Type} (g : α → Nat → Option β) (v : α → β) : ∀ L : List α, (∀ r ∈ L, Ev (g r) (v r)) → ∃ K, ∀ k, K ≤ k → ∀ r ∈ L, g r k = some (v r)
  | [], _ => ⟨0, fun _ _ r hr => by simp at hr⟩
  | x :: L, h => by
    obtain ⟨K1, h1⟩ := h x List.mem_cons_self
    obtain ⟨K2, h2⟩ := all_ev g v L (fun r hr => h r (List.mem_cons_of_mem _ hr))
    refine ⟨K1 + K2, fun k hk r hr => ?_⟩
    rcases List.mem_cons.1 hr with rfl | hr
    · exact h1 k (by omega)
    · exact h2 k (by omega) r hr
theorem coversOf_ev {ps : List Int} (h : primeList ps = true) (len : Int) (h0 : 0 ≤ len) (h1 : len ≤ 41) : Ev (fun k => impl_coversOf.f k ps len) (coverL ps len) := by
  obtain ⟨K, hk⟩ := all_ev (fun r k => impl_leftBetween.f k r 1 len) (fun r => leftsTo r 1 len) (covL ps) (fun r hr => leftBetween_ev r (covL_rows h r hr) 1 len (by omega) (by omega) (by omega))
  refine ⟨K, fun k hk' => ?_⟩
  have hk := hk k hk'
  simp only [impl_coversOf.f]
  rw [if_pos ⟨prime_okC h, List.all_eq_true.2 fun r hr => by rw [hk r hr]; rfl⟩]
  congr 1
  unfold coverL
  refine List.filter_congr fun r hr => ?_
  rw [hk r hr]
  unfold cvr
  show (!decide (0 < (leftsTo r 1 len).length)) = _
  by_cases c : (leftsTo r 1 len).length = 0
  · simp [c]
  · have : 0 < (leftsTo r 1 len).length := by omega
    simp [this, c]
def acc (P : List SRule → Bool) (c : Int) (f : List SRule) (L : List (List SRule)) : Int × List SRule := (c + ((L.filter P).length : Int), if c = 0 then (L.filter P).headD f else f)
theorem acc_nil (P : List SRule → Bool) (c : Int) (f : List SRule) : acc P c f [] = (c, f) := by simp [acc]
theorem acc_app (P : List SRule → Bool) (c : Int) (hc : 0 ≤ c) (f : List SRule) (A B : List (List SRule)) : acc P (acc P c f A).1 (acc P c f A).2 B = acc P c f (A ++ B) := by
  unfold acc
  simp only [List.filter_append, List.length_append]
  cases hA : A.filter P with
  | nil => simp
  | cons x t =>
    simp only [List.length_cons, List.cons_append, List.headD_cons]
    by_cases c0 : c = 0
    · subst c0
      rw [if_neg (by omega)]
      simp
    · simp only [if_neg c0]
      rw [if_neg (by omega)]
      congr 1
      omega
theorem extA_length_pos (qs : List Int) (A B : List (List SRule)) : (extA (A ++ B) qs).length = (extA A qs).length + (extA B qs).length := by rw [extA_app, List.length_append]
theorem gpLook_l0 (ps : List Int) (len : Int) (bg : List SRule) (q : Int) (hq : q = rd ps bg.length) (hlt : bg.length < ps.length) (h5 : bg.length ≤ 5) (hq0 : 2 ≤ q) (hq1 : q ≤ 13) (hbg : bg.all okRule = true)
    (hf : ∀ (i : Nat) (c : Int) (f : List SRule), i < q.toNat → 0 ≤ c → c + ((extA [bg ++ [(⟨q, (i : Int)⟩ : SRule)]] (ps.drop (bg.length + 1))).length : Int) ≤ 1000000000 → Ev (fun k => spec_gpLook.f k ps (bg ++ [(⟨q, (i : Int)⟩ : SRule)]) len c f) (acc (cvr len) c f (extA [bg ++ [(⟨q, (i : Int)⟩ : SRule)]] (ps.drop (bg.length + 1))))) :
    ∀ (e i : Nat) (c : Int) (f : List SRule), i + e = q.toNat → 0 ≤ c → c + ((extA (sibs q bg i e) (ps.drop (bg.length + 1))).length : Int) ≤ 1000000000 → Ev (fun k => spec_gpLook.l0 k ps bg len c f (i : Int)) (acc (cvr len) c f (extA (sibs q bg i e) (ps.drop (bg.length + 1))))
  | 0, i, c, f, h, h0, hb => by
    rw [show sibs q bg i 0 = [] from rfl, extA_nil, acc_nil]
    refine Ev.mk' 0 fun k hk => ?_
    simp only [spec_gpLook.l0]
    rw [if_pos hlt, ← hq, if_neg (by omega)]
  | e + 1, i, c, f, h, h0, hb => by
    have e1 : sibs q bg i (e + 1) = [bg ++ [(⟨q, (i : Int)⟩ : SRule)]] ++ sibs q bg (i + 1) e := rfl
    rw [e1, extA_app] at hb ⊢
    rw [List.length_append] at hb
    have hfl := List.length_filter_le (cvr len) (extA [bg ++ [(⟨q, (i : Int)⟩ : SRule)]] (ps.drop (bg.length + 1)))
    obtain ⟨K1, k1⟩ := hf i c f (by omega) h0 (by omega)
    obtain ⟨K2, k2⟩ := gpLook_l0 ps len bg q hq hlt h5 hq0 hq1 hbg hf e (i + 1) (acc (cvr len) c f (extA [bg ++ [(⟨q, (i : Int)⟩ : SRule)]] (ps.drop (bg.length + 1)))).1 (acc (cvr len) c f (extA [bg ++ [(⟨q, (i : Int)⟩ : SRule)]] (ps.drop (bg.length + 1)))).2 (by omega) (by unfold acc; dsimp only; omega) (by unfold acc; dsimp only; omega)
    dsimp only at k1 k2
    rw [← acc_app (cvr len) c h0]
    refine Ev.mk' (K1 + K2) fun k hk => ?_
    simp only [spec_gpLook.l0]
    rw [if_pos hlt, ← hq, if_pos (by omega), if_pos (by omega), k1 k (by omega), obind, show wrap64 ((i : Int) + 1) = ((i + 1 : Nat) : Int) from wrap_id (by omega) (by omega), k2 k (by omega)]
theorem gpLook_f {ps : List Int} (hp : primeList ps = true) (len : Int) (l0 : 0 ≤ len) (l1 : len ≤ 40) : ∀ (d : Nat) (bg : List SRule), bg.length + d = ps.length → bg.all okRule = true → ∀ (c : Int) (f : List SRule), 0 ≤ c → c + ((extA [bg] (ps.drop bg.length)).length : Int) ≤ 1000000000 → Ev (fun k => spec_gpLook.f k ps bg len c f) (acc (cvr len) c f (extA [bg] (ps.drop bg.length)))
  | 0, bg, h, hbg, c, f, h0, hb => by
    have h5 := (prime_rd hp).1
    rw [List.drop_of_length_le (by omega)] at hb ⊢
    obtain ⟨K, hk⟩ := gpCovers_ev bg (by omega) hbg len l0 l1
    dsimp only at hk
    have ha : acc (cvr len) c f (extA [bg] []) = if cvr len bg = true then (c + 1, if c = 0 then bg else f) else (c, f) := by
      show acc (cvr len) c f [bg] = _
      unfold acc
      by_cases c2 : cvr len bg = true
      · rw [if_pos c2, List.filter_cons, if_pos c2, List.filter_nil]; rfl
      · rw [if_neg c2, List.filter_cons, if_neg c2, List.filter_nil]; simp
    rw [ha]
    have hb : c + 1 ≤ 1000000000 := hb
    refine Ev.mk' K fun k hk' => ?_
    simp only [spec_gpLook.f, hk k hk', obind]
    rw [if_pos (by omega)]
    by_cases c2 : cvr len bg = true
    · rw [if_pos (show ((leftsTo bg 1 len).length == 0) = true from c2), if_pos (by omega), if_pos c2, wrap_id (by omega) (by omega)]
    · rw [if_neg (show ¬ ((leftsTo bg 1 len).length == 0) = true from c2), if_neg c2]
  | d + 1, bg, h, hbg, c, f, h0, hb => by
    have h5 := prime_rd hp
    have hlt : bg.length < ps.length := by omega
    have hq := h5.2 (rd ps bg.length) (by simp [rd, List.getD, hlt])
    have e1 : ps.drop bg.length = rd ps bg.length :: ps.drop (bg.length + 1) := rd_dropP ps bg.length hlt
    have e2 : extA [bg] (ps.drop bg.length) = extA (sibs (rd ps bg.length) bg 0 (rd ps bg.length).toNat) (ps.drop (bg.length + 1)) := by
      rw [e1, ← extL_sibs]; rfl
    rw [e2] at hb ⊢
    have hw : ∀ i : Nat, (bg ++ [(⟨rd ps bg.length, (i : Int)⟩ : SRule)]).length = bg.length + 1 := fun i => by simp
    obtain ⟨K, hk⟩ := gpLook_l0 ps len bg (rd ps bg.length) rfl hlt (by omega) hq.1 hq.2 hbg (fun i c f hi g0 g1 => by
      have hr : okRule (⟨rd ps bg.length, (i : Int)⟩ : SRule) = true := (okRule_iff _).2 ⟨hq.1, by show rd ps bg.length ≤ 60; omega, by show 0 ≤ (i : Int); omega, by show (i : Int) < rd ps bg.length; omega⟩
      have := gpLook_f hp len l0 l1 d (bg ++ [(⟨rd ps bg.length, (i : Int)⟩ : SRule)]) (by rw [hw]; omega) (by simp [hbg, hr]) c f g0 (by rw [hw]; exact g1)
      rwa [hw] at this) (rd ps bg.length).toNat 0 c f (by omega) h0 hb
    refine Ev.mk' K fun k hk' => ?_
    simp only [spec_gpLook.f]
    rw [if_neg (by omega)]
    exact hk k hk'
theorem covL_le {ps : List Int} (h : primeList ps = true) : (covL ps).length ≤ 371293 := by
  have := covL_small (prime_okC h) ps.length (Nat.le_refl _)
  rwa [List.take_length] at this
theorem gpAll_ev {ps : List Int} (h : primeList ps = true) (len : Int) (l0 : 0 ≤ len) (l1 : len ≤ 40) : Ev (fun k => spec_gpAll.f k ps len) (((coverL ps len).length : Int), (coverL ps len).headD []) := by
  have hl := covL_le h
  have h1 := gpLook_f h len l0 l1 ps.length [] (by simp) rfl 0 [] (by omega) (by show 0 + ((covL ps).length : Int) ≤ 1000000000; omega)
  have e : acc (cvr len) 0 [] (extA [[]] (ps.drop ([] : List SRule).length)) = (((coverL ps len).length : Int), (coverL ps len).headD []) := by
    show acc (cvr len) 0 [] (covL ps) = _
    unfold acc coverL
    rw [if_pos rfl, Int.zero_add]
  rw [e] at h1
  exact h1
end Go.Proofs.Ytdcijdeiaefjpaa.P
namespace Go.Proofs.Ytdcijdeiaefjpaa.P
open Go.RowKit Go.Proofs.YtdcijdeiaefjpaaW.PrintWords Go.Proofs.YtdcijdeiaefjpaaW.PrintLast
set_option linter.unusedVariables false
set_option linter.unusedSimpArgs false
def six (p : Int) : Prop := p = 2 ∨ p = 3 ∨ p = 5 ∨ p = 7 ∨ p = 11 ∨ p = 13
def eOne (p : Int) : Int := if p = 2 then 15015 else if p = 3 then 20020 else if p = 5 then 6006 else if p = 7 then 25740 else if p = 11 then 16380 else 6930
theorem eOne_self {p : Int} (h : six p) : eOne p % p = 1 := by
  rcases h with rfl | rfl | rfl | rfl | rfl | rfl <;> decide
theorem eOne_other {p q : Int} (h : six p) (h2 : six q) (hn : q ≠ p) : eOne q % p = 0 := by
  rcases h with rfl | rfl | rfl | rfl | rfl | rfl <;> rcases h2 with rfl | rfl | rfl | rfl | rfl | rfl <;> first | decide | exact absurd rfl hn
def meet : List SRule → Int
  | [] => 0
  | r :: l => r.f1 * eOne r.f0 + meet l
theorem mul_mod_zero {a b p : Int} (h : b % p = 0) : (a * b) % p = 0 := by
  rw [Int.mul_emod, h]; simp
theorem meet_other {p : Int} (hp : six p) : ∀ l : List SRule, (∀ r ∈ l, six r.f0 ∧ r.f0 ≠ p) → meet l % p = 0
  | [], _ => by simp [meet]
  | r :: l, h => by
    have h1 := h r List.mem_cons_self
    have ih := meet_other hp l (fun x hx => h x (List.mem_cons_of_mem _ hx))
    simp only [meet]
    rw [Int.add_emod, mul_mod_zero (eOne_other hp h1.1 h1.2), ih]; simp
theorem meet_at : ∀ l : List SRule, (l.map (·.f0)).Nodup → (∀ r ∈ l, six r.f0 ∧ 0 ≤ r.f1 ∧ r.f1 < r.f0) → ∀ r ∈ l, meet l % r.f0 = r.f1
  | [], _, _, r, hr => by simp at hr
  | x :: l, hn, h, r, hr => by
    simp only [List.map_cons, List.nodup_cons] at hn
    have hx := h x List.mem_cons_self
    simp only [meet]
    rcases List.mem_cons.1 hr with rfl | hr
    · have h0 : meet l % r.f0 = 0 := meet_other hx.1 l (fun y hy => ⟨(h y (List.mem_cons_of_mem _ hy)).1, fun e => hn.1 (by rw [← e]; exact List.mem_map_of_mem hy)⟩)
      rw [Int.add_emod, h0, Int.mul_emod, eOne_self hx.1]
      simp only [Int.mul_one, Int.add_zero, Int.emod_emod]
      exact Int.emod_eq_of_lt hx.2.1 hx.2.2
    · have hr2 := h r (List.mem_cons_of_mem _ hr)
      have h0 : (x.f1 * eOne x.f0) % r.f0 = 0 := mul_mod_zero (eOne_other hr2.1 hx.1 (fun e => hn.1 (by rw [e]; exact List.mem_map_of_mem hr)))
      have ih := meet_at l hn.2 (fun y hy => h y (List.mem_cons_of_mem _ hy)) r hr
      rw [Int.add_emod, h0, ih, Int.zero_add]
      exact Int.emod_eq_of_lt hr2.2.1 hr2.2.2
end Go.Proofs.Ytdcijdeiaefjpaa.P
namespace Go.Proofs.Ytdcijdeiaefjpaa.P
open Go.RowKit Go.Proofs.YtdcijdeiaefjpaaW.PrintWords Go.Proofs.YtdcijdeiaefjpaaW.PrintLast
set_option linter.unusedVariables false
set_option linter.unusedSimpArgs false
theorem lefts_nil (l : List SRule) : ∀ (m : Nat) (i : Int), (lefts l i m).length = 0 ↔ ∀ j : Nat, j < m → left l (i + j) = false
  | 0, i => by simp [lefts]
  | m + 1, i => by
    simp only [lefts, List.length_append]
    have ih := lefts_nil l m (i + 1)
    constructor
    · intro h j hj
      cases hc : left l i with
      | true => rw [hc] at h; simp at h
      | false =>
        cases j with
        | zero => simpa using hc
        | succ j =>
          have h2 : (lefts l (i + 1) m).length = 0 := by omega
          have := (ih.1 h2) j (by omega)
          rwa [show i + 1 + (j : Int) = i + ((j + 1 : Nat) : Int) by omega] at this
    · intro h
      have h0 : left l i = false := by simpa using h 0 (by omega)
      have h2 : (lefts l (i + 1) m).length = 0 := ih.2 (fun j hj => by
        have := h (j + 1) (by omega)
        rwa [show i + ((j + 1 : Nat) : Int) = i + 1 + (j : Int) by omega] at this)
      rw [h0, h2]; simp
theorem left_false (l : List SRule) (n : Int) : left l n = false ↔ ∃ r ∈ l, n % r.f0 = r.f1 := by
  unfold left
  rw [Bool.not_eq_false', List.any_eq_true]
  constructor
  · rintro ⟨r, hr, h⟩; exact ⟨r, hr, by have h2 : (n % r.f0 == r.f1) = true := h; simpa using h2⟩
  · rintro ⟨r, hr, h⟩; exact ⟨r, hr, by show (n % r.f0 == r.f1) = true; simpa using h⟩
theorem cvr_iff (n : Nat) (r : List SRule) : cvr (n : Int) r = true ↔ ∀ j : Nat, 1 ≤ j → j ≤ n → ∃ x ∈ r, (j : Int) % x.f0 = x.f1 := by
  unfold cvr leftsTo
  rw [beq_iff_eq, show ((n : Int) + 1 - 1).toNat = n by omega, lefts_nil]
  constructor
  · intro h j h1 h2
    have := h (j - 1) (by omega)
    rw [left_false, show (1 : Int) + ((j - 1 : Nat) : Int) = (j : Int) by omega] at this
    exact this
  · intro h j hj
    rw [left_false, show (1 : Int) + (j : Int) = ((j + 1 : Nat) : Int) by omega]
    exact h (j + 1) (by omega) (by omega)
theorem extA_mem : ∀ (qs : List Int) (L : List (List SRule)) (b l : List SRule), b ∈ L → l.map (·.f0) = qs → (∀ r ∈ l, 0 ≤ r.f1 ∧ r.f1 < r.f0) → b ++ l ∈ extA L qs
  | [], L, b, l, hb, hl, hr => by
    have : l = [] := by simpa using hl
    subst this
    show b ++ [] ∈ L
    rwa [List.append_nil]
  | q :: qs, L, b, l, hb, hl, hr => by
    cases l with
    | nil => simp at hl
    | cons x l =>
      simp only [List.map_cons, List.cons.injEq] at hl
      have hx := hr x List.mem_cons_self
      have hm : b ++ [x] ∈ extL L q := by
        unfold extL
        refine List.mem_flatMap.2 ⟨b, hb, List.mem_map.2 ⟨x.f1.toNat, List.mem_range.2 (by rw [← hl.1]; omega), ?_⟩⟩
        have e : ((x.f1.toNat : Nat) : Int) = x.f1 := by omega
        rw [e, ← hl.1]
      have := extA_mem qs (extL L q) (b ++ [x]) l hm hl.2 (fun r h => hr r (List.mem_cons_of_mem _ h))
      rw [List.append_assoc] at this
      exact this
theorem extA_shape : ∀ (qs : List Int) (L : List (List SRule)) (r : List SRule), r ∈ extA L qs → ∃ b ∈ L, ∃ l, r = b ++ l ∧ l.map (·.f0) = qs ∧ ∀ x ∈ l, 0 ≤ x.f1 ∧ (0 < x.f0 → x.f1 < x.f0)
  | [], L, r, h => ⟨r, h, [], by simp, rfl, by simp⟩
  | q :: qs, L, r, h => by
    obtain ⟨b, hb, l, rfl, h1, h2⟩ := extA_shape qs (extL L q) r h
    unfold extL at hb
    obtain ⟨c, hc, hb⟩ := List.mem_flatMap.1 hb
    obtain ⟨i, hi, rfl⟩ := List.mem_map.1 hb
    have hi := List.mem_range.1 hi
    refine ⟨c, hc, (⟨q, (i : Int)⟩ : SRule) :: l, by simp, by simp [h1], fun x hx => ?_⟩
    rcases List.mem_cons.1 hx with rfl | hx
    · exact ⟨by show (0 : Int) ≤ (i : Int); omega, fun _ => by show (i : Int) < q; omega⟩
    · exact h2 x hx
theorem inc_nodup : ∀ (t : List Int) (a : Int), incF a t = true → (∀ y ∈ t, a < y) ∧ t.Nodup
  | [], a, h => ⟨by simp, List.nodup_nil⟩
  | x :: t, a, h => by
    simp only [incF, Bool.and_eq_true, decide_eq_true_eq] at h
    obtain ⟨h1, h2⟩ := inc_nodup t x (by first | exact h.2 | exact h.1)
    have hax : a < x := by first | exact h.1 | exact h.2 | omega
    exact ⟨fun y hy => by rcases List.mem_cons.1 hy with rfl | hy; exact hax; have := h1 y hy; omega, List.nodup_cons.2 ⟨fun hm => by have := h1 x hm; omega, h2⟩⟩
theorem prime_parts {ps : List Int} (h : primeList ps = true) : (∀ p ∈ ps, six p) ∧ ps.Nodup := by
  unfold primeList at h
  simp only [Bool.and_eq_true] at h
  refine ⟨fun p hp => ?_, ?_⟩
  · have := List.all_eq_true.1 h.2.1 p hp
    unfold isSix at this
    simp only [Bool.or_eq_true, beq_iff_eq] at this
    exact this
  · cases ps with
    | nil => exact List.nodup_nil
    | cons a t =>
      have h2 : incF a t = true := by simpa [inc, rd] using h.2.2
      obtain ⟨h3, h4⟩ := inc_nodup t a h2
      exact List.nodup_cons.2 ⟨fun hm => by have := h3 a hm; omega, h4⟩
theorem six_pos {p : Int} (h : six p) : 2 ≤ p := by rcases h with rfl | rfl | rfl | rfl | rfl | rfl <;> decide
theorem cover_of_run {ps : List Int} (hp : primeList ps = true) (n : Nat) (a : Int) (h : ∀ j : Nat, 1 ≤ j → j ≤ n → ∃ p ∈ ps, (a + j) % p = 0) : coverL ps n ≠ [] := by
  obtain ⟨h6, hnd⟩ := prime_parts hp
  have hm : ps.map (fun p => (⟨p, (-a) % p⟩ : SRule)) ∈ covL ps := by
    have := extA_mem ps [[]] [] (ps.map (fun p => (⟨p, (-a) % p⟩ : SRule))) (by simp) (by simp [List.map_map, Function.comp_def]) (fun r hr => by
      obtain ⟨p, hp2, rfl⟩ := List.mem_map.1 hr
      have := six_pos (h6 p hp2)
      exact ⟨Int.emod_nonneg _ (by omega), Int.emod_lt_of_pos _ (by omega)⟩)
    exact this
  have hc : cvr (n : Int) (ps.map (fun p => (⟨p, (-a) % p⟩ : SRule))) = true := by
    rw [cvr_iff]
    intro j h1 h2
    obtain ⟨p, hp2, h3⟩ := h j h1 h2
    refine ⟨⟨p, (-a) % p⟩, List.mem_map_of_mem hp2, ?_⟩
    show (j : Int) % p = (-a) % p
    have e : (j : Int) = (a + j) + (-a) := by omega
    rw [e, Int.add_emod, h3]
    simp
  exact List.ne_nil_of_mem (List.mem_filter.2 ⟨hm, hc⟩)
theorem big_mod {p : Int} (h : six p) : (30030 : Int) % p = 0 := by rcases h with rfl | rfl | rfl | rfl | rfl | rfl <;> decide
theorem run_of_cover {ps : List Int} (hp : primeList ps = true) (n : Nat) (h : coverL ps n ≠ []) : ∃ a : Int, ∀ j : Nat, 1 ≤ j → j ≤ n → ∃ p ∈ ps, (a + j) % p = 0 := by
  obtain ⟨h6, hnd⟩ := prime_parts hp
  obtain ⟨r, hr⟩ := List.exists_mem_of_ne_nil _ h
  obtain ⟨hr1, hr2⟩ := List.mem_filter.1 hr
  obtain ⟨b, hb, l, rfl, h1, h2⟩ := extA_shape ps [[]] r hr1
  obtain rfl : b = [] := by simpa using hb
  rw [List.nil_append] at hr2
  have hmem : ∀ x ∈ l, x.f0 ∈ ps := fun x hx => by rw [← h1]; exact List.mem_map_of_mem hx
  refine ⟨-(meet l), fun j j1 j2 => ?_⟩
  obtain ⟨x, hx, hx2⟩ := (cvr_iff n l).1 hr2 j j1 j2
  have hm := meet_at l (by rw [h1]; exact hnd) (fun y hy => ⟨h6 _ (hmem y hy), (h2 y hy).1, (h2 y hy).2 (by have := six_pos (h6 _ (hmem y hy)); omega)⟩) x hx
  refine ⟨x.f0, hmem x hx, ?_⟩
  have e : (-(meet l) + (j : Int)) = (j : Int) - meet l := by omega
  rw [e, Int.sub_emod, hm, hx2]
  simp
end Go.Proofs.Ytdcijdeiaefjpaa.P
namespace Go.Proofs.Ytdcijdeiaefjpaa.P
open Go.RowKit Go.Proofs.YtdcijdeiaefjpaaW.PrintWords Go.Proofs.YtdcijdeiaefjpaaW.PrintLast
set_option linter.unusedVariables false
set_option linter.unusedSimpArgs false
def mostV (l : List Int) (n : Nat) : Nat → Int
  | 0 => n
  | d + 1 => if coverL l ((n : Int) + 1) = [] then n else mostV l (n + 1) d
theorem specMost_l0 {l : List Int} (hp : primeList l = true) : ∀ (d n : Nat), n + d = 40 → Ev (fun k => spec_MostCovered.l0 k l (n : Int)) (mostV l n d, true)
  | 0, n, h => Ev.mk' 0 fun k _ => by
    simp only [spec_MostCovered.l0, mostV]
    rw [if_neg (by omega)]
  | d + 1, n, h => by
    obtain ⟨K1, h1⟩ := specMost_l0 hp d (n + 1) (by omega)
    obtain ⟨K2, h2⟩ := gpAll_ev hp ((n : Int) + 1) (by omega) (by omega)
    dsimp only at h1 h2
    refine Ev.mk' (K1 + K2) fun k hk => ?_
    simp only [spec_MostCovered.l0, mostV]
    rw [if_pos (by omega), wrap_id (by omega) (by omega), h2 k (by omega), obind, show (n : Int) + 1 = ((n + 1 : Nat) : Int) by omega, h1 k (by omega)]
    cases hc : coverL l ((n + 1 : Nat) : Int) with
    | nil => simp
    | cons x t => rw [if_neg (by simp; omega), if_neg (by simp)]
theorem implMost_l0 {l : List Int} (hp : primeList l = true) : ∀ (d n : Nat), n + d = 40 → Ev (fun k => impl_MostCovered.l0 k l (n : Int)) (mostV l n d, true)
  | 0, n, h => Ev.mk' 0 fun k _ => by
    simp only [impl_MostCovered.l0, mostV]
    rw [if_neg (by omega)]
  | d + 1, n, h => by
    obtain ⟨K1, h1⟩ := implMost_l0 hp d (n + 1) (by omega)
    obtain ⟨K2, h2⟩ := coversOf_ev hp ((n : Int) + 1) (by omega) (by omega)
    dsimp only at h1 h2
    refine Ev.mk' (K1 + K2) fun k hk => ?_
    simp only [impl_MostCovered.l0, mostV]
    rw [if_pos (by omega), wrap_id (by omega) (by omega), h2 k (by omega), obind, show (n : Int) + 1 = ((n + 1 : Nat) : Int) by omega, h1 k (by omega)]
    cases hc : coverL l ((n + 1 : Nat) : Int) with
    | nil => simp
    | cons x t => rw [if_pos (by simp), if_neg (by simp)]
def vMost (l : List Int) : Int × Bool := if primeList l = true then (mostV l 0 40, true) else (0, false)
theorem MostCovered_main (l : List Int) (hm : l.length ≤ 4611686018427387904) : Ev (fun k => spec_MostCovered.f k l) (vMost l) ∧ Ev (fun k => impl_MostCovered.f k l) (vMost l) := by
  obtain ⟨K1, h1⟩ := gpPrimes_ev l
  obtain ⟨K2, h2⟩ := arePrimeList_ev l hm
  dsimp only at h1 h2
  unfold vMost
  by_cases hp : primeList l = true
  · obtain ⟨K3, h3⟩ := specMost_l0 hp 40 0 (by omega)
    obtain ⟨K4, h4⟩ := implMost_l0 hp 40 0 (by omega)
    have h3 : ∀ k, K3 ≤ k → spec_MostCovered.l0 k l 0 = _ := h3
    have h4 : ∀ k, K4 ≤ k → impl_MostCovered.l0 k l 0 = _ := h4
    rw [if_pos hp]
    constructor
    · refine ⟨K1 + K3, fun k hk => ?_⟩
      simp (disch := omega) only [spec_MostCovered.f, h1, hp, obind, if_true, h3]
    · refine ⟨K2 + K4, fun k hk => ?_⟩
      simp (disch := omega) only [impl_MostCovered.f, h2, hp, obind, if_true, h4]
  · have hf := Bool.eq_false_iff.2 hp
    rw [if_neg hp]
    constructor
    · refine ⟨K1, fun k hk => ?_⟩
      simp (disch := omega) only [spec_MostCovered.f, h1, hf, obind, Bool.false_eq_true, if_false]
    · refine ⟨K2, fun k hk => ?_⟩
      simp (disch := omega) only [impl_MostCovered.f, h2, hf, obind, Bool.false_eq_true, if_false]
end Go.Proofs.Ytdcijdeiaefjpaa.P
namespace Go.Proofs.Ytdcijdeiaefjpaa.P
open Go.RowKit Go.Proofs.YtdcijdeiaefjpaaW.PrintWords Go.Proofs.YtdcijdeiaefjpaaW.PrintLast
set_option linter.unusedVariables false
set_option linter.unusedSimpArgs false
theorem gpAsked_ev (l : List Int) (n : Int) : Ev (fun k => spec_gpAsked.f k l n) (primeList l && (decide (0 ≤ n) && decide (n ≤ 40))) := by
  obtain ⟨K, h⟩ := gpPrimes_ev l
  refine ⟨K, fun k hk => ?_⟩
  have h := h k hk
  simp only [spec_gpAsked.f] at h ⊢
  rw [h, obind]
  cases primeList l <;> simp [l1In_ok]
def vCount (l : List Int) (n : Int) : Int × Bool := if primeList l = true ∧ 0 ≤ n ∧ n ≤ 40 then (((coverL l n).length : Int), true) else (0, false)
theorem CountCovers_main (l : List Int) (n : Int) (hm : l.length ≤ 4611686018427387904) : Ev (fun k => spec_CountCovers.f k l n) (vCount l n) ∧ Ev (fun k => impl_CountCovers.f k l n) (vCount l n) := by
  obtain ⟨K1, h1⟩ := gpAsked_ev l n
  obtain ⟨K2, h2⟩ := arePrimeList_ev l hm
  dsimp only at h1 h2
  unfold vCount
  by_cases hp : primeList l = true
  · by_cases hn : 0 ≤ n ∧ n ≤ 40
    · obtain ⟨K3, h3⟩ := gpAll_ev hp n hn.1 hn.2
      obtain ⟨K4, h4⟩ := coversOf_ev hp n hn.1 (by omega)
      dsimp only at h3 h4
      rw [if_pos ⟨hp, hn⟩]
      have d : (primeList l && (decide (0 ≤ n) && decide (n ≤ 40))) = true := by simp [hp, hn.1, hn.2]
      constructor
      · refine ⟨K1 + K3, fun k hk => ?_⟩
        simp (disch := omega) only [spec_CountCovers.f, h1, d, obind, if_true, h3]
      · refine ⟨K2 + K4, fun k hk => ?_⟩
        simp (disch := omega) only [impl_CountCovers.f, h2, hp, obind, if_true, h4]
        rw [if_neg (by omega), if_neg (by omega)]
    · rw [if_neg (fun h => hn h.2)]
      have d : (primeList l && (decide (0 ≤ n) && decide (n ≤ 40))) = false := by
        rw [hp, Bool.true_and, Bool.and_eq_false_iff]; simp only [decide_eq_false_iff_not]; omega
      constructor
      · refine ⟨K1, fun k hk => ?_⟩
        simp (disch := omega) only [spec_CountCovers.f, h1, d, obind, Bool.false_eq_true, if_false]
      · refine ⟨K2, fun k hk => ?_⟩
        simp (disch := omega) only [impl_CountCovers.f, h2, hp, obind, if_true]
        by_cases c : n < 0
        · rw [if_pos c]
        · rw [if_neg c, if_pos (by omega)]
  · have hf := Bool.eq_false_iff.2 hp
    rw [if_neg (fun h => hp h.1)]
    constructor
    · refine ⟨K1, fun k hk => ?_⟩
      simp (disch := omega) only [spec_CountCovers.f, h1, hf, Bool.false_and, obind, Bool.false_eq_true, if_false]
    · refine ⟨K2, fun k hk => ?_⟩
      simp (disch := omega) only [impl_CountCovers.f, h2, hf, obind, Bool.false_eq_true, if_false]
end Go.Proofs.Ytdcijdeiaefjpaa.P
namespace Go.Proofs.Ytdcijdeiaefjpaa.P
open Go.RowKit Go.Proofs.YtdcijdeiaefjpaaW.PrintWords Go.Proofs.YtdcijdeiaefjpaaW.PrintLast
set_option linter.unusedVariables false
set_option linter.unusedSimpArgs false
def vFirst (l : List Int) (n : Int) : List SRule × Bool := if primeList l = true ∧ 0 ≤ n ∧ n ≤ 40 ∧ coverL l n ≠ [] then ((coverL l n).headD [], true) else ([], false)
theorem covL_row' {ps : List Int} : ∀ r ∈ covL ps, r.length = ps.length := by
  intro r hr
  have := covL_row (ps := ps) ps.length (Nat.le_refl _) r (by rw [List.take_length]; exact hr)
  exact this
theorem headD_mem {α : Type} (L : List α) (d : α) (h : L ≠ []) : L.headD d ∈ L := by
  cases L with
  | nil => exact absurd rfl h
  | cons x t => simp
theorem vFirst_len (l : List Int) (n : Int) : (vFirst l n).1.length ≤ 5 := by
  unfold vFirst
  split
  · next h =>
    have hm := headD_mem (coverL l n) [] h.2.2.2
    have hr := covL_row' _ (List.mem_filter.1 hm).1
    have := (prime_rd h.1).1
    dsimp only
    omega
  · simp
theorem FirstCover_main (l : List Int) (n : Int) (hm : l.length ≤ 4611686018427387904) : Ev (fun k => spec_FirstCover.f k l n) (vFirst l n) ∧ Ev (fun k => impl_FirstCover.f k l n) (vFirst l n) := by
  obtain ⟨K1, h1⟩ := gpAsked_ev l n
  obtain ⟨K2, h2⟩ := arePrimeList_ev l hm
  dsimp only at h1 h2
  unfold vFirst
  by_cases hp : primeList l = true
  · by_cases hn : 0 ≤ n ∧ n ≤ 40
    · obtain ⟨K3, h3⟩ := gpAll_ev hp n hn.1 hn.2
      obtain ⟨K4, h4⟩ := coversOf_ev hp n hn.1 (by omega)
      dsimp only at h3 h4
      have d : (primeList l && (decide (0 ≤ n) && decide (n ≤ 40))) = true := by simp [hp, hn.1, hn.2]
      have d2 : decide (n > 40) = false := decide_eq_false (by omega)
      have n1 : ¬ n < 0 := by omega
      cases hc : coverL l n with
      | nil =>
        rw [hc] at h3 h4
        rw [if_neg (fun h => h.2.2.2 rfl)]
        constructor
        · refine ⟨K1 + K3, fun k hk => ?_⟩
          simp (disch := omega) only [spec_FirstCover.f, h1, d, obind, if_true, h3]
          rfl
        · refine Ev.mk' (K2 + K4) fun k hk => ?_
          simp (disch := omega) only [impl_FirstCover.f, h2, hp, obind, if_true, if_neg n1, d2]
          simp (disch := omega) only [impl_FirstCover.j0, h4, obind, Bool.false_eq_true, if_false]
          rfl
      | cons x t =>
        rw [hc] at h3 h4
        rw [if_pos ⟨hp, hn.1, hn.2, by simp⟩]
        constructor
        · refine ⟨K1 + K3, fun k hk => ?_⟩
          simp (disch := omega) only [spec_FirstCover.f, h1, d, obind, if_true, h3]
          rw [if_neg (by simp; omega)]
        · refine Ev.mk' (K2 + K4) fun k hk => ?_
          simp (disch := omega) only [impl_FirstCover.f, h2, hp, obind, if_true, if_neg n1, d2]
          simp (disch := omega) only [impl_FirstCover.j0, h4, obind, Bool.false_eq_true, if_false]
          rw [if_neg (by simp; omega), if_pos (by simp)]
          rfl
    · rw [if_neg (fun h => hn ⟨h.2.1, h.2.2.1⟩)]
      have d : (primeList l && (decide (0 ≤ n) && decide (n ≤ 40))) = false := by
        rw [hp, Bool.true_and, Bool.and_eq_false_iff]; simp only [decide_eq_false_iff_not]; omega
      constructor
      · refine ⟨K1, fun k hk => ?_⟩
        simp (disch := omega) only [spec_FirstCover.f, h1, d, obind, Bool.false_eq_true, if_false]
      · refine Ev.mk' K2 fun k hk => ?_
        simp (disch := omega) only [impl_FirstCover.f, h2, hp, obind, if_true]
        by_cases c : n < 0
        · rw [if_pos c]; simp [impl_FirstCover.j0]
        · rw [if_neg c, decide_eq_true (show n > 40 by omega)]; simp [impl_FirstCover.j0]
  · have hf := Bool.eq_false_iff.2 hp
    rw [if_neg (fun h => hp h.1)]
    constructor
    · refine ⟨K1, fun k hk => ?_⟩
      simp (disch := omega) only [spec_FirstCover.f, h1, hf, Bool.false_and, obind, Bool.false_eq_true, if_false]
    · refine Ev.mk' K2 fun k hk => ?_
      simp (disch := omega) only [impl_FirstCover.f, h2, hf, obind, Bool.false_eq_true, if_false]
      simp [impl_FirstCover.j0]
end Go.Proofs.Ytdcijdeiaefjpaa.P
namespace Go.Proofs.Ytdcijdeiaefjpaa.P
open Go.RowKit Go.Proofs.YtdcijdeiaefjpaaW.PrintWords Go.Proofs.YtdcijdeiaefjpaaW.PrintLast
set_option linter.unusedVariables false
set_option linter.unusedSimpArgs false
def vIsC (l : List SRule) (n : Int) : Bool × Bool := if goodRules l = true ∧ 0 ≤ n ∧ n ≤ 40 then ((leftsTo l 1 n).length == 0, true) else (false, false)
theorem nat_beq (n : Nat) : ((n : Int) == 0) = (n == 0) := by
  cases n with
  | zero => rfl
  | succ n => rw [beq_eq_false_iff_ne.2 (show ((n + 1 : Nat) : Int) ≠ 0 by omega)]; rfl
theorem IsCover_main (l : List SRule) (n : Int) : Ev (fun k => spec_IsCover.f k l n) (vIsC l n) ∧ Ev (fun k => impl_IsCover.f k l n) (vIsC l n) := by
  obtain ⟨K1, h1⟩ := siGood_ev l
  dsimp only at h1
  unfold vIsC
  by_cases hg : goodRules l = true
  · obtain ⟨hm, hl⟩ := good_all hg
    by_cases hn : 0 ≤ n ∧ n ≤ 40
    · obtain ⟨K2, h2⟩ := gpCovers_ev l hm hl n hn.1 hn.2
      obtain ⟨K3, h3⟩ := leftBetween_ev l hl 1 n (by omega) (by omega) (by omega)
      dsimp only at h2 h3
      rw [if_pos ⟨hg, hn⟩]
      have e : (decide (0 ≤ n) && decide (n ≤ 40)) = true := by simp [hn.1, hn.2]
      constructor
      · refine ⟨K1 + K2, fun k hk => ?_⟩
        simp (disch := omega) only [spec_IsCover.f, h1, hg, obind, if_true, l1In_ok, e, h2]
      · refine ⟨K3, fun k hk => ?_⟩
        simp only [impl_IsCover.f, areRules_ok, hg, obind, if_true, h3 k hk, nat_beq]
        rw [if_neg (by omega), if_neg (by omega)]
    · rw [if_neg (fun h => hn h.2)]
      have e : (decide (0 ≤ n) && decide (n ≤ 40)) = false := by
        rw [Bool.and_eq_false_iff]; simp only [decide_eq_false_iff_not]; omega
      constructor
      · refine ⟨K1, fun k hk => ?_⟩
        simp (disch := omega) only [spec_IsCover.f, h1, hg, obind, if_true, l1In_ok, e, Bool.false_eq_true, if_false]
      · refine ⟨0, fun k _ => ?_⟩
        simp only [impl_IsCover.f, areRules_ok, hg, obind, if_true]
        by_cases c : n < 0
        · rw [if_pos c]
        · rw [if_neg c, if_pos (by omega)]
  · have hf := Bool.eq_false_iff.2 hg
    rw [if_neg (fun h => hg h.1)]
    constructor
    · refine ⟨K1, fun k hk => ?_⟩
      simp (disch := omega) only [spec_IsCover.f, h1, hf, obind, Bool.false_eq_true, if_false]
    · refine ⟨0, fun k _ => ?_⟩
      simp only [impl_IsCover.f, areRules_ok, hf, obind, Bool.false_eq_true, if_false]
theorem tRules_l0 (l : List SRule) (hm : l.length ≤ 1000) : ∀ d i : Nat, i + d = l.length → Ev (fun k => laws_tRules.l0 k l l (l.length : Int) (i : Int)) true
  | 0, i, h => Ev.mk' 0 fun k _ => by
    simp only [laws_tRules.l0]
    rw [if_neg (by omega)]
  | d + 1, i, h => by
    obtain ⟨K, ih⟩ := tRules_l0 l hm d (i + 1) (by omega)
    dsimp only at ih
    refine Ev.mk' K fun k hk => ?_
    simp only [laws_tRules.l0, beq_self_eq_true, Bool.not_true, Bool.or_self, Bool.false_eq_true, if_false]
    rw [if_pos (by omega), if_pos (by omega), if_pos (by omega), wrap_id (by omega) (by omega), show ((i : Int) + 1) = ((i + 1 : Nat) : Int) by omega, ih k hk]
    simp; omega
theorem tRules_ev (l : List SRule) (hm : l.length ≤ 1000) : Ev (fun k => laws_tRules.f k l l) true := by
  obtain ⟨K, h⟩ := tRules_l0 l hm l.length 0 (by omega)
  refine ⟨K, fun k hk => ?_⟩
  simp only [laws_tRules.f]
  rw [if_pos trivial]
  exact h k hk
theorem coverL_less (ps : List Int) (n : Nat) : (coverL ps ((n + 1 : Nat) : Int)).length ≤ (coverL ps (n : Int)).length := by
  unfold coverL
  have e : (covL ps).filter (cvr ((n + 1 : Nat) : Int)) = ((covL ps).filter (cvr (n : Int))).filter (cvr ((n + 1 : Nat) : Int)) := by
    rw [List.filter_filter]
    refine List.filter_congr fun x _ => ?_
    cases hp : cvr ((n + 1 : Nat) : Int) x with
    | false => rfl
    | true =>
      have h2 : cvr (n : Int) x = true := (cvr_iff n x).2 (fun j h1 h2 => (cvr_iff (n + 1) x).1 hp j h1 (by omega))
      rw [h2]; rfl
  rw [e]
  exact List.length_filter_le _ _
end Go.Proofs.Ytdcijdeiaefjpaa.P
namespace Go.Proofs.Ytdcijdeiaefjpaa.P
open Go.RowKit Go.Proofs.YtdcijdeiaefjpaaW.PrintWords Go.Proofs.YtdcijdeiaefjpaaW.PrintLast
set_option linter.unusedVariables false
set_option linter.unusedSimpArgs false
theorem cover_zero {ps : List Int} (hp : primeList ps = true) : coverL ps ((0 : Nat) : Int) ≠ [] := cover_of_run hp 0 0 (fun j h1 h2 => by omega)
theorem mostV_spec (l : List Int) : ∀ (d n : Nat), n + d = 40 → coverL l (n : Int) ≠ [] → ∃ M : Nat, mostV l n d = (M : Int) ∧ n ≤ M ∧ M ≤ 40 ∧ coverL l (M : Int) ≠ [] ∧ (M < 40 → coverL l ((M + 1 : Nat) : Int) = [])
  | 0, n, h, hc => ⟨n, rfl, Nat.le_refl _, by omega, hc, fun h2 => by omega⟩
  | d + 1, n, h, hc => by
    simp only [mostV]
    rw [show ((n : Int) + 1) = ((n + 1 : Nat) : Int) by omega]
    by_cases c : coverL l ((n + 1 : Nat) : Int) = []
    · rw [if_pos c]; exact ⟨n, rfl, Nat.le_refl _, by omega, hc, fun _ => c⟩
    · rw [if_neg c]
      obtain ⟨M, h1, h2, h3, h4, h5⟩ := mostV_spec l d (n + 1) (by omega) c
      exact ⟨M, h1, by omega, h3, h4, h5⟩
theorem most_spec {ps : List Int} (hp : primeList ps = true) : ∃ M : Nat, mostV ps 0 40 = (M : Int) ∧ M ≤ 40 ∧ coverL ps (M : Int) ≠ [] ∧ (M < 40 → coverL ps ((M + 1 : Nat) : Int) = []) := by
  obtain ⟨M, h1, -, h3, h4, h5⟩ := mostV_spec ps 40 0 rfl (cover_zero hp)
  exact ⟨M, h1, h3, h4, h5⟩
theorem CountLeft_ev (l : List SRule) (n : Int) (hg : goodRules l = true) (h0 : 0 ≤ n) (h1 : n ≤ 40) : Ev (fun k => impl_CountLeft.f k l n) (((leftsTo l 1 n).length : Int), true) := by
  obtain ⟨hm, hl⟩ := good_all hg
  obtain ⟨K3, h3⟩ := leftBetween_ev l hl 1 n (by omega) (by omega) (by omega)
  dsimp only at h3
  have e : impl_isMost.f n = some true := by
    unfold impl_isMost.f
    rw [if_pos (by omega), decide_eq_true (by omega)]
  refine ⟨K3, fun k hk => ?_⟩
  simp only [impl_CountLeft.f, areRules_ok, hg, obind, if_true, e, h3 k hk]
theorem first_shape {ps : List Int} {n : Int} {r : List SRule} (h : r ∈ coverL ps n) : r.map (·.f0) = ps ∧ cvr n r = true := by
  obtain ⟨h1, h2⟩ := List.mem_filter.1 h
  obtain ⟨b, hb, l, rfl, h3, -⟩ := extA_shape ps [[]] r h1
  obtain rfl : b = [] := by simpa using hb
  exact ⟨by rw [List.nil_append]; exact h3, h2⟩
end Go.Proofs.Ytdcijdeiaefjpaa.P
namespace Go.Proofs.Ytdcijdeiaefjpaa.P
open Go.RowKit Go.Proofs.YtdcijdeiaefjpaaW.PrintWords Go.Proofs.YtdcijdeiaefjpaaW.PrintLast
set_option linter.unusedVariables false
set_option linter.unusedSimpArgs false
def outN : List Nat → Nat → Bool
  | [], _ => false
  | p :: t, n => Nat.beq (n % p) 0 || outN t n
def chk (ps : List Nat) : Nat → Nat → Nat → Bool
  | 0, _, _ => true
  | d + 1, n, r => bif outN ps n then (Nat.ble r 39 && chk ps d (n + 1) (r + 1)) else chk ps d (n + 1) 0
theorem chk_run (ps : List Nat) : ∀ (d n r : Nat), chk ps d n r = true → ∀ m, n ≤ m → m + 41 ≤ n + d → ∃ j, j < 41 ∧ outN ps (m + j) = false := by
  intro d
  induction d with
  | zero => intro n r h m h1 h2; omega
  | succ d ih =>
    intro n r h m h1 h2
    by_cases c : n = m
    · subst c
      have key : ∀ (e d n r : Nat), e ≤ d → chk ps d n r = true → (∀ j, j < e → outN ps (n + j) = true) → r + e ≤ 40 ∨ e = 0 := by
        intro e
        induction e with
        | zero => intro d n r _ _ _; exact .inr rfl
        | succ e ih2 =>
          intro d n r hd hc ho
          obtain ⟨d, rfl⟩ : ∃ d', d = d' + 1 := ⟨d - 1, by omega⟩
          have h0 := ho 0 (by omega)
          rw [Nat.add_zero] at h0
          simp only [chk, h0, cond_true, Bool.and_eq_true, Nat.ble_eq] at hc
          rcases ih2 d (n + 1) (r + 1) (by omega) hc.2 (fun j hj => by have := ho (j + 1) (by omega); rwa [show n + (j + 1) = n + 1 + j by omega] at this) with q | q
          · left; omega
          · left; omega
      by_cases hall : ∀ j, j < 41 → outN ps (n + j) = true
      · rcases key 41 (d + 1) n r (by omega) h hall with q | q
        · omega
        · omega
      · have ⟨j, hj⟩ : ∃ j, ¬ (j < 41 → outN ps (n + j) = true) := Classical.not_forall.1 hall
        have hj2 : j < 41 ∧ ¬ outN ps (n + j) = true := by
          constructor
          · exact Classical.byContradiction fun hn => hj (fun h_ => absurd h_ hn)
          · exact fun h_ => hj (fun _ => h_)
        exact ⟨j, hj2.1, Bool.eq_false_iff.2 hj2.2⟩
    · simp only [chk] at h
      cases hc : outN ps n with
      | true => rw [hc] at h; simp only [cond_true, Bool.and_eq_true] at h; exact ih (n + 1) (r + 1) h.2 m (by omega) (by omega)
      | false => rw [hc] at h; simp only [cond_false] at h; exact ih (n + 1) 0 h m (by omega) (by omega)
set_option maxRecDepth 1000000 in
theorem c2 : chk [3, 5, 7, 11, 13] 15060 0 0 = true := by kernel_rfl
set_option maxRecDepth 1000000 in
theorem c3 : chk [2, 5, 7, 11, 13] 10060 0 0 = true := by kernel_rfl
set_option maxRecDepth 1000000 in
theorem c5 : chk [2, 3, 7, 11, 13] 6060 0 0 = true := by kernel_rfl
set_option maxRecDepth 1000000 in
theorem c7 : chk [2, 3, 5, 11, 13] 4340 0 0 = true := by kernel_rfl
set_option maxRecDepth 1000000 in
theorem c11 : chk [2, 3, 5, 7, 13] 2780 0 0 = true := by kernel_rfl
set_option maxRecDepth 1000000 in
theorem c13 : chk [2, 3, 5, 7, 11] 2360 0 0 = true := by kernel_rfl
end Go.Proofs.Ytdcijdeiaefjpaa.P
namespace Go.Proofs.Ytdcijdeiaefjpaa.P
open Go.RowKit Go.Proofs.YtdcijdeiaefjpaaW.PrintWords Go.Proofs.YtdcijdeiaefjpaaW.PrintLast
set_option linter.unusedVariables false
set_option linter.unusedSimpArgs false
theorem rd_dropG (l : List Int) (k : Nat) (h : k < l.length) : l.drop k = rd l k :: l.drop (k + 1) := by
  rw [List.drop_eq_getElem_cons h]
  simp [rd, List.getD, h]
def dif : Int → List Int → List Int
  | _, [] => []
  | a, b :: t => wrap64 (b - a) :: dif b t
def frm : Int → List Int → List Int
  | _, [] => []
  | a, b :: t => a :: frm b t
theorem dif_length : ∀ (l : List Int) (a : Int), (dif a l).length = l.length
  | [], _ => rfl
  | b :: t, a => by simp [dif, dif_length t b]
theorem frm_length : ∀ (l : List Int) (a : Int), (frm a l).length = l.length
  | [], _ => rfl
  | b :: t, a => by simp [frm, frm_length t b]
def gapsL (l : List Int) : List Int := dif (rd l 0) (l.drop 1)
def fromL (l : List Int) : List Int := frm (rd l 0) (l.drop 1)
theorem gapsL_length (l : List Int) : (gapsL l).length = l.length - 1 := by simp [gapsL, dif_length]
theorem fromL_length (l : List Int) : (fromL l).length = l.length - 1 := by simp [fromL, frm_length]
theorem gapsOf_l0 (l : List Int) (hm : l.length < 17592186044416) : ∀ (d i : Nat) (a b : List Int), i + 1 + d = l.length → a.length ≤ i → b.length ≤ i → Ev (fun k => impl_gapsOf.l0 k l a b ((i + 1 : Nat) : Int)) (a ++ frm (rd l i) (l.drop (i + 1)), b ++ dif (rd l i) (l.drop (i + 1)))
  | 0, i, a, b, h, ha, hb => Ev.mk' 0 fun k _ => by
    simp only [impl_gapsOf.l0]
    rw [if_neg (by omega), List.drop_eq_nil_of_le (by omega)]; simp [frm, dif]
  | d + 1, i, a, b, h, ha, hb => by
    obtain ⟨K, ih⟩ := gapsOf_l0 l hm d (i + 1) (a ++ [rd l i]) (b ++ [wrap64 (rd l ((i + 1 : Nat) : Int) - rd l i)]) (by omega) (by simp; omega) (by simp; omega)
    dsimp only at ih
    refine Ev.mk' K fun k hk => ?_
    simp only [impl_gapsOf.l0]
    rw [show wrap64 (((i + 1 : Nat) : Int) - 1) = (i : Int) by rw [wrap_id (by omega) (by omega)]; omega]
    rw [if_pos (by omega), if_pos (by omega), if_pos (by omega), if_pos (by omega), if_pos (by omega), if_pos (by omega)]
    rw [show wrap64 (((i + 1 : Nat) : Int) + 1) = ((i + 1 + 1 : Nat) : Int) from wrap_id (by omega) (by omega), ih k hk]
    rw [rd_dropG l (i + 1) (by omega), frm, dif]
    simp
theorem gapsOf_ev (l : List Int) (hm : l.length < 17592186044416) : Ev (fun k => impl_gapsOf.f k l) (fromL l, gapsL l) := by
  cases l with
  | nil =>
    refine Ev.mk' 0 fun k _ => ?_
    simp only [impl_gapsOf.f, impl_gapsOf.l0]
    rw [if_neg (by simp)]; rfl
  | cons x t =>
    obtain ⟨K, ih⟩ := gapsOf_l0 (x :: t) hm t.length 0 [] [] (by simp; omega) (by simp) (by simp)
    exact ⟨K, fun k hk => ih k hk⟩
end Go.Proofs.Ytdcijdeiaefjpaa.P
namespace Go.Proofs.Ytdcijdeiaefjpaa.P
open Go.RowKit Go.Proofs.YtdcijdeiaefjpaaW.PrintWords Go.Proofs.YtdcijdeiaefjpaaW.PrintLast
set_option linter.unusedVariables false
set_option linter.unusedSimpArgs false
def GapOk (l : List SRule) : Int → List Int → Prop
  | _, [] => True
  | x, y :: t => x < y ∧ (∀ z, x < z → z < y → left l z = false) ∧ GapOk l y t
def lastOf : Int → List Int → Int
  | x, [] => x
  | _, y :: t => lastOf y t
theorem lefts_shape (l : List SRule) : ∀ (m : Nat) (i : Int) (x : Int) (t : List Int), lefts l i m = x :: t → i ≤ x ∧ x < i + m ∧ left l x = true ∧ (∀ z, i ≤ z → z < x → left l z = false) ∧ GapOk l x t ∧ x ≤ lastOf x t ∧ lastOf x t < i + m ∧ ∀ z, lastOf x t < z → z < i + m → left l z = false
  | 0, i, x, t, h => by simp [lefts] at h
  | m + 1, i, x, t, h => by
    simp only [lefts] at h
    cases hc : left l i with
    | false =>
      rw [hc] at h
      have h : lefts l (i + 1) m = x :: t := by simpa using h
      obtain ⟨h1, h2, h3, h4, h5, h6, h7, h8⟩ := lefts_shape l m (i + 1) x t h
      refine ⟨by omega, by omega, h3, fun z hz hz2 => ?_, h5, h6, by omega, fun z hz hz2 => h8 z hz (by omega)⟩
      by_cases e : z = i
      · rw [e]; exact hc
      · exact h4 z (by omega) hz2
    | true =>
      rw [hc] at h
      have h : i :: lefts l (i + 1) m = x :: t := by simpa using h
      obtain ⟨rfl, rfl⟩ := List.cons.inj h
      cases ht : lefts l (i + 1) m with
      | nil =>
        refine ⟨Int.le_refl _, by omega, hc, fun z _ _ => by omega, trivial, Int.le_refl _, by show i < _; omega, fun z hz hz2 => ?_⟩
        have hz : i < z := hz
        have hn := (show ∀ (m : Nat) (i : Int), lefts l i m = [] → ∀ z, i ≤ z → z < i + m → left l z = false from by
          intro m
          induction m with
          | zero => intro i _ z h1 h2; omega
          | succ m ih =>
            intro i h z h1 h2
            simp only [lefts] at h
            cases hc2 : left l i with
            | true => rw [hc2] at h; simp at h
            | false =>
              rw [hc2] at h
              by_cases e : z = i
              · rw [e]; exact hc2
              · exact ih (i + 1) (by simpa using h) z (by omega) (by omega))
        exact hn m (i + 1) ht z (by omega) (by omega)
      | cons y u =>
        obtain ⟨h1, h2, h3, h4, h5, h6, h7, h8⟩ := lefts_shape l m (i + 1) y u ht
        exact ⟨Int.le_refl _, by omega, hc, fun z _ _ => by omega, ⟨by omega, fun z hz hz2 => h4 z (by omega) hz2, h5⟩, by show i ≤ lastOf y u; omega, by show lastOf y u < _; omega, fun z hz hz2 => h8 z hz (by omega)⟩
theorem gapOk_snoc (l : List SRule) (e : Int) : ∀ (t : List Int) (x : Int), GapOk l x t → lastOf x t < e → (∀ z, lastOf x t < z → z < e → left l z = false) → GapOk l x (t ++ [e])
  | [], x, _, h1, h2 => ⟨h1, h2, trivial⟩
  | y :: t, x, h, h1, h2 => ⟨h.1, h.2.1, gapOk_snoc l e t y h.2.2 h1 h2⟩
def gaps : Int → List Int → List Int
  | _, [] => []
  | x, y :: t => (y - x) :: gaps y t
theorem gap_in (l : List SRule) : ∀ (t : List Int) (x : Int), GapOk l x t → ∀ g ∈ gaps x t, 1 ≤ g ∧ ∃ a : Int, ∀ j : Int, 1 ≤ j → j < g → left l (a + j) = false
  | [], x, _, g, hg => by simp [gaps] at hg
  | y :: t, x, h, g, hg => by
    simp only [gaps, List.mem_cons] at hg
    rcases hg with rfl | hg
    · have := h.1
      exact ⟨by omega, x, fun j h1 h2 => h.2.1 _ (by omega) (by omega)⟩
    · exact gap_in l t y h.2.2 g hg
theorem gap_over (l : List SRule) : ∀ (t : List Int) (x s : Int), GapOk l x t → left l x = true → (∀ y ∈ t, left l y = true) → x < s → s < lastOf x t → left l s = false → ∃ g ∈ gaps x t, ∃ u v : Int, g = v - u ∧ u < s ∧ s < v ∧ left l v = true
  | [], x, s, _, _, _, h1, h2, _ => by simp only [lastOf] at h2; omega
  | y :: t, x, s, h, hx, hy, h1, h2, hs => by
    by_cases c : s < y
    · exact ⟨y - x, by simp [gaps], x, y, rfl, h1, c, hy y List.mem_cons_self⟩
    · have hne : s ≠ y := fun e => by rw [e, hy y List.mem_cons_self] at hs; exact absurd hs (by decide)
      obtain ⟨g, hg, u, v, h3⟩ := gap_over l t y s h.2.2 (hy y List.mem_cons_self) (fun z hz => hy z (List.mem_cons_of_mem _ hz)) (by omega) h2 hs
      exact ⟨g, by simp [gaps, hg], u, v, h3⟩
end Go.Proofs.Ytdcijdeiaefjpaa.P
namespace Go.Proofs.Ytdcijdeiaefjpaa.P
open Go.RowKit Go.Proofs.YtdcijdeiaefjpaaW.PrintWords Go.Proofs.YtdcijdeiaefjpaaW.PrintLast
set_option linter.unusedVariables false
set_option linter.unusedSimpArgs false
theorem gcd_l0 : ∀ (n m : Nat), Ev (fun k => impl_gcd.l0 k (m : Int) (n : Int)) ((Nat.gcd m n : Nat) : Int) := by
  intro n
  induction n using Nat.strongRecOn with
  | _ n ih =>
    intro m
    by_cases h : n = 0
    · subst h
      refine Ev.mk' 0 fun k _ => ?_
      simp only [impl_gcd.l0]
      rw [if_neg (by omega)]; simp
    · obtain ⟨K, h2⟩ := ih (m % n) (Nat.mod_lt _ (by omega)) n
      dsimp only at h2
      refine Ev.mk' K fun k hk => ?_
      simp only [impl_gcd.l0]
      rw [if_pos (by omega), if_neg (by omega), show Int.tmod (m : Int) (n : Int) = ((m % n : Nat) : Int) from rfl, h2 k hk]
      rw [Nat.gcd_comm m n, Nat.gcd_rec n m, Nat.gcd_comm]
theorem siCommon_l0 : ∀ (k : Nat) (a b : Int), spec_siCommon.l0 k a b = impl_gcd.l0 k a b
  | 0, _, _ => rfl
  | k + 1, a, b => by simp only [spec_siCommon.l0, impl_gcd.l0, siCommon_l0 k]
def perN : Nat → List SRule → Option Nat
  | p, [] => some p
  | p, x :: t => if Nat.lcm p x.f0.toNat > 100000 then none else perN (Nat.lcm p x.f0.toNat) t
theorem lcm_step (p e : Nat) : p / Nat.gcd p e * e = Nat.lcm p e := by
  rw [Nat.lcm, Nat.mul_comm p e, Nat.mul_div_assoc _ (Nat.gcd_dvd_left p e), Nat.mul_comm]
theorem lcm_pos' {p e : Nat} (h : 0 < p) (h2 : 0 < e) : 0 < Nat.lcm p e := Nat.lcm_pos h h2
theorem step_val (p : Nat) (e : Int) (hp : 0 < p) (hp2 : p ≤ 100000) (h1 : 2 ≤ e) (h2 : e ≤ 60) :
    wrap64 (wrap64 (Int.tdiv (p : Int) ((Nat.gcd p e.toNat : Nat) : Int)) * e) = ((Nat.lcm p e.toNat : Nat) : Int) := by
  have hd : Int.tdiv (p : Int) ((Nat.gcd p e.toNat : Nat) : Int) = ((p / Nat.gcd p e.toNat : Nat) : Int) := rfl
  have hq : p / Nat.gcd p e.toNat ≤ 100000 := Nat.le_trans (Nat.div_le_self _ _) hp2
  rw [hd, show wrap64 ((p / Nat.gcd p e.toNat : Nat) : Int) = ((p / Nat.gcd p e.toNat : Nat) : Int) from by generalize p / Nat.gcd p e.toNat = q at hq ⊢; exact wrap_id (by omega) (by omega)]
  have hm : ((p / Nat.gcd p e.toNat : Nat) : Int) * e = ((Nat.lcm p e.toNat : Nat) : Int) := by
    rw [← lcm_step p e.toNat, Int.natCast_mul, Int.toNat_of_nonneg (by omega)]
  rw [hm]
  have hl : Nat.lcm p e.toNat ≤ 100000 * 60 := by
    rw [← lcm_step]; exact Nat.mul_le_mul hq (by omega)
  exact wrap_id (by omega) (by omega)
theorem lcmOf_l0 (l : List SRule) (hm : l.length ≤ 12) (hl : l.all okRule = true) : ∀ (d i p : Nat), i + d = l.length → 0 < p → p ≤ 100000 →
    Ev (fun k => impl_lcmOf.l0 k p l l.length i) (match perN p (l.drop i) with | some q => ((q : Int), true) | none => (0, false)) ∧
    Ev (fun k => spec_siPeriod.l0 k p l l.length i) (match perN p (l.drop i) with | some q => (q : Int) | none => 0)
  | 0, i, p, h, h1, h2 => by
    rw [List.drop_eq_nil_of_le (by omega)]
    constructor
    · refine Ev.mk' 0 fun k _ => ?_
      simp only [impl_lcmOf.l0]
      rw [if_neg (by omega)]; rfl
    · refine Ev.mk' 0 fun k _ => ?_
      simp only [spec_siPeriod.l0]
      rw [if_neg (by omega)]; rfl
  | d + 1, i, p, h, h1, h2 => by
    have ho := (okRule_iff _).1 (List.all_eq_true.mp hl _ (rd_mem l i (by omega)))
    have he : ((rd_Rule l i).f0.toNat : Int) = (rd_Rule l i).f0 := Int.toNat_of_nonneg (by omega)
    obtain ⟨Kg, hg⟩ := gcd_l0 (rd_Rule l i).f0.toNat p
    dsimp only at hg
    rw [he] at hg
    have hs := step_val p (rd_Rule l i).f0 h1 h2 ho.1 ho.2.1
    have hg0 : ((Nat.gcd p (rd_Rule l i).f0.toNat : Nat) : Int) ≠ 0 := by
      have := Nat.gcd_pos_of_pos_left (rd_Rule l i).f0.toNat h1
      omega
    have hpos := lcm_pos' (e := (rd_Rule l i).f0.toNat) h1 (by omega)
    rw [rd_drop l i (by omega), perN]
    by_cases hc : Nat.lcm p (rd_Rule l i).f0.toNat > 100000
    · rw [if_pos hc]
      constructor
      · refine Ev.mk' Kg fun k hk => ?_
        simp only [impl_lcmOf.l0, impl_gcd.f, hg k hk, Option.bind_some, hs]
        rw [if_pos (by omega), if_pos (by omega), if_pos (by omega), if_neg hg0, if_pos (by omega)]
      · refine Ev.mk' Kg fun k hk => ?_
        simp only [spec_siPeriod.l0, spec_siCommon.f, siCommon_l0, hg k hk, Option.bind_some, hs]
        rw [if_pos (by omega), if_pos (by omega), if_pos (by omega), if_neg hg0, if_pos (by omega)]
    · rw [if_neg hc]
      obtain ⟨⟨K1, i1⟩, ⟨K2, i2⟩⟩ := lcmOf_l0 l hm hl d (i + 1) (Nat.lcm p (rd_Rule l i).f0.toNat) (by omega) hpos (by omega)
      dsimp only at i1 i2
      constructor
      · refine Ev.mk' (Kg + K1) fun k hk => ?_
        simp only [impl_lcmOf.l0, impl_gcd.f, hg k (by omega), Option.bind_some, hs]
        rw [if_pos (by omega), if_pos (by omega), if_pos (by omega), if_neg hg0, if_neg (by omega), show wrap64 ((i : Int) + 1) = ((i + 1 : Nat) : Int) from wrap_id (by omega) (by omega), i1 k (by omega)]
      · refine Ev.mk' (Kg + K2) fun k hk => ?_
        simp only [spec_siPeriod.l0, spec_siCommon.f, siCommon_l0, hg k (by omega), Option.bind_some, hs]
        rw [if_pos (by omega), if_pos (by omega), if_pos (by omega), if_neg hg0, if_neg (by omega), show wrap64 ((i : Int) + 1) = ((i + 1 : Nat) : Int) from wrap_id (by omega) (by omega), i2 k (by omega)]
theorem perN_pos : ∀ (l : List SRule) (p q : Nat), l.all okRule = true → 0 < p → p ≤ 100000 → perN p l = some q → 0 < q ∧ q ≤ 100000
  | [], p, q, _, h, h2, he => by simp [perN] at he; omega
  | x :: t, p, q, ha, h, h2, he => by
    rw [perN] at he
    simp only [List.all_cons, Bool.and_eq_true] at ha
    have hx := (okRule_iff x).1 ha.1
    split at he
    · simp at he
    · exact perN_pos t _ q ha.2 (lcm_pos' h (by omega)) (by omega) he
def period (l : List SRule) : Option Nat := if goodRules l = true then perN 1 l else none
theorem period_some {l : List SRule} {p : Nat} (h : period l = some p) : goodRules l = true ∧ 0 < p ∧ p ≤ 100000 := by
  unfold period at h
  split at h
  · next hg => exact ⟨hg, perN_pos l 1 p (good_all hg).2 (by omega) (by omega) h⟩
  · simp at h
theorem periodOf_ev (l : List SRule) : Ev (fun k => impl_periodOf.f k l) (match period l with | some q => ((q : Int), true) | none => (0, false)) := by
  unfold period
  by_cases hg : goodRules l = true
  · rw [if_pos hg]
    obtain ⟨⟨K1, i1⟩, -⟩ := lcmOf_l0 l (good_all hg).1 (good_all hg).2 l.length 0 1 (by omega) (by omega) (by omega)
    refine ⟨K1, fun k hk => ?_⟩
    have i1 : impl_lcmOf.l0 k 1 l l.length 0 = _ := i1 k hk
    simp only [impl_periodOf.f, areRules_ok, hg, Option.bind_some, if_true, impl_lcmOf.f, i1, List.drop_zero]
  · rw [if_neg hg]
    refine ⟨0, fun k _ => ?_⟩
    simp only [impl_periodOf.f, areRules_ok, Option.bind_some]
    rw [if_neg hg]
theorem siPeriod_ev (l : List SRule) (hg : goodRules l = true) : Ev (fun k => spec_siPeriod.f k l) (match period l with | some q => (q : Int) | none => 0) := by
  unfold period
  rw [if_pos hg]
  obtain ⟨-, ⟨K1, i1⟩⟩ := lcmOf_l0 l (good_all hg).1 (good_all hg).2 l.length 0 1 (by omega) (by omega) (by omega)
  exact ⟨K1, fun k hk => i1 k hk⟩
end Go.Proofs.Ytdcijdeiaefjpaa.P
namespace Go.Proofs.Ytdcijdeiaefjpaa.P
open Go.RowKit Go.Proofs.YtdcijdeiaefjpaaW.PrintWords Go.Proofs.YtdcijdeiaefjpaaW.PrintLast
set_option linter.unusedVariables false
set_option linter.unusedSimpArgs false
def perL (l : List SRule) (p : Nat) : List Int := leftsTo l 0 ((p : Int) - 1)
theorem perL_length (l : List SRule) (p : Nat) : (perL l p).length ≤ p := by
  have := lefts_length l ((p : Int) - 1 + 1 - 0).toNat 0
  unfold perL leftsTo
  omega
def perL1 (l : List SRule) (p : Nat) : List Int := perL l p ++ [wrap64 (rd (perL l p) 0 + (p : Int))]
def gpL (l : List SRule) : List Int × Bool := match period l with | some p => (perL l p, decide ((perL l p).length > 0)) | none => ([], false)
theorem decide_len (l : List Int) : decide ((l.length : Int) > 0) = decide (l.length > 0) := by
  rw [Bool.eq_iff_iff]; simp
theorem gpLeft_l0 (l : List SRule) (p : Nat) (hp : period l = some p) : ∀ (m : Nat) (i : Int) (acc : List Int), i + m = p → 0 ≤ i → acc.length + m < 17592186044416 → Ev (fun k => spec_gpLeft.l0 k l acc i) (acc ++ lefts l i m, decide ((acc ++ lefts l i m).length > 0))
  | 0, i, acc, h, h0, h1 => by
    obtain ⟨hg, hp0, hp1⟩ := period_some hp
    obtain ⟨K, hK⟩ := siPeriod_ev l hg
    dsimp only at hK
    rw [hp] at hK
    refine Ev.mk' K fun k hk => ?_
    simp only [spec_gpLeft.l0, hK k hk, Option.bind_some]
    rw [if_neg (by omega), decide_len]; simp [lefts]
  | m + 1, i, acc, h, h0, h1 => by
    obtain ⟨hg, hp0, hp1⟩ := period_some hp
    obtain ⟨K2, hK⟩ := siPeriod_ev l hg
    dsimp only at hK
    rw [hp] at hK
    obtain ⟨K1, h3⟩ := siLeft_ev i l (by have := (good_all hg).1; omega) (good_all hg).2
    dsimp only at h3
    simp only [lefts]
    by_cases hc : left l i = true
    · obtain ⟨K, ih⟩ := gpLeft_l0 l p hp m (i + 1) (acc ++ [i]) (by omega) (by omega) (by simp; omega)
      dsimp only at ih
      refine Ev.mk' (K + K1 + K2) fun k hk => ?_
      simp only [spec_gpLeft.l0, hK k (by omega), h3 k (by omega), Option.bind_some]
      rw [if_pos (by omega), if_pos hc, if_pos (by omega), wrap_id (by omega) (by omega), ih k (by omega)]
      simp [hc]
    · obtain ⟨K, ih⟩ := gpLeft_l0 l p hp m (i + 1) acc (by omega) (by omega) (by omega)
      dsimp only at ih
      refine Ev.mk' (K + K1 + K2) fun k hk => ?_
      simp only [spec_gpLeft.l0, hK k (by omega), h3 k (by omega), Option.bind_some]
      rw [if_pos (by omega), if_neg hc, wrap_id (by omega) (by omega), ih k (by omega)]
      simp [hc]
theorem gpLeft_ev (l : List SRule) : Ev (fun k => spec_gpLeft.f k l) (gpL l) := by
  obtain ⟨K1, h1⟩ := siGood_ev l
  dsimp only at h1
  unfold gpL
  by_cases hg : goodRules l = true
  · obtain ⟨K2, h2⟩ := siPeriod_ev l hg
    dsimp only at h2
    cases hp : period l with
    | none =>
      rw [hp] at h2
      refine Ev.mk' (K1 + K2) fun k hk => ?_
      simp (disch := omega) only [spec_gpLeft.f, h1, h2, hg, Option.bind_some, if_true, spec_gpLeft.j0]
      simp
    | some p =>
      rw [hp] at h2
      obtain ⟨-, hp0, hp1⟩ := period_some hp
      obtain ⟨K3, h3⟩ := gpLeft_l0 l p hp p 0 [] (by omega) (by omega) (by simp; omega)
      dsimp only at h3
      refine Ev.mk' (K1 + K2 + K3) fun k hk => ?_
      have e : (((p : Nat) : Int) == 0) = false := by simp; omega
      simp (disch := omega) only [spec_gpLeft.f, h1, h2, h3, hg, e, Option.bind_some, if_true, spec_gpLeft.j0]
      unfold perL leftsTo
      rw [show ((p : Int) - 1 + 1 - 0).toNat = p by omega]
      simp
  · have hp : period l = none := by unfold period; rw [if_neg hg]
    rw [hp]
    refine Ev.mk' (K1) fun k hk => ?_
    simp (disch := omega) only [spec_gpLeft.f, h1, Option.bind_some, spec_gpLeft.j0]
    rw [if_neg hg]; rfl
theorem frm_snoc (x : Int) : ∀ (t : List Int) (a : Int), frm a (t ++ [x]) = a :: t
  | [], a => rfl
  | b :: t, a => by simp [frm, frm_snoc x t b]
theorem rd_zero_app (l : List Int) (x : Int) (h : l ≠ []) : rd (l ++ [x]) 0 = rd l 0 := by
  cases l with
  | nil => exact absurd rfl h
  | cons y t => simp [rd]
theorem fromL_snoc (l : List Int) (x : Int) (h : l ≠ []) : fromL (l ++ [x]) = l := by
  unfold fromL
  rw [rd_zero_app l x h]
  cases l with
  | nil => exact absurd rfl h
  | cons y t => simp [rd, frm_snoc]
def pgaps (l : List SRule) : List Int × List Int × Bool := match period l with
  | some p => if perL l p = [] then ([], [], false) else (perL l p, gapsL (perL1 l p), true)
  | none => ([], [], false)
theorem periodGaps_ev (l : List SRule) : Ev (fun k => impl_periodGaps.f k l) (pgaps l) := by
  obtain ⟨K1, h1⟩ := periodOf_ev l
  dsimp only at h1
  unfold pgaps
  cases hp : period l with
  | none =>
    rw [hp] at h1
    refine ⟨K1, fun k hk => ?_⟩
    simp (disch := omega) only [impl_periodGaps.f, h1, Option.bind_some]
    simp
  | some p =>
    rw [hp] at h1
    obtain ⟨hg, hp0, hp1⟩ := period_some hp
    have hl := perL_length l p
    obtain ⟨K2, h2⟩ := leftBetween_ev l (good_all hg).2 0 ((p : Int) - 1) (by omega) (by omega) (by omega)
    obtain ⟨K3, h3⟩ := gapsOf_ev (perL1 l p) (by simp [perL1]; omega)
    dsimp only at h2 h3
    refine ⟨K1 + K2 + K3, fun k hk => ?_⟩
    simp (disch := omega) only [impl_periodGaps.f, h1, Option.bind_some, if_true]
    rw [wrap_id (by omega) (by omega), h2 k (by omega), show leftsTo l 0 ((p : Int) - 1) = perL l p from rfl]
    simp only [Option.bind_some]
    by_cases he : perL l p = []
    · rw [if_pos he, if_pos (by rw [he]; rfl)]
    · have : 0 < (perL l p).length := List.length_pos_iff.mpr he
      rw [if_neg he, if_neg (by omega), if_pos (by omega), if_pos (by omega), show perL l p ++ [wrap64 (rd (perL l p) 0 + (p : Int))] = perL1 l p from rfl, h3 k (by omega)]
      simp only [Option.bind_some]
      rw [show fromL (perL1 l p) = perL l p from fromL_snoc _ _ he]
end Go.Proofs.Ytdcijdeiaefjpaa.P
namespace Go.Proofs.Ytdcijdeiaefjpaa.P
open Go.RowKit Go.Proofs.YtdcijdeiaefjpaaW.PrintWords Go.Proofs.YtdcijdeiaefjpaaW.PrintLast
set_option linter.unusedVariables false
set_option linter.unusedSimpArgs false
theorem lastOf_snoc (e : Int) : ∀ (t : List Int) (x : Int), lastOf x (t ++ [e]) = e
  | [], x => rfl
  | y :: t, x => lastOf_snoc e t y
theorem gapOk_left (l : List SRule) : ∀ (m : Nat) (i : Int), ∀ y ∈ lefts l i m, left l y = true
  | 0, i, y, h => by simp [lefts] at h
  | m + 1, i, y, h => by
    simp only [lefts, List.mem_append] at h
    rcases h with h | h
    · cases hc : left l i with
      | true => rw [hc] at h; have : y = i := by simpa using h
                rw [this]; exact hc
      | false => rw [hc] at h; simp at h
    · exact gapOk_left l m (i + 1) y h
theorem per_shift {l : List SRule} {p : Nat} (hper : ∀ z, left l (z + p) = left l z) : ∀ (k : Nat) (z : Int), left l (z + k * p) = left l z
  | 0, z => by simp
  | k + 1, z => by
    have := per_shift hper k (z + p)
    rw [hper] at this
    rw [← this, Int.natCast_succ, Int.add_mul, Int.one_mul]
    congr 1; omega
theorem per_all {l : List SRule} {p : Nat} (hper : ∀ z, left l (z + p) = left l z) (q z : Int) : left l (z + q * p) = left l z := by
  by_cases h : 0 ≤ q
  · have := per_shift hper q.toNat z
    rwa [show ((q.toNat : Nat) : Int) = q by omega] at this
  · have := per_shift hper (-q).toNat (z + q * p)
    rw [show (((-q).toNat : Nat) : Int) = -q by omega, Int.neg_mul] at this
    rw [← this]; congr 1; omega
theorem run_max {l : List SRule} {p : Nat} (hp : 0 < p) (hper : ∀ z, left l (z + p) = left l z) {x : Int} {t : List Int} (hL : perL l p = x :: t) :
    (∀ g ∈ gaps x (t ++ [x + p]), 1 ≤ g ∧ ∃ a : Int, ∀ j : Int, 1 ≤ j → j < g → left l (a + j) = false) ∧
    ∀ (a : Int) (n : Nat), 1 ≤ n → (∀ j : Nat, 1 ≤ j → j ≤ n → left l (a + j) = false) → ∃ g ∈ gaps x (t ++ [x + p]), (n : Int) ≤ g - 1 := by
  have hL2 : lefts l 0 p = x :: t := by
    have h_ := hL
    unfold perL leftsTo at h_
    rwa [show ((p : Int) - 1 + 1 - 0).toNat = p by omega] at h_
  obtain ⟨h1, h2, h3, h4, h5, h6, h7, h8⟩ := lefts_shape l p 0 x t hL2
  have hall := gapOk_left l p 0
  rw [hL2] at hall
  have hg : GapOk l x (t ++ [x + p]) := gapOk_snoc l (x + p) t x h5 (by omega) (fun z z1 z2 => by
    by_cases c : z < p
    · exact h8 z z1 (by omega)
    · have := hper (z - p)
      rw [show z - (p : Int) + p = z by omega] at this
      rw [this]
      exact h4 (z - p) (by omega) (by omega))
  refine ⟨gap_in l _ x hg, fun a n hn hrun => ?_⟩
  obtain ⟨q, hq⟩ : ∃ q, q = (a + 1 - x) / (p : Int) := ⟨_, rfl⟩
  have hd := Int.emod_add_mul_ediv (a + 1 - x) p
  have hm0 := Int.emod_nonneg (a + 1 - x) (show (p : Int) ≠ 0 by omega)
  have hm1 := Int.emod_lt_of_pos (a + 1 - x) (show (0 : Int) < p by omega)
  rw [← hq] at hd
  have hs : left l (a + 1) = false := hrun 1 (Nat.le_refl _) hn
  obtain ⟨s, hsd⟩ : ∃ s, s = a + 1 - q * p := ⟨_, rfl⟩
  have hqp : (p : Int) * q = q * p := Int.mul_comm _ _
  have hs2 : left l s = false := by
    have := per_all hper q s
    rw [hsd, show a + 1 - q * (p : Int) + q * p = a + 1 by omega] at this
    rw [hsd, ← this]; exact hs
  have hsx : s ≠ x := fun e => by rw [e, h3] at hs2; exact absurd hs2 (by decide)
  obtain ⟨g, hg2, u, v, hgv, hu, hv, hlv⟩ := gap_over l (t ++ [x + p]) x s hg h3 (fun y hy => by
    rcases List.mem_append.1 hy with hy | hy
    · exact hall y (List.mem_cons_of_mem _ hy)
    · obtain rfl := List.mem_singleton.1 hy
      rw [hper]; exact h3) (by omega) (by rw [lastOf_snoc]; omega) hs2
  refine ⟨g, hg2, ?_⟩
  by_cases c : (n : Int) ≤ v - s
  · omega
  · exfalso
    have := hrun (v - s + 1).toNat (by omega) (by omega)
    rw [show (((v - s + 1).toNat : Nat) : Int) = v - s + 1 by omega, show a + (v - s + 1) = v + q * p by omega, per_all hper, hlv] at this
    exact absurd this (by decide)
theorem perN_dvdR : ∀ (l : List SRule) (p q : Nat), perN p l = some q → p ∣ q ∧ ∀ r ∈ l, r.f0.toNat ∣ q
  | [], p, q, h => by
    simp only [perN, Option.some.injEq] at h
    subst h; exact ⟨Nat.dvd_refl _, by simp⟩
  | x :: t, p, q, h => by
    simp only [perN] at h
    split at h
    · cases h
    · obtain ⟨h1, h2⟩ := perN_dvdR t _ q h
      exact ⟨Nat.dvd_trans (Nat.dvd_lcm_left _ _) h1, fun r hr => by
        rcases List.mem_cons.1 hr with rfl | hr
        · exact Nat.dvd_trans (Nat.dvd_lcm_right _ _) h1
        · exact h2 r hr⟩
theorem period_left {l : List SRule} {p : Nat} (h : period l = some p) (z : Int) : left l (z + p) = left l z := by
  have hg := (period_some h).1
  have hd : ∀ r ∈ l, r.f0.toNat ∣ p := by
    unfold period at h
    rw [if_pos hg] at h
    exact (perN_dvdR l 1 p h).2
  have hok := (good_all hg).2
  unfold left
  congr 1
  rw [Bool.eq_iff_iff, List.any_eq_true, List.any_eq_true]
  have e : ∀ r ∈ l, (z + p) % r.f0 = z % r.f0 := fun r hr => by
    have h2 := (okRule_iff r).1 (List.all_eq_true.1 hok r hr)
    obtain ⟨c, hc⟩ := hd r hr
    have e1 : (p : Int) = r.f0 * c := by
      have h3 : ((r.f0.toNat : Nat) : Int) = r.f0 := by omega
      rw [hc, Int.natCast_mul, h3]
    rw [e1, Int.add_mul_emod_self_left]
  exact ⟨fun ⟨r, hr, h1⟩ => ⟨r, hr, by have h2 : ((z + p) % r.f0 == r.f1) = true := h1; rw [e r hr] at h2; exact h2⟩, fun ⟨r, hr, h1⟩ => ⟨r, hr, by show ((z + p) % r.f0 == r.f1) = true; rw [e r hr]; exact h1⟩⟩
end Go.Proofs.Ytdcijdeiaefjpaa.P
namespace Go.Proofs.Ytdcijdeiaefjpaa.P
open Go.RowKit Go.Proofs.YtdcijdeiaefjpaaW.PrintWords Go.Proofs.YtdcijdeiaefjpaaW.PrintLast
set_option linter.unusedVariables false
set_option linter.unusedSimpArgs false
theorem rd_app_left (l : List Int) (x : Int) (i : Nat) (h : i < l.length) : rd (l ++ [x]) i = rd l i := by
  unfold rd
  simp only [Int.toNat_natCast, List.getD_eq_getElem?_getD]
  rw [List.getElem?_append_left h]
theorem rd_app_last (l : List Int) (x : Int) : rd (l ++ [x]) (l.length : Int) = x := by
  simp [rd]
theorem gpGaps_l0 (l : List SRule) (L : List Int) (q : Int) (hl : L.length ≤ 100000) (hpos : 0 < L.length) (hper : Ev (fun k => spec_siPeriod.f k l) q) (M : List Int) (hM : M = L ++ [wrap64 (rd L 0 + q)]) : ∀ (d i : Nat) (acc : List Int), i + d = L.length → acc.length ≤ i → Ev (fun k => spec_gpGaps.l0 k l L acc L L.length i) (acc ++ dif (rd M i) (M.drop (i + 1)), L, true)
  | 0, i, acc, h, ha => Ev.mk' 0 fun k _ => by
    have hlen : M.length = L.length + 1 := by rw [hM]; simp
    simp only [spec_gpGaps.l0]
    rw [if_neg (by omega), List.drop_eq_nil_of_le (by omega)]; simp [dif]
  | d + 1, i, acc, h, ha => by
    obtain ⟨K2, hK⟩ := hper
    dsimp only at hK
    have hlen : M.length = L.length + 1 := by rw [hM]; simp
    have hri : rd M (i : Int) = rd L i := by rw [hM]; exact rd_app_left _ _ i (by omega)
    obtain ⟨K, ih⟩ := gpGaps_l0 l L q hl hpos ⟨K2, hK⟩ M hM d (i + 1) (acc ++ [wrap64 (rd M ((i + 1 : Nat) : Int) - rd M i)]) (by omega) (by simp; omega)
    dsimp only at ih
    refine Ev.mk' (K + K2) fun k hk => ?_
    simp only [spec_gpGaps.l0]
    rw [if_pos (by omega), if_pos (by omega), if_pos (by omega), if_pos (by omega), hK k (by omega)]
    simp only [obind]
    rw [show wrap64 ((i : Int) + 1) = ((i + 1 : Nat) : Int) from wrap_id (by omega) (by omega)]
    rw [rd_dropG M (i + 1) (by omega), dif]
    by_cases hc : i + 1 < L.length
    · rw [if_pos (by omega), if_pos (by omega), if_pos (by omega)]
      have e : rd M ((i + 1 : Nat) : Int) = rd L ((i + 1 : Nat) : Int) := by rw [hM]; exact rd_app_left _ _ (i + 1) hc
      rw [← e, ← hri, ih k (by omega)]
      simp
    · rw [if_neg (by omega), if_pos (by omega)]
      have e : rd M ((i + 1 : Nat) : Int) = wrap64 (rd L 0 + q) := by
        rw [hM, show i + 1 = L.length by omega]; exact rd_app_last _ _
      rw [← e, ← hri, ih k (by omega)]
      simp
def gpG (l : List SRule) : List Int × List Int × Bool := ((pgaps l).2.1, (pgaps l).1, (pgaps l).2.2)
theorem gpGaps_ev (l : List SRule) : Ev (fun k => spec_gpGaps.f k l) (gpG l) := by
  obtain ⟨K1, h1⟩ := gpLeft_ev l
  dsimp only at h1
  unfold gpG pgaps
  cases hp : period l with
  | none =>
    refine ⟨K1, fun k hk => ?_⟩
    simp only [spec_gpGaps.f, h1 k hk, gpL, hp, obind]
    simp
  | some p =>
    by_cases he : perL l p = []
    · refine ⟨K1, fun k hk => ?_⟩
      simp only [spec_gpGaps.f, h1 k hk, gpL, hp, obind, he]
      simp
    · have hpos : 0 < (perL l p).length := List.length_pos_iff.mpr he
      obtain ⟨hg, hp0, hp1⟩ := period_some hp
      have hper := siPeriod_ev l hg
      rw [hp] at hper
      have hl := perL_length l p
      obtain ⟨K2, h2⟩ := gpGaps_l0 l (perL l p) p (by omega) hpos hper (perL1 l p) rfl (perL l p).length 0 [] (by omega) (by simp)
      have h2 : ∀ k, K2 ≤ k → spec_gpGaps.l0 k l (perL l p) [] (perL l p) (perL l p).length 0 = _ := h2
      refine ⟨K1 + K2, fun k hk => ?_⟩
      simp (disch := omega) only [spec_gpGaps.f, h1, gpL, hp, obind, h2]
      simp [he, hpos, gapsL]
end Go.Proofs.Ytdcijdeiaefjpaa.P
namespace Go.Proofs.Ytdcijdeiaefjpaa.P
open Go.RowKit Go.Proofs.YtdcijdeiaefjpaaW.PrintWords Go.Proofs.YtdcijdeiaefjpaaW.PrintLast
set_option linter.unusedVariables false
set_option linter.unusedSimpArgs false
def Inc : Int → List Int → Prop
  | _, [] => True
  | a, b :: t => a < b ∧ Inc b t
theorem lefts_ge (l : List SRule) : ∀ (m : Nat) (i x : Int), x ∈ lefts l i m → i ≤ x ∧ x < i + m
  | 0, i, x, h => by simp [lefts] at h
  | m + 1, i, x, h => by
    simp only [lefts, List.mem_append] at h
    rcases h with h | h
    · split at h
      · simp at h; omega
      · simp at h
    · have := lefts_ge l m (i + 1) x h; omega
theorem lefts_inc (l : List SRule) : ∀ (m : Nat) (i a : Int), a < i → Inc a (lefts l i m)
  | 0, i, a, h => trivial
  | m + 1, i, a, h => by
    simp only [lefts]
    split
    · exact ⟨h, lefts_inc l m (i + 1) i (by omega)⟩
    · exact lefts_inc l m (i + 1) a (by omega)
theorem inc_snoc : ∀ (t : List Int) (a x : Int), Inc a t → a < x → (∀ y ∈ t, y < x) → Inc a (t ++ [x])
  | [], a, x, _, h, _ => ⟨h, trivial⟩
  | b :: t, a, x, hi, h, hy => ⟨hi.1, inc_snoc t b x hi.2 (hy b (by simp)) (fun y hy' => hy y (by simp [hy']))⟩
theorem dif_pos : ∀ (t : List Int) (a : Int), Inc a t → (∀ y ∈ a :: t, 0 ≤ y ∧ y ≤ 4611686018427387904) → ∀ g ∈ dif a t, 1 ≤ g
  | [], a, _, _, g, h => by simp [dif] at h
  | b :: t, a, hi, hb, g, h => by
    simp only [dif, List.mem_cons] at h
    have h1 := hb a (by simp)
    have h2 := hb b (by simp)
    rcases h with rfl | h
    · rw [wrap_id (by omega) (by omega)]
      have := hi.1; omega
    · exact dif_pos t b hi.2 (fun y hy => hb y (by simp only [List.mem_cons] at hy ⊢; exact Or.inr hy)) g h
theorem perL_mem {l : List SRule} {p : Nat} {x : Int} (h : x ∈ perL l p) : 0 ≤ x ∧ x < p := by
  have := lefts_ge l _ _ x h
  omega
theorem pgaps_pos (l : List SRule) : ∀ g ∈ (pgaps l).2.1, 1 ≤ g := by
  unfold pgaps
  cases hp : period l with
  | none => simp
  | some p =>
    obtain ⟨hg, hp0, hp1⟩ := period_some hp
    by_cases he : perL l p = []
    · simp [he]
    · simp only [he, if_false]
      have hmem : ∀ x ∈ perL l p, 0 ≤ x ∧ x < p := fun x hx => perL_mem hx
      have hinc : ∀ a, a < 0 → Inc a (perL l p) := fun a ha => lefts_inc l _ 0 a ha
      unfold gapsL perL1
      cases hL : perL l p with
      | nil => exact absurd hL he
      | cons y t =>
        rw [hL] at hmem hinc
        have hy := hmem y (by simp)
        have hr : rd (y :: t) 0 = y := by simp [rd]
        have hr2 : rd (y :: t ++ [wrap64 (rd (y :: t) 0 + (p : Int))]) 0 = y := by simp [rd]
        rw [hr2, hr, wrap_id (by omega) (by omega)]
        simp only [List.cons_append, List.drop_succ_cons, List.drop_zero]
        have h2 := (hinc (-1) (by omega)).2
        refine dif_pos _ y (inc_snoc t y (y + p) h2 (by omega) (fun z hz => ?_)) ?_
        · have := hmem z (by simp [hz]); omega
        · intro z hz
          simp only [List.mem_cons, List.mem_append, List.mem_singleton, List.not_mem_nil, or_false] at hz
          rcases hz with rfl | hz | rfl
          · omega
          · have := hmem z (by simp [hz]); omega
          · omega
def runs : Int → Int → List Int → Int
  | m, _, [] => m
  | m, r, g :: t => let r' := if g = 1 then r + 1 else 1; runs (mx m r') r' t
theorem most_mx (a b : Int) : spec_l1Most.f a b = some (mx a b) := by
  unfold spec_l1Most.f mx
  by_cases h : a > b
  · rw [if_pos h, if_neg (by omega)]
  · rw [if_neg h]
    by_cases h2 : a < b
    · rw [if_pos h2]
    · rw [if_neg h2]; congr 1; omega
theorem specRun_l0 (G : List Int) (h1 : 0 < G.length) (h2 : G.length ≤ 100000) : ∀ (d i : Nat) (m r : Int), i + d = 2 * G.length → 1 ≤ r → r ≤ i + 1 → Ev (fun k => spec_LongestRunLeft.l0 k G m r i) (runs m r ((G ++ G).drop i), true)
  | 0, i, m, r, h, h3, h4 => Ev.mk' 0 fun k _ => by
    simp only [spec_LongestRunLeft.l0]
    rw [wrap_id (by omega) (by omega), if_neg (by omega), List.drop_eq_nil_of_le (by simp; omega)]; rfl
  | d + 1, i, m, r, h, h3, h4 => by
    have hlt : i < (G ++ G).length := by simp; omega
    have hrd : rd G (Int.tmod (i : Int) (G.length : Int)) = rd (G ++ G) i := by
      rw [show Int.tmod (i : Int) (G.length : Int) = ((i % G.length : Nat) : Int) from rfl]
      unfold rd
      simp only [Int.toNat_natCast, List.getD_eq_getElem?_getD]
      by_cases hc : i < G.length
      · rw [Nat.mod_eq_of_lt hc, List.getElem?_append_left hc]
      · rw [List.getElem?_append_right (by omega), Nat.mod_eq_sub_mod (by omega), Nat.mod_eq_of_lt (by omega)]
    have hmod : (i % G.length : Nat) < G.length := Nat.mod_lt _ h1
    rw [rd_dropG (G ++ G) i hlt, runs]
    by_cases hc : rd (G ++ G) i = 1
    · obtain ⟨K, ih⟩ := specRun_l0 G h1 h2 d (i + 1) (mx m (r + 1)) (r + 1) (by omega) (by omega) (by omega)
      dsimp only at ih
      refine Ev.mk' K fun k hk => ?_
      simp only [spec_LongestRunLeft.l0]
      rw [wrap_id (n := 2 * (G.length : Int)) (by omega) (by omega), if_pos (by omega), if_neg (by omega), hrd]
      rw [show Int.tmod (i : Int) (G.length : Int) = ((i % G.length : Nat) : Int) from rfl, if_pos (by omega), if_pos (by omega), if_pos hc]
      rw [show wrap64 ((i : Int) + 1) = ((i + 1 : Nat) : Int) from wrap_id (by omega) (by omega), show wrap64 (r + 1) = r + 1 from wrap_id (by omega) (by omega), most_mx, obind, ih k hk]
      simp only [hc, if_true]
    · obtain ⟨K, ih⟩ := specRun_l0 G h1 h2 d (i + 1) (mx m 1) 1 (by omega) (by omega) (by omega)
      dsimp only at ih
      refine Ev.mk' K fun k hk => ?_
      simp only [spec_LongestRunLeft.l0]
      rw [wrap_id (n := 2 * (G.length : Int)) (by omega) (by omega), if_pos (by omega), if_neg (by omega), hrd]
      rw [show Int.tmod (i : Int) (G.length : Int) = ((i % G.length : Nat) : Int) from rfl, if_pos (by omega), if_pos (by omega), if_neg hc]
      rw [show wrap64 ((i : Int) + 1) = ((i + 1 : Nat) : Int) from wrap_id (by omega) (by omega), most_mx, obind, ih k hk]
      simp only [hc, if_false]
def runs2 : Int → Int → List Int → Int × Int
  | m, r, [] => (m, r)
  | m, r, g :: t => let r' := if g = 1 then r + 1 else 1; runs2 (mx m r') r' t
theorem runs_app : ∀ (s t : List Int) (m r : Int), runs m r (s ++ t) = runs (runs2 m r s).1 (runs2 m r s).2 t
  | [], t, m, r => rfl
  | g :: s, t, m, r => by simp only [List.cons_append, runs, runs2]; exact runs_app s t _ _
theorem runs_fst (m r : Int) : ∀ (s : List Int) (m r : Int), runs m r s = (runs2 m r s).1
  | [], m, r => rfl
  | g :: s, m, r => by simp only [runs, runs2]; exact runs_fst m r s _ _
theorem runs2_bound : ∀ (s : List Int) (m r : Int), 1 ≤ r → 1 ≤ (runs2 m r s).2 ∧ (runs2 m r s).2 ≤ r + s.length
  | [], m, r, h => by simp [runs2]; omega
  | g :: s, m, r, h => by
    simp only [runs2]
    split
    · have := runs2_bound s (mx m (r + 1)) (r + 1) (by omega)
      simp only [List.length_cons]; omega
    · have := runs2_bound s (mx m 1) 1 (by omega)
      simp only [List.length_cons]; omega
theorem implRun_l1 (G : List Int) (hp : ∀ g ∈ G, 1 ≤ g) (h2 : G.length ≤ 100000) (q B : Int) (hB : B ≤ 1000000) (R : Int → Int → Int × Bool) (hq : ∀ m r, 1 ≤ r → r ≤ B → Ev (fun k => impl_LongestRunLeft.l0 k G m r (wrap64 (q + 1))) (R m r)) :
    ∀ (d i : Nat) (m r : Int), i + d = G.length → 1 ≤ r → r + d ≤ B → Ev (fun k => impl_LongestRunLeft.l1 k G m r q G G.length i) (R (runs2 m r (G.drop i)).1 (runs2 m r (G.drop i)).2)
  | 0, i, m, r, h, h3, h4 => by
    obtain ⟨K, hK⟩ := hq m r h3 (by omega)
    dsimp only at hK
    refine Ev.mk' K fun k hk => ?_
    simp only [impl_LongestRunLeft.l1]
    rw [if_neg (by omega), List.drop_eq_nil_of_le (by omega), hK k hk]; rfl
  | d + 1, i, m, r, h, h3, h4 => by
    have hg : 1 ≤ rd G i := by
      have hd := rd_dropG G i (by omega)
      exact hp _ (List.mem_of_mem_drop (i := i) (by rw [hd]; simp))
    rw [rd_dropG G i (by omega), runs2]
    by_cases hc : rd G i = 1
    · obtain ⟨K, ih⟩ := implRun_l1 G hp h2 q B hB R hq d (i + 1) (mx m (r + 1)) (r + 1) (by omega) (by omega) (by omega)
      dsimp only at ih
      refine Ev.mk' K fun k hk => ?_
      simp only [impl_LongestRunLeft.l1]
      rw [if_pos (by omega), if_pos (by omega), if_pos (by omega), if_neg (by omega)]
      rw [show wrap64 ((i : Int) + 1) = ((i + 1 : Nat) : Int) from wrap_id (by omega) (by omega), show wrap64 (r + 1) = r + 1 from wrap_id (by omega) (by omega), ih k hk]
      simp only [hc, if_true]
    · obtain ⟨K, ih⟩ := implRun_l1 G hp h2 q B hB R hq d (i + 1) (mx m 1) 1 (by omega) (by omega) (by omega)
      dsimp only at ih
      refine Ev.mk' K fun k hk => ?_
      simp only [impl_LongestRunLeft.l1]
      rw [if_pos (by omega), if_pos (by omega), if_pos (by omega), if_pos (by omega)]
      rw [show wrap64 ((i : Int) + 1) = ((i + 1 : Nat) : Int) from wrap_id (by omega) (by omega), ih k hk]
      simp only [hc, if_false]
theorem implRun_ev (G : List Int) (hp : ∀ g ∈ G, 1 ≤ g) (h2 : G.length ≤ 100000) : Ev (fun k => impl_LongestRunLeft.l0 k G 1 1 0) (runs 1 1 (G ++ G), true) := by
  have e2 : ∀ m r, 1 ≤ r → r ≤ 1000000 → Ev (fun k => impl_LongestRunLeft.l0 k G m r (wrap64 (1 + 1))) (m, true) := fun m r _ _ => Ev.mk' 0 fun k _ => by
    simp only [impl_LongestRunLeft.l0]
    rw [if_neg (by rw [wrap_id (by omega) (by omega)]; omega)]
  have e1 : ∀ m r, 1 ≤ r → r ≤ 800000 → Ev (fun k => impl_LongestRunLeft.l0 k G m r 1) ((runs2 m r G).1, true) := fun m r h h' => by
    obtain ⟨K, hK⟩ := implRun_l1 G hp h2 1 1000000 (by omega) (fun m _ => (m, true)) e2 G.length 0 m r (by omega) h (by omega)
    have hK : ∀ k, K ≤ k → impl_LongestRunLeft.l1 k G m r 1 G G.length 0 = _ := hK
    refine Ev.mk' K fun k hk => ?_
    simp only [impl_LongestRunLeft.l0]
    rw [if_pos (by omega), hK k hk]; rfl
  obtain ⟨K, hK⟩ := implRun_l1 G hp h2 0 800000 (by omega) (fun m r => ((runs2 m r G).1, true)) (fun m r h h' => by
    rw [show wrap64 (0 + 1) = 1 from wrap_id (by omega) (by omega)]; exact e1 m r h h') G.length 0 1 1 (by omega) (by omega) (by omega)
  have hK : ∀ k, K ≤ k → impl_LongestRunLeft.l1 k G 1 1 0 G G.length 0 = _ := hK
  refine Ev.mk' K fun k hk => ?_
  simp only [impl_LongestRunLeft.l0]
  rw [if_pos (by omega), hK k hk, runs_app, runs_fst 0 0, List.drop_zero]
def vRunLeft (l : List SRule) : Int × Bool := if (pgaps l).2.2 = true ∧ l.length ≠ 0 then (runs 1 1 ((pgaps l).2.1 ++ (pgaps l).2.1), true) else (0, false)
theorem pgaps_len2 (l : List SRule) : (pgaps l).2.1.length ≤ 100000 ∧ ((pgaps l).2.2 = true → 0 < (pgaps l).2.1.length) := by
  unfold pgaps
  cases hp : period l with
  | none => simp
  | some p =>
    obtain ⟨hg, hp0, hp1⟩ := period_some hp
    have hl := perL_length l p
    by_cases he : perL l p = []
    · simp [he]
    · have : 0 < (perL l p).length := List.length_pos_iff.mpr he
      simp only [he, if_false, gapsL_length]
      simp [perL1]; omega
theorem LongestRunLeft_main (l : List SRule) : Ev (fun k => spec_LongestRunLeft.f k l) (vRunLeft l) ∧ Ev (fun k => impl_LongestRunLeft.f k l) (vRunLeft l) := by
  obtain ⟨K1, h1⟩ := gpGaps_ev l
  obtain ⟨K2, h2⟩ := periodGaps_ev l
  dsimp only at h1 h2
  have hb := pgaps_len2 l
  unfold vRunLeft
  have e : ((l.length : Int) == 0) = decide (l.length = 0) := by rw [Bool.eq_iff_iff]; simp
  by_cases hg : (pgaps l).2.2 = true
  · by_cases hl : l.length = 0
    · rw [if_neg (by simp [hl])]
      constructor
      · refine Ev.mk' K1 fun k hk => ?_
        simp (disch := omega) only [spec_LongestRunLeft.f, h1, obind, gpG, hg, if_true, e, hl, decide_true]
        simp [spec_LongestRunLeft.j0]
      · refine Ev.mk' K2 fun k hk => ?_
        simp (disch := omega) only [impl_LongestRunLeft.f, h2, obind, hg, if_true, e, hl, decide_true]
        simp [impl_LongestRunLeft.j0]
    · rw [if_pos ⟨hg, hl⟩]
      obtain ⟨K3, h3⟩ := specRun_l0 (pgaps l).2.1 (hb.2 hg) hb.1 (2 * (pgaps l).2.1.length) 0 1 1 (by omega) (by omega) (by omega)
      have h3 : ∀ k, K3 ≤ k → spec_LongestRunLeft.l0 k (pgaps l).2.1 1 1 0 = _ := h3
      obtain ⟨K4, h4⟩ := implRun_ev (pgaps l).2.1 (pgaps_pos l) hb.1
      dsimp only at h4
      rw [List.drop_zero] at h3
      constructor
      · refine Ev.mk' (K1 + K3) fun k hk => ?_
        simp (disch := omega) only [spec_LongestRunLeft.f, h1, obind, gpG, hg, if_true, e, hl, decide_false]
        simp (disch := omega) only [spec_LongestRunLeft.j0, h3, Bool.false_eq_true, if_false]
      · refine Ev.mk' (K2 + K4) fun k hk => ?_
        simp (disch := omega) only [impl_LongestRunLeft.f, h2, obind, hg, if_true, e, hl, decide_false]
        simp (disch := omega) only [impl_LongestRunLeft.j0, h4, Bool.false_eq_true, if_false]
  · rw [if_neg (by simp [hg])]
    constructor
    · refine Ev.mk' K1 fun k hk => ?_
      simp (disch := omega) only [spec_LongestRunLeft.f, h1, obind, gpG, hg]
      simp [spec_LongestRunLeft.j0]
    · refine Ev.mk' K2 fun k hk => ?_
      simp (disch := omega) only [impl_LongestRunLeft.f, h2, obind, hg]
      simp [impl_LongestRunLeft.j0]
end Go.Proofs.Ytdcijdeiaefjpaa.P
namespace Go.Proofs.Ytdcijdeiaefjpaa.P
open Go.RowKit Go.Proofs.YtdcijdeiaefjpaaW.PrintWords Go.Proofs.YtdcijdeiaefjpaaW.PrintLast
set_option linter.unusedVariables false
set_option linter.unusedSimpArgs false
theorem dif_le : ∀ (t : List Int) (a : Int), ∀ g ∈ dif a t, g ≤ 9223372036854775807
  | [], a, g, h => by simp [dif] at h
  | b :: t, a, g, h => by
    simp only [dif, List.mem_cons] at h
    rcases h with rfl | h
    · unfold wrap64; omega
    · exact dif_le t b g h
theorem pgaps_le (l : List SRule) : ∀ g ∈ (pgaps l).2.1, g ≤ 9223372036854775807 := by
  unfold pgaps
  cases hp : period l with
  | none => simp
  | some p =>
    by_cases he : perL l p = []
    · simp [he]
    · simp only [he, if_false]
      exact dif_le _ _
theorem maxFrom_ge : ∀ (t : List Int) (m : Int), m ≤ maxFrom m t
  | [], m => Int.le_refl _
  | x :: t, m => by
    have := maxFrom_ge t (mx m x)
    simp only [maxFrom]
    have : m ≤ mx m x := by unfold mx; split <;> omega
    omega
theorem maxFrom_mem : ∀ (t : List Int) (m : Int), maxFrom m t ∈ m :: t
  | [], m => by simp [maxFrom]
  | x :: t, m => by
    have := maxFrom_mem t (mx m x)
    simp only [maxFrom]
    simp only [List.mem_cons] at this ⊢
    rcases this with h | h
    · rw [h]; unfold mx; split <;> simp
    · exact Or.inr (Or.inr h)
def runOut : Int → List Int → Int
  | m, [] => m
  | m, g :: t => runOut (mx m (wrap64 (g - 1))) t
theorem runOut_max : ∀ (t : List Int) (m : Int), (∀ g ∈ t, 1 ≤ g ∧ g ≤ 9223372036854775807) → runOut (m - 1) t = maxFrom m t - 1
  | [], m, _ => rfl
  | g :: t, m, h => by
    have hg := h g (by simp)
    simp only [runOut, maxFrom]
    rw [wrap_id (by omega) (by omega), show mx (m - 1) (g - 1) = mx m g - 1 by unfold mx; split <;> split <;> omega]
    exact runOut_max t (mx m g) (fun x hx => h x (by simp [hx]))
theorem specRunOut_l0 (G : List Int) (hG : G.length ≤ 100000) : ∀ (d i : Nat) (m : Int), i + d = G.length → Ev (fun k => spec_LongestRunOut.l0 k m G G.length i) (runOut m (G.drop i), true)
  | 0, i, m, h => Ev.mk' 0 fun k _ => by
    simp only [spec_LongestRunOut.l0]
    rw [if_neg (by omega), List.drop_eq_nil_of_le (by omega)]; rfl
  | d + 1, i, m, h => by
    obtain ⟨K, ih⟩ := specRunOut_l0 G hG d (i + 1) (mx m (wrap64 (rd G i - 1))) (by omega)
    dsimp only at ih
    refine Ev.mk' K fun k hk => ?_
    simp only [spec_LongestRunOut.l0]
    rw [if_pos (by omega), if_pos (by omega), if_pos (by omega), most_mx, obind]
    rw [show wrap64 ((i : Int) + 1) = ((i + 1 : Nat) : Int) from wrap_id (by omega) (by omega), ih k hk, rd_dropG G i (by omega)]; rfl
def vRunOut (l : List SRule) : Int × Bool := if (pgaps l).2.2 = true then (runOut 0 (pgaps l).2.1, true) else (0, false)
theorem LongestRunOut_main (l : List SRule) : Ev (fun k => spec_LongestRunOut.f k l) (vRunOut l) ∧ Ev (fun k => impl_LongestRunOut.f k l) (vRunOut l) := by
  obtain ⟨K1, h1⟩ := gpGaps_ev l
  obtain ⟨K2, h2⟩ := periodGaps_ev l
  dsimp only at h1 h2
  have hb := pgaps_len2 l
  unfold vRunOut
  by_cases hg : (pgaps l).2.2 = true
  · rw [if_pos hg]
    constructor
    · obtain ⟨K3, h3⟩ := specRunOut_l0 (pgaps l).2.1 hb.1 (pgaps l).2.1.length 0 0 (by omega)
      have h3 : ∀ k, K3 ≤ k → spec_LongestRunOut.l0 k 0 (pgaps l).2.1 (pgaps l).2.1.length 0 = _ := h3
      rw [List.drop_zero] at h3
      refine ⟨K1 + K3, fun k hk => ?_⟩
      simp (disch := omega) only [spec_LongestRunOut.f, h1, obind, gpG, hg, if_true, h3]
    · refine ⟨K2, fun k hk => ?_⟩
      simp (disch := omega) only [impl_LongestRunOut.f, h2, obind, hg, if_true]
      have hp := pgaps_pos l
      have hle := pgaps_le l
      have hpos := hb.2 hg
      cases hG : (pgaps l).2.1 with
      | nil => rw [hG] at hpos; simp at hpos
      | cons x t =>
        rw [hG] at hp hle
        have hm := maxFrom_mem t x
        have hx := hp x (by simp)
        have hx2 := hle x (by simp)
        simp only [slices_Max_int_int.f, obind]
        rw [wrap_id (by have := hp _ hm; omega) (by have := hle _ hm; omega)]
        simp only [runOut]
        rw [wrap_id (by omega) (by omega), show mx 0 (x - 1) = x - 1 by unfold mx; split <;> omega, runOut_max t x (fun g hg => ⟨hp g (by simp [hg]), hle g (by simp [hg])⟩)]
  · rw [if_neg hg]
    constructor
    · refine ⟨K1, fun k hk => ?_⟩
      simp (disch := omega) only [spec_LongestRunOut.f, h1, obind, gpG, hg]
      simp
    · refine ⟨K2, fun k hk => ?_⟩
      simp (disch := omega) only [impl_LongestRunOut.f, h2, obind, hg]
      simp
end Go.Proofs.Ytdcijdeiaefjpaa.P
namespace Go.Proofs.Ytdcijdeiaefjpaa.P
open Go.RowKit Go.Proofs.YtdcijdeiaefjpaaW.PrintWords Go.Proofs.YtdcijdeiaefjpaaW.PrintLast
set_option linter.unusedVariables false
set_option linter.unusedSimpArgs false
theorem nodup_len {α : Type} : ∀ (A B : List α), A.Nodup → (∀ x ∈ A, x ∈ B) → A.length ≤ B.length
  | [], B, _, _ => Nat.zero_le _
  | a :: t, B, h, hs => by
    obtain ⟨p, q, rfl⟩ := List.append_of_mem (hs a List.mem_cons_self)
    obtain ⟨h1, h2⟩ := List.nodup_cons.1 h
    have := nodup_len t (p ++ q) h2 (fun x hx => by
      have hx2 := hs x (List.mem_cons_of_mem _ hx)
      rcases List.mem_append.1 hx2 with h3 | h3
      · exact List.mem_append_left _ h3
      · rcases List.mem_cons.1 h3 with h4 | h4
        · exact absurd (h4 ▸ hx) h1
        · exact List.mem_append_right _ h4)
    simp only [List.length_cons, List.length_append] at this ⊢
    omega
theorem outN_false : ∀ (Q : List Nat) (n : Nat), outN Q n = false → ∀ p ∈ Q, n % p ≠ 0
  | [], n, _, p, hp => by simp at hp
  | x :: t, n, h, p, hp => by
    simp only [outN, Bool.or_eq_false_iff] at h
    rcases List.mem_cons.1 hp with rfl | hp
    · intro e; rw [e] at h; exact absurd h.1 (by decide)
    · exact outN_false t n h.2 p hp
theorem small_list (Q : List Nat) (P : Nat) (hP : 0 < P) (d : Nat) (hd : P + 41 ≤ d) (hc : chk Q d 0 0 = true) (hQ : ∀ p ∈ Q, p ∣ P) (a : Int) : ∃ j : Nat, j < 41 ∧ ∀ p ∈ Q, (a + j) % (p : Int) ≠ 0 := by
  have h0 := Int.emod_nonneg a (show (P : Int) ≠ 0 by omega)
  have h1 := Int.emod_lt_of_pos a (show (0 : Int) < P by omega)
  obtain ⟨m, hm⟩ : ∃ m : Nat, (m : Int) = a % P := ⟨(a % P).toNat, by omega⟩
  obtain ⟨j, hj, ho⟩ := chk_run Q d 0 0 hc m (Nat.zero_le _) (by omega)
  refine ⟨j, hj, fun p hp e => outN_false Q (m + j) ho p hp ?_⟩
  obtain ⟨c, hc2⟩ := hQ p hp
  have e2 : a = (m : Int) + p * (c * (a / P)) := by
    have h3 := Int.emod_add_mul_ediv a P
    rw [← hm, hc2, Int.natCast_mul, Int.mul_assoc] at h3
    rw [hc2, Int.natCast_mul]
    omega
  have e3 : ((m : Int) + j) % p = 0 := by
    have h4 : a + (j : Int) = (m : Int) + j + p * (c * (a / P)) := by omega
    rw [h4, Int.add_mul_emod_self_left] at e
    exact e
  have e4 : (((m + j) % p : Nat) : Int) = 0 := by rw [Int.natCast_emod, Int.natCast_add]; exact e3
  omega
theorem small_run {ps : List Int} (hp : primeList ps = true) (a : Int) : ∃ j : Nat, 1 ≤ j ∧ j ≤ 41 ∧ ∀ p ∈ ps, (a + j) % p ≠ 0 := by
  obtain ⟨h6, hnd⟩ := prime_parts hp
  have hl := primeList_len hp
  have hex : ∃ q : Int, q ∈ [2, 3, 5, 7, 11, 13] ∧ q ∉ ps := by
    refine Classical.byContradiction fun hn => ?_
    have : ∀ q ∈ ([2, 3, 5, 7, 11, 13] : List Int), q ∈ ps := fun q hq => Classical.byContradiction fun hc => hn ⟨q, hq, hc⟩
    have := nodup_len ([2, 3, 5, 7, 11, 13] : List Int) ps (by decide) this
    simp at this; omega
  obtain ⟨q, hq, hqn⟩ := hex
  have done : ∀ Q : List Nat, (∀ p ∈ ps, ∃ x ∈ Q, p = (x : Int)) → (∃ j : Nat, j < 41 ∧ ∀ p ∈ Q, (a + 1 + j) % (p : Int) ≠ 0) → ∃ j : Nat, 1 ≤ j ∧ j ≤ 41 ∧ ∀ p ∈ ps, (a + j) % p ≠ 0 := by
    rintro Q hQ ⟨j, hj, h⟩
    refine ⟨j + 1, by omega, by omega, fun p hp2 => ?_⟩
    obtain ⟨x, hx, rfl⟩ := hQ p hp2
    have := h x hx
    rwa [show a + 1 + (j : Int) = a + ((j + 1 : Nat) : Int) by omega] at this
  have hmem : ∀ p ∈ ps, six p ∧ p ≠ q := fun p hp2 => ⟨h6 p hp2, fun e => hqn (e ▸ hp2)⟩
  simp only [List.mem_cons, List.not_mem_nil, or_false] at hq
  rcases hq with rfl | rfl | rfl | rfl | rfl | rfl
  · exact done _ (fun p hp2 => by obtain ⟨hs, hn⟩ := hmem p hp2; rcases hs with rfl | rfl | rfl | rfl | rfl | rfl <;> first | exact absurd rfl hn | exact ⟨_, by simp, rfl⟩ | simp) (small_list _ 15015 (by decide) 15060 (by decide) c2 (by decide) _)
  · exact done _ (fun p hp2 => by obtain ⟨hs, hn⟩ := hmem p hp2; rcases hs with rfl | rfl | rfl | rfl | rfl | rfl <;> first | exact absurd rfl hn | simp) (small_list _ 10010 (by decide) 10060 (by decide) c3 (by decide) _)
  · exact done _ (fun p hp2 => by obtain ⟨hs, hn⟩ := hmem p hp2; rcases hs with rfl | rfl | rfl | rfl | rfl | rfl <;> first | exact absurd rfl hn | simp) (small_list _ 6006 (by decide) 6060 (by decide) c5 (by decide) _)
  · exact done _ (fun p hp2 => by obtain ⟨hs, hn⟩ := hmem p hp2; rcases hs with rfl | rfl | rfl | rfl | rfl | rfl <;> first | exact absurd rfl hn | simp) (small_list _ 4290 (by decide) 4340 (by decide) c7 (by decide) _)
  · exact done _ (fun p hp2 => by obtain ⟨hs, hn⟩ := hmem p hp2; rcases hs with rfl | rfl | rfl | rfl | rfl | rfl <;> first | exact absurd rfl hn | simp) (small_list _ 2730 (by decide) 2780 (by decide) c11 (by decide) _)
  · exact done _ (fun p hp2 => by obtain ⟨hs, hn⟩ := hmem p hp2; rcases hs with rfl | rfl | rfl | rfl | rfl | rfl <;> first | exact absurd rfl hn | simp) (small_list _ 2310 (by decide) 2360 (by decide) c13 (by decide) _)
theorem without_mem : ∀ (ps : List Int) (r : SRule), r ∈ withoutL ps ↔ ∃ p ∈ ps, r = ⟨p, 0⟩
  | [], r => by simp [withoutL]
  | p :: t, r => by
    simp only [withoutL, List.mem_cons, without_mem t r]
    constructor
    · rintro (rfl | ⟨q, hq, rfl⟩)
      · exact ⟨p, .inl rfl, rfl⟩
      · exact ⟨q, .inr hq, rfl⟩
    · rintro ⟨q, rfl | hq, rfl⟩
      · exact .inl rfl
      · exact .inr ⟨q, hq, rfl⟩
theorem without_left (ps : List Int) (n : Int) : left (withoutL ps) n = false ↔ ∃ p ∈ ps, n % p = 0 := by
  rw [left_false]
  constructor
  · rintro ⟨r, hr, h⟩
    obtain ⟨p, hp, rfl⟩ := (without_mem ps r).1 hr
    exact ⟨p, hp, h⟩
  · rintro ⟨p, hp, h⟩
    exact ⟨⟨p, 0⟩, (without_mem ps _).2 ⟨p, hp, rfl⟩, h⟩
theorem mostV_is (l : List Int) (M : Nat) (h1 : ∀ n : Nat, 1 ≤ n → n ≤ M → coverL l (n : Int) ≠ []) (h2 : coverL l ((M + 1 : Nat) : Int) = []) (h3 : M ≤ 40) : ∀ (d n : Nat), n + d = 40 → n ≤ M → mostV l n d = (M : Int)
  | 0, n, h, hn => by simp only [mostV]; omega
  | d + 1, n, h, hn => by
    simp only [mostV]
    rw [show ((n : Int) + 1) = ((n + 1 : Nat) : Int) by omega]
    by_cases c : n = M
    · subst c; rw [if_pos h2]
    · rw [if_neg (h1 (n + 1) (by omega) (by omega))]
      exact mostV_is l M h1 h2 h3 d (n + 1) (by omega) (by omega)
end Go.Proofs.Ytdcijdeiaefjpaa.P
namespace Go.Proofs.Ytdcijdeiaefjpaa.P
open Go.RowKit Go.Proofs.YtdcijdeiaefjpaaW.PrintWords Go.Proofs.YtdcijdeiaefjpaaW.PrintLast
set_option linter.unusedVariables false
set_option linter.unusedSimpArgs false
theorem perN_some : ∀ (l : List SRule) (p : Nat), p ∣ 30030 → (∀ r ∈ l, r.f0.toNat ∣ 30030) → ∃ q, perN p l = some q
  | [], p, _, _ => ⟨p, rfl⟩
  | x :: t, p, hp, h => by
    have hd : Nat.lcm p x.f0.toNat ∣ 30030 := Nat.lcm_dvd hp (h x List.mem_cons_self)
    have hle : Nat.lcm p x.f0.toNat ≤ 30030 := Nat.le_of_dvd (by decide) hd
    simp only [perN]
    rw [if_neg (by omega)]
    exact perN_some t _ hd (fun r hr => h r (List.mem_cons_of_mem _ hr))
theorem without_good {ps : List Int} (hp : primeList ps = true) : goodRules (withoutL ps) = true := by
  obtain ⟨h6, -⟩ := prime_parts hp
  have hl := primeList_len hp
  unfold goodRules
  rw [Bool.and_eq_true]
  refine ⟨decide_eq_true (by rw [withoutL_length]; omega), List.all_eq_true.2 fun r hr => ?_⟩
  obtain ⟨p, hp2, rfl⟩ := (without_mem ps r).1 hr
  rw [okRule_iff]
  rcases h6 p hp2 with rfl | rfl | rfl | rfl | rfl | rfl <;> decide
theorem without_period {ps : List Int} (hp : primeList ps = true) : ∃ q, period (withoutL ps) = some q := by
  unfold period
  rw [if_pos (without_good hp)]
  refine perN_some _ 1 (by decide) (fun r hr => ?_)
  obtain ⟨p, hp2, rfl⟩ := (without_mem ps r).1 hr
  rcases (prime_parts hp).1 p hp2 with rfl | rfl | rfl | rfl | rfl | rfl <;> decide
theorem one_left {ps : List Int} (hp : primeList ps = true) : left (withoutL ps) 1 = true := by
  cases hc : left (withoutL ps) 1 with
  | true => rfl
  | false =>
    obtain ⟨p, hp2, h⟩ := (without_left ps 1).1 hc
    exfalso
    rcases (prime_parts hp).1 p hp2 with rfl | rfl | rfl | rfl | rfl | rfl <;> exact absurd h (by decide)
theorem dif_gaps : ∀ (t : List Int) (x : Int), (∀ y ∈ x :: t, 0 ≤ y ∧ y ≤ 1000000) → dif x t = gaps x t
  | [], x, _ => rfl
  | y :: t, x, h => by
    have h1 := h x List.mem_cons_self
    have h2 := h y (by simp)
    simp only [dif, gaps]
    rw [wrap_id (by omega) (by omega), dif_gaps t y (fun z hz => h z (List.mem_cons_of_mem _ hz))]
theorem runOut_spec : ∀ (G : List Int) (m : Int), 0 ≤ m → (∀ g ∈ G, 1 ≤ g ∧ g ≤ 1000000) → m ≤ runOut m G ∧ (∀ g ∈ G, g - 1 ≤ runOut m G) ∧ (runOut m G = m ∨ ∃ g ∈ G, runOut m G = g - 1)
  | [], m, hm, _ => ⟨Int.le_refl _, by simp, .inl rfl⟩
  | g :: G, m, hm, h => by
    have hg := h g List.mem_cons_self
    simp only [runOut]
    rw [wrap_id (by omega) (by omega)]
    have hmx : (mx m (g - 1) = m ∧ g - 1 ≤ m) ∨ (mx m (g - 1) = g - 1 ∧ m ≤ g - 1) := by
      unfold mx; split <;> omega
    have h0 : 0 ≤ mx m (g - 1) := by omega
    obtain ⟨i1, i2, i3⟩ := runOut_spec G (mx m (g - 1)) h0 (fun x hx => h x (List.mem_cons_of_mem _ hx))
    refine ⟨by omega, fun x hx => ?_, ?_⟩
    · rcases List.mem_cons.1 hx with rfl | hx
      · omega
      · exact i2 x hx
    · rcases i3 with i3 | ⟨x, hx, i3⟩
      · rcases hmx with c | c
        · exact .inl (by omega)
        · exact .inr ⟨g, List.mem_cons_self, by omega⟩
      · exact .inr ⟨x, List.mem_cons_of_mem _ hx, i3⟩
theorem gaps_le : ∀ (t : List Int) (x : Int), (∀ y ∈ x :: t, 0 ≤ y ∧ y ≤ 1000000) → ∀ g ∈ gaps x t, g ≤ 1000000
  | [], x, _, g, hg => by simp [gaps] at hg
  | y :: t, x, h, g, hg => by
    simp only [gaps, List.mem_cons] at hg
    have h1 := h x List.mem_cons_self
    have h2 := h y (by simp)
    rcases hg with rfl | hg
    · omega
    · exact gaps_le t y (fun z hz => h z (List.mem_cons_of_mem _ hz)) g hg
theorem lefts_bounds (l : List SRule) : ∀ (m : Nat) (i : Int), ∀ y ∈ lefts l i m, i ≤ y ∧ y < i + m
  | 0, i, y, h => by simp [lefts] at h
  | m + 1, i, y, h => by
    simp only [lefts, List.mem_append] at h
    rcases h with h | h
    · cases hc : left l i with
      | true => rw [hc] at h; have : y = i := by simpa using h
                omega
      | false => rw [hc] at h; simp at h
    · have := lefts_bounds l m (i + 1) y h; omega
theorem most_is_run {ps : List Int} (hp : primeList ps = true) (hne : ps ≠ []) : vRunOut (withoutL ps) = (mostV ps 0 40, true) := by
  obtain ⟨p, hper⟩ := without_period hp
  obtain ⟨-, hp0, hp1⟩ := period_some hper
  have hshift := period_left hper
  have hone := one_left hp
  have hp2 : 2 ≤ p := by
    refine Classical.byContradiction fun hc => ?_
    have e : p = 1 := by omega
    have h0 : left (withoutL ps) 0 = false := by
      rw [without_left]
      cases ps with
      | nil => exact absurd rfl hne
      | cons a t => exact ⟨a, List.mem_cons_self, by simp⟩
    have := hshift 0
    rw [e] at this
    have h1 : left (withoutL ps) ((0 : Int) + ((1 : Nat) : Int)) = left (withoutL ps) 1 := rfl
    rw [h1, hone, h0] at this
    exact absurd this (by decide)
  have hL2 : perL (withoutL ps) p = lefts (withoutL ps) 0 p := by
    unfold perL leftsTo
    rw [show ((p : Int) - 1 + 1 - 0).toNat = p by omega]
  have hLne : perL (withoutL ps) p ≠ [] := by
    intro h
    rw [hL2] at h
    have h2 := (lefts_nil (withoutL ps) p 0).1 (by rw [h]; rfl) 1 (by omega)
    have h3 : left (withoutL ps) ((0 : Int) + ((1 : Nat) : Int)) = left (withoutL ps) 1 := rfl
    rw [h3, hone] at h2
    exact absurd h2 (by decide)
  obtain ⟨x, t, hxt⟩ : ∃ x t, perL (withoutL ps) p = x :: t := by
    cases h : perL (withoutL ps) p with
    | nil => exact absurd h hLne
    | cons x t => exact ⟨x, t, rfl⟩
  have hbd : ∀ y ∈ x :: t, 0 ≤ y ∧ y < p := fun y hy => by
    rw [← hxt, hL2] at hy
    have := lefts_bounds _ _ _ y hy; omega
  have hx := hbd x List.mem_cons_self
  have hG : gapsL (perL1 (withoutL ps) p) = gaps x (t ++ [x + p]) := by
    unfold gapsL perL1
    rw [hxt]
    have e0 : rd (x :: t) 0 = x := by simp [rd]
    have e1 : rd (x :: t ++ [wrap64 (x + (p : Int))]) 0 = x := by simp [rd]
    rw [e0, e1, wrap_id (by omega) (by omega)]
    show dif x (t ++ [x + (p : Int)]) = _
    refine dif_gaps _ x (fun y hy => ?_)
    rw [← List.cons_append] at hy
    rcases List.mem_append.1 hy with hy | hy
    · have := hbd y hy; omega
    · obtain rfl := List.mem_singleton.1 hy; omega
  have hgb : ∀ y ∈ x :: (t ++ [x + (p : Int)]), 0 ≤ y ∧ y ≤ 1000000 := fun y hy => by
    rw [← List.cons_append] at hy
    rcases List.mem_append.1 hy with hy | hy
    · have := hbd y hy; omega
    · obtain rfl := List.mem_singleton.1 hy; omega
  obtain ⟨rA, rB⟩ := run_max hp0 hshift hxt
  obtain ⟨m1, m2, m3⟩ := runOut_spec (gaps x (t ++ [x + p])) 0 (Int.le_refl _) (fun g hg => ⟨(rA g hg).1, gaps_le _ x hgb g hg⟩)
  have hv : vRunOut (withoutL ps) = (runOut 0 (gaps x (t ++ [x + p])), true) := by
    have e : pgaps (withoutL ps) = (perL (withoutL ps) p, gapsL (perL1 (withoutL ps) p), true) := by
      unfold pgaps; rw [hper]; simp only []; rw [if_neg hLne]
    unfold vRunOut
    rw [e, if_pos rfl, hG]
  rw [hv]
  obtain ⟨M, hM⟩ : ∃ M : Nat, (M : Int) = runOut 0 (gaps x (t ++ [x + p])) := ⟨(runOut 0 (gaps x (t ++ [x + p]))).toNat, by omega⟩
  rw [← hM] at m2 m3 ⊢
  have run : ∃ a : Int, ∀ j : Nat, 1 ≤ j → j ≤ M → ∃ q ∈ ps, (a + j) % q = 0 := by
    rcases m3 with m3 | ⟨g, hg, m3⟩
    · exact ⟨0, fun j h1 h2 => by omega⟩
    · obtain ⟨-, a, ha⟩ := rA g hg
      exact ⟨a, fun j h1 h2 => (without_left ps _).1 (ha j (by omega) (by omega))⟩
  obtain ⟨a, ha⟩ := run
  have hle : M ≤ 40 := by
    refine Classical.byContradiction fun hc => ?_
    obtain ⟨j, j1, j2, hj⟩ := small_run hp a
    obtain ⟨q, hq, h⟩ := ha j j1 (by omega)
    exact hj q hq h
  have hnone : coverL ps ((M + 1 : Nat) : Int) = [] := by
    refine Classical.byContradiction fun hc => ?_
    obtain ⟨b, hb⟩ := run_of_cover hp (M + 1) hc
    obtain ⟨g, hg, h⟩ := rB b (M + 1) (by omega) (fun j h1 h2 => (without_left ps _).2 (hb j h1 h2))
    have := m2 g hg
    omega
  rw [mostV_is ps M (fun n h1 h2 => cover_of_run hp n a (fun j j1 j2 => ha j j1 (by omega))) hnone hle 40 0 (by omega) (Nat.zero_le _)]
end Go.Proofs.Ytdcijdeiaefjpaa.P
namespace Go.Proofs.Ytdcijdeiaefjpaa.P
open Go.RowKit Go.Proofs.YtdcijdeiaefjpaaW.PrintWords Go.Proofs.YtdcijdeiaefjpaaW.PrintLast
set_option linter.unusedVariables false
set_option linter.unusedSimpArgs false
theorem and255 (x : Int) : 0 ≤ Go.bits .and .u64 x 255 ∧ Go.bits .and .u64 x 255 ≤ 255 := by
  have h : (BitVec.ofInt IntKind.u64.bits x &&& BitVec.ofInt IntKind.u64.bits 255).toNat ≤ 255 := by
    rw [BitVec.toNat_and]
    exact Nat.le_trans Nat.and_le_right (by decide)
  have e : Go.bits .and .u64 x 255 = IntKind.u64.wrap ((BitVec.ofInt IntKind.u64.bits x &&& BitVec.ofInt IntKind.u64.bits 255).toNat : Int) := rfl
  rw [e]
  obtain ⟨q, hq⟩ : ∃ q, q = (BitVec.ofInt IntKind.u64.bits x &&& BitVec.ofInt IntKind.u64.bits 255).toNat := ⟨_, rfl⟩
  rw [← hq] at h ⊢
  have e2 : IntKind.u64.wrap (q : Int) = (q : Int) % 18446744073709551616 := by simp [IntKind.wrap, IntKind.bits, IntKind.signed]
  rw [e2]; omega
def bytesOk (c : List Int) : Prop := ∀ x ∈ c, 0 ≤ x ∧ x ≤ 255
theorem rd_in (l : List Int) (i : Int) (h0 : 0 ≤ i) (h1 : i < (l.length : Int)) : rd l i ∈ l := by
  have hi : i.toNat < l.length := by omega
  simp [rd, List.getD, hi]
theorem next_ok (c : List Int) (hc : bytesOk c) (p s : Int) (h0 : 0 ≤ p) (h1 : p ≤ 1000000000000) : ∃ v s', spec_l1Cur_next.f c p s = some (v, p + 1, s') ∧ 0 ≤ v ∧ v ≤ 255 := by
  unfold spec_l1Cur_next.f
  rw [wrap_id (n := p + 1) (by omega) (by omega)]
  by_cases c1 : p < (c.length : Int)
  · rw [if_pos c1, if_pos h0]
    have hb := hc _ (rd_in c p h0 c1)
    rw [if_pos (by omega), wrap_id (n := rd c p) (by omega) (by omega)]
    exact ⟨_, _, rfl, hb.1, hb.2⟩
  · rw [if_neg c1, if_neg (by omega)]
    have hb := and255 ((IntKind.u64.wrap ((IntKind.u64.wrap ((IntKind.u64.wrap (s * 6364136223846793005)) + 0)) + 1442695040888963407)) / 1099511627776)
    exact ⟨_, _, rfl, by rw [wrap_id (by omega) (by omega)]; exact hb.1, by rw [wrap_id (by omega) (by omega)]; exact hb.2⟩
theorem pick_ok (c : List Int) (hc : bytesOk c) (p s : Int) (h0 : 0 ≤ p) (h1 : p ≤ 100000000000) (n : Int) (hn : 1 ≤ n) (hn2 : n ≤ 100000) : ∃ r p' s', spec_l1Cur_pick.f c p s n = some (r, p', s') ∧ 0 ≤ r ∧ r < n ∧ p ≤ p' ∧ p' ≤ p + 2 := by
  unfold spec_l1Cur_pick.f
  by_cases c1 : n ≤ 1
  · rw [if_pos c1]; exact ⟨0, p, s, rfl, by omega, by omega, by omega, by omega⟩
  · rw [if_neg c1]
    obtain ⟨v, s1, e1, v0, v1⟩ := next_ok c hc p s h0 (by omega)
    rw [e1, obind]
    dsimp only
    by_cases c2 : n > 200
    · rw [if_pos c2]
      obtain ⟨v2, s2, e2, w0, w1⟩ := next_ok c hc (p + 1) s1 (by omega) (by omega)
      rw [e2, obind]
      dsimp only
      rw [if_neg (by omega), wrap_id (n := v * 256) (by omega) (by omega), wrap_id (by omega) (by omega), Int.tmod_eq_emod_of_nonneg (by omega)]
      exact ⟨_, _, _, rfl, Int.emod_nonneg _ (by omega), Int.emod_lt_of_pos _ (by omega), by omega, by omega⟩
    · rw [if_neg c2, if_neg (by omega), Int.tmod_eq_emod_of_nonneg (by omega)]
      exact ⟨_, _, _, rfl, Int.emod_nonneg _ (by omega), Int.emod_lt_of_pos _ (by omega), by omega, by omega⟩
theorem among_ok (c : List Int) (hc : bytesOk c) (p s : Int) (h0 : 0 ≤ p) (h1 : p ≤ 100000000000) (l : List Int) (hl : 1 ≤ l.length) (hl2 : l.length ≤ 1000) : ∃ r p' s', spec_l1Cur_among.f c p s l = some (r, p', s') ∧ r ∈ l ∧ p ≤ p' ∧ p' ≤ p + 2 := by
  obtain ⟨r, p', s', e, r0, r1, a, b⟩ := pick_ok c hc p s h0 h1 (l.length : Int) (by omega) (by omega)
  refine ⟨rd l r, p', s', ?_, rd_in l r r0 r1, a, b⟩
  unfold spec_l1Cur_among.f
  rw [e, obind]
  dsimp only
  rw [if_pos r0, if_pos r1]
theorem one_ok (c : List Int) (hc : bytesOk c) (p s : Int) (h0 : 0 ≤ p) (h1 : p ≤ 100000000000) (n : Int) (hn : 1 ≤ n) (hn2 : n ≤ 100000) : ∃ b p' s', spec_l1Cur_one.f c p s n = some (b, p', s') ∧ p ≤ p' ∧ p' ≤ p + 2 := by
  obtain ⟨r, p', s', e, -, -, a, b⟩ := pick_ok c hc p s h0 h1 n hn hn2
  refine ⟨(r == 0), p', s', ?_, a, b⟩
  unfold spec_l1Cur_one.f
  rw [e, obind]
end Go.Proofs.Ytdcijdeiaefjpaa.P
namespace Go.Proofs.Ytdcijdeiaefjpaa.P
open Go.RowKit Go.Proofs.YtdcijdeiaefjpaaW.PrintWords Go.Proofs.YtdcijdeiaefjpaaW.PrintLast
set_option linter.unusedVariables false
set_option linter.unusedSimpArgs false
theorem rule_ok (c : List Int) (hc : bytesOk c) (p s : Int) (h0 : 0 ≤ p) (h1 : p ≤ 10000000000) : ∃ e r p' s', spec_l1Cur_rule.f c p s = some (e, r, p', s') ∧ okRule ⟨e, r⟩ = true ∧ p ≤ p' ∧ p' ≤ p + 4 := by
  obtain ⟨e, p1, s1, e1, he, a1, b1⟩ := among_ok c hc p s h0 (by omega) [2, 3, 4, 5, 6, 7, 8, 9, 10, 12, 15] (by decide) (by decide)
  have hb : 2 ≤ e ∧ e ≤ 15 := by
    simp only [List.mem_cons, List.not_mem_nil, or_false] at he
    omega
  obtain ⟨r, p2, s2, e2, r0, r1, a2, b2⟩ := pick_ok c hc p1 s1 (by omega) (by omega) e (by omega) (by omega)
  refine ⟨e, r, p2, s2, ?_, (okRule_iff _).2 ⟨hb.1, by show e ≤ 60; omega, r0, r1⟩, by omega, by omega⟩
  unfold spec_l1Cur_rule.f
  rw [e1, obind]
  dsimp only
  rw [e2, obind]
theorem sure_l0 (c : List Int) (hc : bytesOk c) : ∀ (m : Nat) (L : List SRule) (p s : Int), L.length + m ≤ 12 → L.all okRule = true → 0 ≤ p → p + 4 * m ≤ 10000000000 →
    ∃ L' p' s', Ev (fun k => spec_l1Cur_sureRules.l0 k L (m : Int) c p s) (L', p', s') ∧ L'.length ≤ L.length + m ∧ L'.all okRule = true ∧ p ≤ p' ∧ p' ≤ p + 4 * m
  | 0, L, p, s, h, hl, h0, h1 => by
    refine ⟨L, p, s, Ev.mk' 0 fun k _ => ?_, by omega, hl, by omega, by omega⟩
    simp only [spec_l1Cur_sureRules.l0]
    rw [if_neg (by omega)]
  | m + 1, L, p, s, h, hl, h0, h1 => by
    obtain ⟨e, r, p1, s1, e1, hr, a1, b1⟩ := rule_ok c hc p s h0 (by omega)
    have hall : (L ++ [(⟨e, r⟩ : SRule)]).all okRule = true := by rw [List.all_append, hl]; simp [hr]
    have hg : goodRules (L ++ [(⟨e, r⟩ : SRule)]) = true := by unfold goodRules; rw [hall, decide_eq_true (by simp; omega)]; rfl
    obtain ⟨t, K, hk⟩ : ∃ t, Ev (fun k => spec_siPeriod.f k (L ++ [(⟨e, r⟩ : SRule)])) t := ⟨_, siPeriod_ev (L ++ [(⟨e, r⟩ : SRule)]) hg⟩
    dsimp only at hk
    obtain ⟨A, pa, sa, ⟨KA, ha⟩, lA, oA, xA, yA⟩ := sure_l0 c hc m (L ++ [(⟨e, r⟩ : SRule)]) p1 s1 (by simp; omega) hall (by omega) (by omega)
    obtain ⟨B, pb, sb, ⟨KB, hb⟩, lB, oB, xB, yB⟩ := sure_l0 c hc m L p1 s1 (by omega) hl (by omega) (by omega)
    dsimp only at ha hb
    have hlen : (L ++ [(⟨e, r⟩ : SRule)]).length = L.length + 1 := by simp
    rw [hlen] at lA
    by_cases c1 : t > 0 ∧ t ≤ 3000
    · refine ⟨A, pa, sa, Ev.mk' (K + KA) fun k hk2 => ?_, by omega, oA, by omega, by omega⟩
      simp only [spec_l1Cur_sureRules.l0]
      rw [if_pos (by omega), obind, if_pos (by simp; omega), obind, List.nil_append, e1, obind]
      dsimp only
      rw [if_pos (by omega), obind, hk k (by omega), obind, if_pos c1.1, obind, if_pos c1.2, show wrap64 (((m + 1 : Nat) : Int) - 1) = (m : Int) by rw [wrap_id (by omega) (by omega)]; omega]
      exact ha k (by omega)
    · refine ⟨B, pb, sb, Ev.mk' (K + KB) fun k hk2 => ?_, by omega, oB, by omega, by omega⟩
      simp only [spec_l1Cur_sureRules.l0]
      rw [if_pos (by omega), obind, if_pos (by simp; omega), obind, List.nil_append, e1, obind]
      dsimp only
      rw [if_pos (by omega), obind, hk k (by omega), obind, show wrap64 (((m + 1 : Nat) : Int) - 1) = (m : Int) by rw [wrap_id (by omega) (by omega)]; omega]
      by_cases c2 : t > 0
      · rw [if_pos c2, obind, if_neg (fun h => c1 ⟨c2, h⟩)]
        exact hb k (by omega)
      · rw [if_neg c2]
        exact hb k (by omega)
theorem sure_ok (c : List Int) (hc : bytesOk c) (p s : Int) (h0 : 0 ≤ p) (h1 : p ≤ 1000000000) : ∃ L p' s', Ev (fun k => spec_l1Cur_sureRules.f k c p s 5) (L, p', s') ∧ L.length ≤ 5 ∧ L.all okRule = true ∧ p ≤ p' ∧ p' ≤ p + 100 := by
  obtain ⟨r, p1, s1, e1, r0, r1, a1, b1⟩ := pick_ok c hc p s h0 (by omega) 6 (by omega) (by omega)
  obtain ⟨m, rfl⟩ : ∃ m : Nat, r = m := ⟨r.toNat, by omega⟩
  obtain ⟨L, p2, s2, ⟨K, hk⟩, l2, o2, x2, y2⟩ := sure_l0 c hc m [] p1 s1 (by simp; omega) rfl (by omega) (by omega)
  refine ⟨L, p2, s2, ⟨K, fun k hk2 => ?_⟩, by simp at l2; omega, o2, by omega, by omega⟩
  unfold spec_l1Cur_sureRules.f
  rw [show wrap64 (5 + 1) = 6 from wrap_id (by omega) (by omega), e1]
  exact hk k hk2
theorem rules_l0 (c : List Int) (hc : bytesOk c) : ∀ (d : Nat) (L : List SRule) (p s : Int), L.length + d = 14 → 0 ≤ p → p + 2 * d ≤ 10000000000 → ∃ L' p' s', Ev (fun k => spec_l1Cur_rules.l0 k L c p s) (L', p', s') ∧ L'.length ≤ 14 ∧ p ≤ p' ∧ p' ≤ p + 2 * (d + 1)
  | 0, L, p, s, h, h0, h1 => by
    obtain ⟨r, p1, s1, e1, r0, r1, a1, b1⟩ := pick_ok c hc p s h0 (by omega) 2 (by omega) (by omega)
    refine ⟨L, p1, s1, Ev.mk' 0 fun k _ => ?_, by omega, by omega, by omega⟩
    simp only [spec_l1Cur_rules.l0]
    rw [e1, obind]
    dsimp only
    rw [wrap_id (by omega) (by omega), if_neg (by omega)]
  | d + 1, L, p, s, h, h0, h1 => by
    obtain ⟨r, p1, s1, e1, r0, r1, a1, b1⟩ := pick_ok c hc p s h0 (by omega) 2 (by omega) (by omega)
    obtain ⟨A, pa, sa, ⟨KA, ha⟩, lA, xA, yA⟩ := rules_l0 c hc d (L ++ [(⟨2, 0⟩ : SRule)]) p1 s1 (by simp; omega) (by omega) (by omega)
    dsimp only at ha
    by_cases c1 : (L.length : Int) < 12 + r
    · refine ⟨A, pa, sa, Ev.mk' KA fun k hk => ?_, lA, by omega, by omega⟩
      simp only [spec_l1Cur_rules.l0]
      rw [e1, obind]
      dsimp only
      rw [wrap_id (by omega) (by omega), if_pos c1, if_pos (by omega)]
      exact ha k hk
    · refine ⟨L, p1, s1, Ev.mk' 0 fun k _ => ?_, by omega, by omega, by omega⟩
      simp only [spec_l1Cur_rules.l0]
      rw [e1, obind]
      dsimp only
      rw [wrap_id (by omega) (by omega), if_neg c1]
theorem rules_ok (c : List Int) (hc : bytesOk c) (p s : Int) (h0 : 0 ≤ p) (h1 : p ≤ 100000000) : ∃ L p' s', Ev (fun k => spec_l1Cur_rules.f k c p s) (L, p', s') ∧ L.length ≤ 14 ∧ p ≤ p' ∧ p' ≤ p + 200 := by
  obtain ⟨L, p1, s1, ⟨K, hk⟩, l1, o1, a1, b1⟩ := sure_ok c hc p s h0 (by omega)
  obtain ⟨r, p2, s2, e2, r0, r1, a2, b2⟩ := pick_ok c hc p1 s1 (by omega) (by omega) 16 (by omega) (by omega)
  dsimp only at hk
  by_cases c1 : r = 0
  · obtain ⟨e, p3, s3, e3, -, a3, b3⟩ := among_ok c hc p2 s2 (by omega) (by omega) [0, 1, 60, 61, -1] (by decide) (by decide)
    obtain ⟨q, p4, s4, e4, -, a4, b4⟩ := among_ok c hc p3 s3 (by omega) (by omega) [0, 1, -1, 59, 60] (by decide) (by decide)
    refine ⟨L ++ [(⟨e, q⟩ : SRule)], p4, s4, ⟨K, fun k hk2 => ?_⟩, by simp; omega, by omega, by omega⟩
    simp only [spec_l1Cur_rules.f]
    rw [hk k hk2, obind]
    dsimp only
    rw [e2, obind]
    dsimp only
    rw [if_pos c1, e3, obind]
    dsimp only
    rw [e4, obind]
    dsimp only
    rw [if_pos (by omega)]
  · by_cases c2 : r = 1
    · obtain ⟨A, pa, sa, ⟨KA, ha⟩, lA, xA, yA⟩ := rules_l0 c hc (14 - L.length) L p2 s2 (by omega) (by omega) (by omega)
      refine ⟨A, pa, sa, ⟨K + KA, fun k hk2 => ?_⟩, lA, by omega, by omega⟩
      simp only [spec_l1Cur_rules.f]
      rw [hk k (by omega), obind]
      dsimp only
      rw [e2, obind]
      dsimp only
      rw [if_neg c1, if_pos c2]
      exact ha k (by omega)
    · by_cases c3 : r = 2
      · refine ⟨[(⟨59, 0⟩ : SRule), (⟨53, 1⟩ : SRule), (⟨47, 2⟩ : SRule)], p2, s2, ⟨K, fun k hk2 => ?_⟩, by decide, by omega, by omega⟩
        simp only [spec_l1Cur_rules.f]
        rw [hk k hk2, obind]
        dsimp only
        rw [e2, obind]
        dsimp only
        rw [if_neg c1, if_neg c2, if_pos c3]
      · refine ⟨L, p2, s2, ⟨K, fun k hk2 => ?_⟩, by omega, by omega, by omega⟩
        simp only [spec_l1Cur_rules.f]
        rw [hk k hk2, obind]
        dsimp only
        rw [e2, obind]
        dsimp only
        rw [if_neg c1, if_neg c2, if_neg c3]
theorem prime_some (n : Int) (h0 : 0 ≤ n) (h1 : n ≤ 4) : ∃ q, spec_rePrime.f n = some q := by
  unfold spec_rePrime.f
  have : n = 0 ∨ n = 1 ∨ n = 2 ∨ n = 3 ∨ n = 4 := by omega
  rcases this with rfl | rfl | rfl | rfl | rfl <;> simp
theorem primes_l0 (c : List Int) (hc : bytesOk c) : ∀ (d : Nat) (L : List Int) (n p s : Int), n + d = 5 → 0 ≤ n → (L.length : Int) ≤ n → 0 ≤ p → p + 4 * d ≤ 10000000000 → ∃ L' p' s', Ev (fun k => spec_l1Cur_primeList.l0 k L n c p s) (L', p', s') ∧ L'.length ≤ 6 ∧ p ≤ p' ∧ p' ≤ p + 4 * d + 10
  | d, L, n, p, s, h, hn, hL, h0, h1 => by
    obtain ⟨r, p1, s1, e1, r0, r1, a1, b1⟩ := pick_ok c hc p s h0 (by omega) 9 (by omega) (by omega)
    have hq : wrap64 (4 + wrap64 (Int.tdiv r 8)) = 4 + r / 8 := by
      rw [Int.tdiv_eq_ediv_of_nonneg r0, wrap_id (n := r / 8) (by omega) (by omega), wrap_id (by omega) (by omega)]
    by_cases c1 : n < 4 + r / 8
    · obtain ⟨d, rfl⟩ : ∃ q, d = q + 1 := ⟨d - 1, by omega⟩
      obtain ⟨r2, p2, s2, e2, r20, r21, a2, b2⟩ := pick_ok c hc p1 s1 (by omega) (by omega) 3 (by omega) (by omega)
      by_cases c2 : r2 > 0
      · obtain ⟨q, hq2⟩ := prime_some n hn (by omega)
        obtain ⟨A, pa, sa, ⟨KA, ha⟩, lA, xA, yA⟩ := primes_l0 c hc d (L ++ [q]) (n + 1) p2 s2 (by omega) (by omega) (by simp; omega) (by omega) (by omega)
        dsimp only at ha
        refine ⟨A, pa, sa, Ev.mk' KA fun k hk => ?_, lA, by omega, by omega⟩
        simp only [spec_l1Cur_primeList.l0]
        rw [e1, obind]
        dsimp only
        rw [hq, if_pos c1, e2, obind]
        dsimp only
        rw [if_pos c2, hq2, obind, if_pos (by omega), wrap_id (n := n + 1) (by omega) (by omega)]
        exact ha k hk
      · obtain ⟨A, pa, sa, ⟨KA, ha⟩, lA, xA, yA⟩ := primes_l0 c hc d L (n + 1) p2 s2 (by omega) (by omega) (by omega) (by omega) (by omega)
        dsimp only at ha
        refine ⟨A, pa, sa, Ev.mk' KA fun k hk => ?_, lA, by omega, by omega⟩
        simp only [spec_l1Cur_primeList.l0]
        rw [e1, obind]
        dsimp only
        rw [hq, if_pos c1, e2, obind]
        dsimp only
        rw [if_neg c2, wrap_id (n := n + 1) (by omega) (by omega)]
        exact ha k hk
    · obtain ⟨r3, p3, s3, e3, r30, r31, a3, b3⟩ := pick_ok c hc p1 s1 (by omega) (by omega) 14 (by omega) (by omega)
      by_cases c3 : r3 = 0
      · obtain ⟨e, p4, s4, e4, -, a4, b4⟩ := among_ok c hc p3 s3 (by omega) (by omega) [2, 1, 13, 17] (by decide) (by decide)
        refine ⟨L ++ [e], p4, s4, Ev.mk' 0 fun k _ => ?_, by simp; omega, by omega, by omega⟩
        simp only [spec_l1Cur_primeList.l0]
        rw [e1, obind]
        dsimp only
        rw [hq, if_neg c1, e3, obind]
        dsimp only
        rw [if_pos c3, e4, obind]
        dsimp only
        rw [if_pos (by omega)]
      · by_cases c4 : r3 = 1
        · refine ⟨[2, 3, 5, 7, 11], p3, s3, Ev.mk' 0 fun k _ => ?_, by decide, by omega, by omega⟩
          simp only [spec_l1Cur_primeList.l0]
          rw [e1, obind]
          dsimp only
          rw [hq, if_neg c1, e3, obind]
          dsimp only
          rw [if_neg c3, if_pos c4]
        · refine ⟨L, p3, s3, Ev.mk' 0 fun k _ => ?_, by omega, by omega, by omega⟩
          simp only [spec_l1Cur_primeList.l0]
          rw [e1, obind]
          dsimp only
          rw [hq, if_neg c1, e3, obind]
          dsimp only
          rw [if_neg c3, if_neg c4]
theorem primes_ok (c : List Int) (hc : bytesOk c) (p s : Int) (h0 : 0 ≤ p) (h1 : p ≤ 100000000) : ∃ L p' s', Ev (fun k => spec_l1Cur_primeList.f k c p s) (L, p', s') ∧ L.length ≤ 6 ∧ p ≤ p' ∧ p' ≤ p + 30 := by
  obtain ⟨A, pa, sa, hA, lA, xA, yA⟩ := primes_l0 c hc 5 [] 0 p s (by omega) (by omega) (by simp) h0 (by omega)
  exact ⟨A, pa, sa, hA, lA, xA, by omega⟩
theorem DrawMostCovered_ok (c : List Int) (hc : bytesOk c) : ∃ ps, Ev (fun k => spec_DrawMostCovered.f k c) ps ∧ ps.length ≤ 6 := by
  obtain ⟨L, p1, s1, ⟨K, hk⟩, l1, a1, b1⟩ := primes_ok c hc 0 0 (by omega) (by omega)
  obtain ⟨b, p2, s2, e2, a2, b2⟩ := one_ok c hc p1 s1 (by omega) (by omega) 4 (by omega) (by omega)
  dsimp only at hk
  by_cases c1 : (L.length : Int) > 4
  · cases hb : b with
    | true =>
      refine ⟨L, ⟨K, fun k hk2 => ?_⟩, l1⟩
      simp only [spec_DrawMostCovered.f, spec_DrawMostCovered.g]
      rw [hk k hk2, obind]
      dsimp only
      rw [if_pos c1, e2, obind, hb]
      simp only [if_true, obind]
    | false =>
      refine ⟨[2, 3, 5], ⟨K, fun k hk2 => ?_⟩, by decide⟩
      simp only [spec_DrawMostCovered.f, spec_DrawMostCovered.g]
      rw [hk k hk2, obind]
      dsimp only
      rw [if_pos c1, e2, obind, hb]
      simp only [Bool.false_eq_true, if_false, obind]
  · refine ⟨L, ⟨K, fun k hk2 => ?_⟩, l1⟩
    simp only [spec_DrawMostCovered.f, spec_DrawMostCovered.g]
    rw [hk k hk2, obind]
    dsimp only
    rw [if_neg c1, obind]
theorem DrawFirstCover_ok (c : List Int) (hc : bytesOk c) : ∃ ps n, Ev (fun k => spec_DrawFirstCover.f k c) (ps, n) ∧ ps.length ≤ 6 := by
  obtain ⟨b, p0, s0, e0, a0, b0⟩ := one_ok c hc 0 0 (by omega) (by omega) 12 (by omega) (by omega)
  obtain ⟨L, p1, s1, ⟨K, hk⟩, l1, a1, b1⟩ := primes_ok c hc p0 s0 (by omega) (by omega)
  dsimp only at hk
  cases hb : b with
  | true =>
    obtain ⟨n, p2, s2, e2, -, a2, b2⟩ := among_ok c hc p1 s1 (by omega) (by omega) [-1, 0, 40, 41] (by decide) (by decide)
    refine ⟨L, n, ⟨K, fun k hk2 => ?_⟩, l1⟩
    simp only [spec_DrawFirstCover.f, spec_DrawFirstCover.g]
    rw [e0, obind, hb]
    dsimp only
    rw [if_pos rfl, hk k hk2, obind]
    dsimp only
    rw [e2, obind, obind]
  | false =>
    obtain ⟨n, p2, s2, e2, -, -, a2, b2⟩ := pick_ok c hc p1 s1 (by omega) (by omega) 11 (by omega) (by omega)
    refine ⟨L, n, ⟨K, fun k hk2 => ?_⟩, l1⟩
    simp only [spec_DrawFirstCover.f, spec_DrawFirstCover.g]
    rw [e0, obind, hb]
    dsimp only
    rw [if_neg Bool.false_ne_true, hk k hk2, obind]
    dsimp only
    rw [e2, obind, obind]
theorem DrawIsCover_ok (c : List Int) (hc : bytesOk c) : ∃ r n, Ev (fun k => spec_DrawIsCover.f k c) (r, n) ∧ r.length ≤ 14 := by
  obtain ⟨b, p0, s0, e0, a0, b0⟩ := one_ok c hc 0 0 (by omega) (by omega) 12 (by omega) (by omega)
  obtain ⟨L, p1, s1, ⟨K, hk⟩, l1, a1, b1⟩ := rules_ok c hc p0 s0 (by omega) (by omega)
  dsimp only at hk
  cases hb : b with
  | true =>
    obtain ⟨n, p2, s2, e2, -, a2, b2⟩ := among_ok c hc p1 s1 (by omega) (by omega) [-1, 0, 40, 41] (by decide) (by decide)
    refine ⟨L, n, ⟨K, fun k hk2 => ?_⟩, l1⟩
    simp only [spec_DrawIsCover.f, spec_DrawIsCover.g]
    rw [e0, obind, hb]
    dsimp only
    rw [if_pos rfl, hk k hk2, obind]
    dsimp only
    rw [e2, obind, obind]
  | false =>
    obtain ⟨n, p2, s2, e2, -, -, a2, b2⟩ := pick_ok c hc p1 s1 (by omega) (by omega) 8 (by omega) (by omega)
    refine ⟨L, n, ⟨K, fun k hk2 => ?_⟩, l1⟩
    simp only [spec_DrawIsCover.f, spec_DrawIsCover.g]
    rw [e0, obind, hb]
    dsimp only
    rw [if_neg Bool.false_ne_true, hk k hk2, obind]
    dsimp only
    rw [e2, obind, obind]
end Go.Proofs.Ytdcijdeiaefjpaa.P
namespace Go.Proofs.Ytdcijdeiaefjpaa.P
open Go.RowKit Go.Proofs.YtdcijdeiaefjpaaW.PrintWords Go.Proofs.YtdcijdeiaefjpaaW.PrintLast
set_option linter.unusedVariables false
set_option linter.unusedSimpArgs false
theorem left_end (l : List SRule) (n : Int) (h : (vIsC l n).2 = true) : Ev (fun k => impl_CountLeft.f k l n) (((leftsTo l 1 n).length : Int), true) ∧ ((vIsC l n).1 == (((leftsTo l 1 n).length : Int) == 0)) = true := by
  unfold vIsC at h ⊢
  by_cases c : goodRules l = true ∧ 0 ≤ n ∧ n ≤ 40
  · rw [if_pos c]
    exact ⟨CountLeft_ev l n c.1 c.2.1 c.2.2, by rw [nat_beq]; simp⟩
  · rw [if_neg c] at h; exact absurd h (by simp)
theorem end_ok (l : List SRule) (n : Int) : Ev (fun k => (if (vIsC l n).2 = true then ((impl_CountLeft.f k l n).bind fun bt167 => (if bt167.2 = true then (some ((vIsC l n).1 == (bt167.1 == 0))) else (some false))) else (some true))) true := by
  by_cases c : (vIsC l n).2 = true
  · obtain ⟨⟨K, h⟩, h2⟩ := left_end l n c
    dsimp only at h
    refine ⟨K, fun k hk => ?_⟩
    dsimp only
    rw [if_pos c, h k hk, obind]
    simp only [if_true, h2]
  · refine ⟨0, fun k _ => ?_⟩
    dsimp only
    rw [if_neg c]
theorem first_true {l : List Int} {n : Int} (h : (vFirst l n).2 = true) : primeList l = true ∧ 0 ≤ n ∧ n ≤ 40 ∧ (vFirst l n).1 ∈ coverL l n := by
  unfold vFirst at h ⊢
  by_cases c : primeList l = true ∧ 0 ≤ n ∧ n ≤ 40 ∧ coverL l n ≠ []
  · rw [if_pos c]; exact ⟨c.1, c.2.1, c.2.2.1, headD_mem _ _ c.2.2.2⟩
  · rw [if_neg c] at h; exact absurd h (by simp)
theorem cover_is {l : List Int} {n : Int} {r : List SRule} (hp : primeList l = true) (h0 : 0 ≤ n) (h1 : n ≤ 40) (hr : r ∈ coverL l n) : vIsC r n = (true, true) ∧ r.length = l.length := by
  obtain ⟨h2, h3⟩ := first_shape hr
  have hl : r.length = l.length := by have := congrArg List.length h2; simpa using this
  have h5 := primeList_len hp
  have hg : goodRules r = true := by
    unfold goodRules
    rw [covL_rows hp r (List.mem_filter.1 hr).1, Bool.and_true]
    exact decide_eq_true (by omega)
  refine ⟨?_, hl⟩
  unfold vIsC
  rw [if_pos ⟨hg, h0, h1⟩]
  have : ((leftsTo r 1 n).length == 0) = true := h3
  rw [this]
theorem j4_ok (x1 : List Int) (hm : x1.length ≤ 10000) (x2 : Int) (l : List SRule) (n : Int) : Ev (fun k => laws_FnCoversFound.j4 k x1 x2 (vFirst x1 x2).1 (vFirst x1 x2).2 (vCount x1 x2).1 l n (vIsC l n).1 (vIsC l n).2 false) true := by
  obtain ⟨K0, h0⟩ := end_ok l n
  dsimp only at h0
  by_cases c : (vFirst x1 x2).2 = true
  · obtain ⟨hp, h1, h2, h3⟩ := first_true c
    obtain ⟨hv, hl⟩ := cover_is hp h1 h2 h3
    obtain ⟨-, ⟨K1, h4⟩⟩ := IsCover_main (vFirst x1 x2).1 x2
    rw [hv] at h4
    dsimp only at h4
    have hlb : ((vFirst x1 x2).1.length : Int) = (x1.length : Int) := by rw [hl]
    by_cases cp : x2 > 0
    · obtain ⟨-, ⟨K2, h5⟩⟩ := CountCovers_main x1 (x2 - 1) (by omega)
      have e1 : vCount x1 (x2 - 1) = (((coverL x1 (x2 - 1)).length : Int), true) := by unfold vCount; rw [if_pos ⟨hp, by omega, by omega⟩]
      have e2 : vCount x1 x2 = (((coverL x1 x2).length : Int), true) := by unfold vCount; rw [if_pos ⟨hp, by omega, by omega⟩]
      rw [e1] at h5
      dsimp only at h5
      have hle := coverL_less x1 (x2 - 1).toNat
      rw [show (((x2 - 1).toNat + 1 : Nat) : Int) = x2 by omega, show (((x2 - 1).toNat : Nat) : Int) = x2 - 1 by omega] at hle
      refine Ev.mk' (K0 + K1 + K2) fun k hk => ?_
      simp only [laws_FnCoversFound.j4, Bool.false_eq_true, if_false]
      rw [if_pos c, h4 k (by omega), obind]
      dsimp only
      rw [if_pos rfl, if_pos rfl, if_pos hlb, if_pos cp, wrap_id (by omega) (by omega), h5 k (by omega), obind, e2]
      dsimp only
      rw [if_pos rfl, if_neg (by omega)]
      exact h0 k (by omega)
    · refine Ev.mk' (K0 + K1) fun k hk => ?_
      simp only [laws_FnCoversFound.j4, Bool.false_eq_true, if_false]
      rw [if_pos c, h4 k (by omega), obind]
      dsimp only
      rw [if_pos rfl, if_pos rfl, if_pos hlb, if_neg cp]
      exact h0 k (by omega)
  · refine Ev.mk' K0 fun k hk => ?_
    simp only [laws_FnCoversFound.j4, Bool.false_eq_true, if_false]
    rw [if_neg c]
    exact h0 k hk
theorem first_count (l : List Int) (n : Int) : (vFirst l n).2 = ((vCount l n).2 && decide ((vCount l n).1 > 0)) := by
  unfold vFirst vCount
  by_cases c : primeList l = true ∧ 0 ≤ n ∧ n ≤ 40
  · rw [if_pos c]
    by_cases e : coverL l n = []
    · rw [if_neg (fun h => h.2.2.2 e), e]; rfl
    · rw [if_pos ⟨c.1, c.2.1, c.2.2, e⟩]
      have : 0 < (coverL l n).length := List.length_pos_iff.2 e
      simp; omega
  · rw [if_neg c, if_neg (fun h => c ⟨h.1, h.2.1, h.2.2.1⟩)]; rfl
theorem j3_ok (m : List Int) (hb : bytesOk m) : Ev (fun k => laws_FnCoversFound.j3 k m) true := by
  obtain ⟨x1, x2, ⟨Ka, ha⟩, hm⟩ := DrawFirstCover_ok m hb
  obtain ⟨l, n, ⟨Kb, hb2⟩, hl⟩ := DrawIsCover_ok m hb
  obtain ⟨⟨K1, h1⟩, ⟨K2, h2⟩⟩ := FirstCover_main x1 x2 (by omega)
  obtain ⟨⟨K3, h3⟩, ⟨K4, h4⟩⟩ := CountCovers_main x1 x2 (by omega)
  obtain ⟨⟨K5, h5⟩, ⟨K6, h6⟩⟩ := IsCover_main l n
  obtain ⟨K7, h7⟩ := j4_ok x1 (by omega) x2 l n
  obtain ⟨K8, h8⟩ := tRules_ev (vFirst x1 x2).1 (by have := vFirst_len x1 x2; omega)
  dsimp only at ha hb2 h1 h2 h3 h4 h5 h6 h7 h8
  have hf := first_count x1 x2
  refine Ev.mk' (Ka + Kb + K1 + K2 + K3 + K4 + K5 + K6 + K7 + K8) fun k hk => ?_
  simp only [laws_FnCoversFound.j3]
  rw [ha k (by omega), obind]
  dsimp only
  rw [h2 k (by omega), obind, h1 k (by omega), obind, h4 k (by omega), obind, h3 k (by omega), obind, hb2 k (by omega), obind]
  dsimp only
  rw [h6 k (by omega), obind, h5 k (by omega), obind, bne_self_eq_false, if_neg Bool.false_ne_true, h8 k (by omega), obind, if_pos rfl, bne_self_eq_false, if_neg Bool.false_ne_true, if_pos rfl, bne_self_eq_false, if_neg Bool.false_ne_true, bne_self_eq_false, if_neg Bool.false_ne_true]
  by_cases c : (vCount x1 x2).2 = true
  · rw [if_pos c]
    rw [c, Bool.true_and] at hf
    rw [← hf, bne_self_eq_false, h7 k (by omega)]
  · rw [if_neg c]
    rw [Bool.eq_false_iff.2 c, Bool.false_and] at hf
    have e : ((vFirst x1 x2).2 != false) = false := by rw [hf]; rfl
    rw [e, h7 k (by omega)]
theorem rd_map : ∀ (r : List SRule) (ps : List Int) (i : Nat), r.map (·.f0) = ps → i < ps.length → (rd_Rule r (i : Int)).f0 = rd ps (i : Int) := by
  intro r ps i h hi
  subst h
  have hi2 : i < r.length := by simpa using hi
  simp [rd_Rule, rd, List.getD, hi2]
theorem rd_without (ps : List Int) (i : Nat) (h : i < ps.length) : rd_Rule (withoutL ps) (i : Int) = ⟨rd ps (i : Int), 0⟩ := by
  have e : ∀ (ps : List Int), withoutL ps = ps.map (fun p => (⟨p, 0⟩ : SRule)) := by
    intro ps
    induction ps with
    | nil => rfl
    | cons a t ih => simp [withoutL, ih]
  rw [e]
  simp [rd_Rule, rd, List.getD, h]
theorem l0_ok (m : List Int) (hb : bytesOk m) (ps : List Int) (hm : ps.length ≤ 10000) (r : List SRule) (hr : r.map (·.f0) = ps) : ∀ d i : Nat, i + d = r.length → Ev (fun k => laws_FnCoversFound.l0 k m ps (withoutL ps) r (r.length : Int) (i : Int)) true
  | 0, i, h => by
    obtain ⟨K, hk⟩ := j3_ok m hb
    dsimp only at hk
    refine Ev.mk' K fun k hk' => ?_
    simp only [laws_FnCoversFound.l0]
    rw [if_neg (by omega), hk k hk']
  | d + 1, i, h => by
    obtain ⟨K, ih⟩ := l0_ok m hb ps hm r hr d (i + 1) (by omega)
    dsimp only at ih
    have hl : r.length = ps.length := by have := congrArg List.length hr; simpa using this
    have hw := withoutL_length ps
    refine Ev.mk' K fun k hk => ?_
    simp only [laws_FnCoversFound.l0, rd_map r ps i hr (by omega), rd_without ps i (by omega), if_true]
    rw [if_pos (by omega), if_pos (by omega), if_pos (by omega), if_pos (by omega), if_pos (by omega), wrap_id (by omega) (by omega), show ((i : Int) + 1) = ((i + 1 : Nat) : Int) by omega, ih k hk]
theorem j0_ok (m : List Int) (hb : bytesOk m) (ps : List Int) (hp : primeList ps = true) (r : List SRule) (hr : r.map (·.f0) = ps) : Ev (fun k => laws_FnCoversFound.j0 k m ps (mostV ps 0 40) (withoutL ps) r false) true := by
  have h5 := primeList_len hp
  obtain ⟨K, hk⟩ := l0_ok m hb ps (by omega) r hr r.length 0 (by omega)
  have hk : ∀ k, K ≤ k → laws_FnCoversFound.l0 k m ps (withoutL ps) r (r.length : Int) 0 = some true := hk
  by_cases c : ps = []
  · subst c
    have e : mostV [] 0 40 = 0 := by rfl
    refine ⟨K + 2, fun k hk' => ?_⟩
    obtain ⟨k, rfl⟩ : ∃ j, k = j + 2 := ⟨k - 2, by omega⟩
    simp only [laws_FnCoversFound.j0, Bool.false_eq_true, if_false, e]
    rw [if_neg (by simp), if_pos trivial]
    simp only [laws_FnCoversFound.j1]
    rw [hk k (by omega)]
  · obtain ⟨-, ⟨K2, h2⟩⟩ := LongestRunOut_main (withoutL ps)
    rw [most_is_run hp c] at h2
    dsimp only at h2
    have hpos := List.length_pos_iff.2 c
    refine ⟨K + K2 + 2, fun k hk' => ?_⟩
    obtain ⟨k, rfl⟩ : ∃ j, k = j + 2 := ⟨k - 2, by omega⟩
    simp only [laws_FnCoversFound.j0, Bool.false_eq_true, if_false]
    rw [if_pos (by omega), h2 (k + 1) (by omega), obind]
    simp only [if_true]
    simp only [laws_FnCoversFound.j1]
    rw [hk k (by omega)]
theorem all_ok (c0 m : List Int) (hb0 : bytesOk c0) (hb : bytesOk m) : ∃ k, laws_FnCoversFound.f k c0 m = some true := by
  obtain ⟨b, hbig⟩ : ∃ b, laws_big.f c0 m = some b := by
    unfold laws_big.f
    split
    · exact ⟨_, rfl⟩
    · exact ⟨_, rfl⟩
  cases b with
  | true => exact ⟨0, by simp only [laws_FnCoversFound.f]; rw [hbig, obind, if_pos rfl]⟩
  | false =>
  obtain ⟨ps, ⟨Ka, ha⟩, hm⟩ := DrawMostCovered_ok c0 hb0
  obtain ⟨⟨K1, h1⟩, ⟨K2, h2⟩⟩ := MostCovered_main ps (by omega)
  obtain ⟨⟨K3, h3⟩, ⟨K4, h4⟩⟩ := RulesWithout_main ps (by omega)
  obtain ⟨K5, h5⟩ := tRules_ev (vWithout ps).1 (by have := vWithout_len ps; omega)
  dsimp only at ha h1 h2 h3 h4 h5
  have e : ((vWithout ps).2 != (vMost ps).2) = false := by unfold vWithout vMost; split <;> rfl
  have start : ∀ k, Ka + K1 + K2 + K3 + K4 + K5 ≤ k → laws_FnCoversFound.f k c0 m = (if (vMost ps).2 = true then ((impl_FirstCover.f k ps (vMost ps).1).bind fun bt118 => ((impl_FirstCover.f k ps (wrap64 ((vMost ps).1 + 1))).bind fun bt122 => ((impl_CountCovers.f k ps (vMost ps).1).bind fun bt126 => ((impl_IsCover.f k bt118.1 (vMost ps).1).bind fun bt128 => (if bt118.2 = true then (if (vMost ps).1 < 40 then (if bt122.2 = true then (some false) else (if bt126.2 = true then (if bt126.1 < 1 then (some false) else (if bt128.2 = true then (if bt128.1 = true then (laws_FnCoversFound.j0 k m ps (vMost ps).1 (vWithout ps).1 bt118.1 (((vWithout ps).1.length : Int) != (ps.length : Int))) else (some false)) else (some false))) else (some false))) else (if bt126.2 = true then (if bt126.1 < 1 then (some false) else (if bt128.2 = true then (if bt128.1 = true then (laws_FnCoversFound.j0 k m ps (vMost ps).1 (vWithout ps).1 bt118.1 (((vWithout ps).1.length : Int) != (ps.length : Int))) else (some false)) else (some false))) else (some false))) else (some false)))))) else (laws_FnCoversFound.j3 k m)) := fun k hk => by
    simp only [laws_FnCoversFound.f]
    rw [hbig, obind, if_neg Bool.false_ne_true, ha k (by omega), obind, h2 k (by omega), obind, h1 k (by omega), obind, h4 k (by omega), obind, h3 k (by omega), obind, bne_self_eq_false, if_neg Bool.false_ne_true, if_pos rfl, bne_self_eq_false, if_neg Bool.false_ne_true, h5 k (by omega), obind, if_pos rfl, e, if_neg Bool.false_ne_true]
  by_cases hp : primeList ps = true
  · obtain ⟨M, e0, hM, hc, hnone⟩ := most_spec hp
    have em : vMost ps = ((M : Int), true) := by unfold vMost; rw [if_pos hp, e0]
    have ew : vWithout ps = (withoutL ps, true) := by unfold vWithout; rw [if_pos hp]
    obtain ⟨-, ⟨L1, g1⟩⟩ := FirstCover_main ps (M : Int) (by omega)
    obtain ⟨-, ⟨L2, g2⟩⟩ := FirstCover_main ps ((M : Int) + 1) (by omega)
    obtain ⟨-, ⟨L3, g3⟩⟩ := CountCovers_main ps (M : Int) (by omega)
    have ef : vFirst ps (M : Int) = ((coverL ps (M : Int)).headD [], true) := by unfold vFirst; rw [if_pos ⟨hp, by omega, by omega, hc⟩]
    have hmem := headD_mem (coverL ps (M : Int)) [] hc
    obtain ⟨hv, hl⟩ := cover_is hp (by omega) (by omega) hmem
    obtain ⟨hs, -⟩ := first_shape hmem
    obtain ⟨-, ⟨L4, g4⟩⟩ := IsCover_main ((coverL ps (M : Int)).headD []) (M : Int)
    have ec : vCount ps (M : Int) = (((coverL ps (M : Int)).length : Int), true) := by unfold vCount; rw [if_pos ⟨hp, by omega, by omega⟩]
    have hpos := List.length_pos_iff.2 hc
    obtain ⟨L5, g5⟩ := j0_ok m hb ps hp _ hs
    rw [e0] at g5
    rw [ef] at g1; rw [ec] at g3; rw [hv] at g4
    dsimp only at g1 g2 g3 g4 g5
    have hwl : (((withoutL ps).length : Int) != (ps.length : Int)) = false := by rw [withoutL_length]; exact bne_self_eq_false _
    refine ⟨Ka + K1 + K2 + K3 + K4 + K5 + (L1 + L2 + L3 + L4 + L5), ?_⟩
    rw [start _ (by omega), em, ew, if_pos rfl, g1 _ (by omega), obind, wrap_id (by omega) (by omega), g2 _ (by omega), obind, g3 _ (by omega), obind]
    dsimp only
    rw [g4 _ (by omega), obind]
    dsimp only
    rw [if_pos rfl]
    by_cases c40 : (M : Int) < 40
    · have e2 : vFirst ps ((M : Int) + 1) = ([], false) := by
        unfold vFirst
        rw [if_neg (fun h => h.2.2.2 (by rw [show ((M : Int) + 1) = ((M + 1 : Nat) : Int) by omega]; exact hnone (by omega)))]
      rw [if_pos c40, e2]
      dsimp only
      rw [if_neg Bool.false_ne_true, if_pos rfl, if_neg (by omega), if_pos rfl, if_pos rfl, hwl]
      exact g5 _ (by omega)
    · rw [if_neg c40, if_pos rfl, if_neg (by omega), if_pos rfl, if_pos rfl, hwl]
      exact g5 _ (by omega)
  · have em : vMost ps = (0, false) := by unfold vMost; rw [if_neg hp]
    obtain ⟨L5, g5⟩ := j3_ok m hb
    dsimp only at g5
    refine ⟨Ka + K1 + K2 + K3 + K4 + K5 + L5, ?_⟩
    rw [start _ (by omega), em, if_neg Bool.false_ne_true]
    exact g5 _ (by omega)
theorem bytes_of {l : List Int} (h : ∀ z_ ∈ l, (Lit.int .u8 z_).wf = true) : bytesOk l := fun x hx => by
  have h1 := h x hx
  unfold Lit.wf at h1
  simp only [Bool.and_eq_true, decide_eq_true_eq] at h1
  exact h1
theorem FnCoversFound : laws_FnCoversFound.Pure := by
  intro l0 l1 _ h0 _ h1
  exact all_ok l0 l1 (bytes_of h0) (bytes_of h1)
end Go.Proofs.Ytdcijdeiaefjpaa.P
