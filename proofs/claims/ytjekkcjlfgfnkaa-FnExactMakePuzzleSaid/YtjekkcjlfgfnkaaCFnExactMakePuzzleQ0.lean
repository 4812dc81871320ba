/- The plain laws on what the functions answer; the last one: the law FnExactMakePuzzle answers true for all arguments. Proved in this text: its theorems. Conditions: as each theorem states them. -/
import Derived.Test.YtjekkcjlfgfnkaaCFnExactMakePuzzleP
import Derived.Test.YtjekkcjlfgfnkaaCFnExactMakePuzzleF0
import Derived.Deep.Slices
import Derived.Deep.Fields
import Derived.ChangeSame
import Derived.ChangeSlices
import Derived.Lib.SmallJoins
import Derived.ProofKit
import Derived.OpenShut
import Derived.ShutString
import Derived.ChangeOld
import Derived.SizedLaws
import Derived.KernelRfl
namespace Go.Proofs.Ytjekkcjlfgfnkaa.P
open Go.RowKit Go.Proofs.YtjekkcjlfgfnkaaW.PrintWords Go.Proofs.YtjekkcjlfgfnkaaW.PrintLast
set_option linter.unusedVariables false
set_option linter.unusedSimpArgs false
section
open Go.ChangeShapes Go.WideShapes Go.Deep Go.ChangeAt
variable {H : Type} {enc : TypeId × Value → H} {P : Program} {w : World} {base : Nat} {spare : Nat → Bool} {held : Bool}
theorem open_pairs {t e : TypeId} {f0 f1 : Field} {fuel : Nat} {v : Value} {x : DataW H × List MemPlace} (ht : P.underlying t = some (.slice e)) (he : P.underlying e = some (.struct #[f0, f1]))
    (hone : oneCellFields P #[f0, f1] = true) (hC : P.cellsOf e = 2) (h0 : P.underlying f0.type = some (.int .i64)) (h1 : P.underlying f1.type = some (.int .i64)) (h : DataW.trod enc P w base spare held fuel t [v] = some x) :
    ∃ (a : Option Addr) (len cap : Nat) (l : List (Int × Int)), v = .slice a len cap ∧ len = l.length ∧ len ≤ cap ∧ l.length ≤ 9223372036854775807 ∧ (∀ p ∈ l, (Lit.int .i64 p.1).wf = true ∧ (Lit.int .i64 p.2).wf = true) ∧
      (0 < l.length → ∃ ad, a = some ad ∧ ∀ j p, l[j]? = some p → w.cell? (ad.add (j * 2)) = some (.int .i64 p.1) ∧ w.cell? (ad.add (j * 2 + 1)) = some (.int .i64 p.2)) := by
  rcases open_slice ht h with ⟨hcs, -⟩ | ⟨a, len, cap, m, n, D, Pl, hcs, hb, hl, hm, hmm, hx, hi⟩
  · simp at hcs
    exact ⟨none, 0, 0, [], hcs, rfl, Nat.le_refl _, by simp, by simp, by simp⟩
  · simp at hcs
    have hlm : len ≤ m := by rw [hmm]; split <;> omega
    have hget : ∀ i, i < len → ∃ p : Int × Int, w.cell? (a.add (i * 2)) = some (.int .i64 p.1) ∧ w.cell? (a.add (i * 2 + 1)) = some (.int .i64 p.2) ∧ (Lit.int .i64 p.1).wf = true ∧ (Lit.int .i64 p.2).wf = true := by
      intro i him
      obtain ⟨cs', hc, ht'⟩ := hi i (by omega)
      rw [hC] at hc
      obtain ⟨y0, y1, n', hy, -, t0, t1⟩ := trod_struct2 he ht'
      obtain ⟨_, hcl, hat⟩ := World.cells?_some hc
      obtain ⟨o0, k0⟩ := hone_of hone 0 f0 rfl
      obtain ⟨o1, k1⟩ := hone_of hone 1 f1 rfl
      have c0 := hat (i := 0) (by omega)
      have c1 := hat (i := 1) (by omega)
      match cs', hcl with
      | [u0, u1], _ =>
        simp only [o0, k0, List.drop_zero, List.take_succ_cons, List.take_zero] at t0
        simp only [o1, k1, List.drop_succ_cons, List.drop_zero, List.take_succ_cons, List.take_zero] at t1
        obtain ⟨z0, e0, -, w0⟩ := DataW.trod_int h0 t0
        obtain ⟨z1, e1, -, w1⟩ := DataW.trod_int h1 t1
        simp at e0 e1
        subst e0 e1
        refine ⟨(z0, z1), ?_, ?_, w0, w1⟩
        · simpa [Go.Deep.add_add] using c0
        · simpa [Go.Deep.add_add] using c1
    let g : Nat → Int × Int := fun i => if hi : i < len then (hget i hi).choose else (0, 0)
    have hg : ∀ i, i < len → w.cell? (a.add (i * 2)) = some (.int .i64 (g i).1) ∧ w.cell? (a.add (i * 2 + 1)) = some (.int .i64 (g i).2) ∧ (Lit.int .i64 (g i).1).wf = true ∧ (Lit.int .i64 (g i).2).wf = true := by
      intro i hi
      have := (hget i hi).choose_spec
      simpa [g, hi] using this
    refine ⟨some a, len, cap, (List.range len).map g, hcs, by simp, hl, by simp; unfold maxLen at hm; omega, ?_, ?_⟩
    · intro p hp
      simp at hp
      obtain ⟨i, hi, rfl⟩ := hp
      exact ⟨(hg i hi).2.2.1, (hg i hi).2.2.2⟩
    · intro _
      refine ⟨a, rfl, fun j p hj => ?_⟩
      simp [List.getElem?_map] at hj
      obtain ⟨i, hij, rfl⟩ := hj
      have hjl : j < len := by
        have := (List.getElem?_eq_some_iff.1 hij).1
        simpa using this
      have : i = j := by
        have := List.getElem?_range hjl
        rw [this] at hij
        simpa using hij.symm
      subst this
      exact ⟨(hg i hjl).1, (hg i hjl).2.1⟩
theorem open_nums {t e : TypeId} {k : IntKind} {fuel : Nat} {v : Value} {x : DataW H × List MemPlace} (ht : P.underlying t = some (.slice e)) (he : P.underlying e = some (.int k)) (hc : P.cellsOf e = 1)
    (h : DataW.trod enc P w base spare held fuel t [v] = some x) :
    ∃ (a : Option Addr) (len cap : Nat) (l : List Int), v = .slice a len cap ∧ len = l.length ∧ len ≤ cap ∧ l.length ≤ 9223372036854775807 ∧ (∀ n ∈ l, (Lit.int k n).wf = true) ∧ (Kd.int k).C w a l.length l := by
  rcases open_ints ht he hc h with ⟨hcs, -⟩ | ⟨a, len, cap, zs, hcs, hb, hl, hm, hz, hx, hcell, hwf⟩
  · simp at hcs
    exact ⟨none, 0, 0, [], hcs, rfl, Nat.le_refl _, by simp, by simp, Kd.C_nil _ _⟩
  · simp at hcs
    have hlz : len ≤ zs.length := by rw [hz]; split <;> omega
    have hlen : (zs.take len).length = len := by simp; omega
    have hmax : (zs.take len).length ≤ 9223372036854775807 := by rw [hlen]; unfold maxLen at hm; omega
    refine ⟨some a, len, cap, zs.take len, hcs, hlen.symm, hl, hmax, fun n hn => hwf n (List.mem_of_mem_take hn), ?_⟩
    refine Kd.C_of_reads (d := (0 : Int)) (h1 := fun _ => rfl) ⟨rfl, hmax, fun hn => ⟨a, rfl, fun i hi => ?_⟩⟩
    rw [hlen] at hi
    rw [hcell i (by omega)]
    congr 2
    simp [List.getD, hi]
end
end Go.Proofs.Ytjekkcjlfgfnkaa.P
namespace Go.Proofs.Ytjekkcjlfgfnkaa.P
open Go.RowKit Go.Proofs.YtjekkcjlfgfnkaaW.PrintWords Go.Proofs.YtjekkcjlfgfnkaaW.PrintLast
set_option linter.unusedVariables false
set_option linter.unusedSimpArgs false
theorem Ev.get {α : Type} {g : Nat → Option α} {r : α} (h : Ev g r) : ∃ K, ∀ k, K ≤ k → g k = some r := h
theorem Ev.mk' {α : Type} {g : Nat → Option α} {r : α} (K : Nat) (h : ∀ k, K ≤ k → g (k + 1) = some r) : Ev g r :=
  ⟨K + 1, fun k hk => by obtain ⟨m, rfl⟩ : ∃ m, k = m + 1 := ⟨k - 1, by omega⟩; exact h m (by omega)⟩
theorem Ev.pos {α : Type} {c : Prop} [Decidable c] {g f : Nat → Option α} {r : α} (hc : c) (h : Ev g r) : Ev (fun k => if c then g k else f k) r := by
  obtain ⟨K, h⟩ := h
  exact ⟨K, fun k hk => by show (if c then g k else f k) = some r; rw [if_pos hc]; exact h k hk⟩
theorem Ev.neg {α : Type} {c : Prop} [Decidable c] {g f : Nat → Option α} {r : α} (hc : ¬ c) (h : Ev f r) : Ev (fun k => if c then g k else f k) r := by
  obtain ⟨K, h⟩ := h
  exact ⟨K, fun k hk => by show (if c then g k else f k) = some r; rw [if_neg hc]; exact h k hk⟩
theorem Ev.let_ {α β : Type} {f : Nat → α → Option β} {a : α} {r : β} (k : Ev (fun n => f n a) r) : Ev (fun n => (some a).bind (f n)) r := k
theorem Ev.some_ {α : Type} {a r : α} (h : a = r) : Ev (fun _ => some a) r := ⟨0, fun _ _ => by rw [h]⟩
theorem Ev.eq_ {α : Type} {g : Nat → Option α} {a r : α} (h : Ev g a) (e : a = r) : Ev g r := e ▸ h
theorem wrap_id {n : Int} (h1 : -9223372036854775808 ≤ n) (h2 : n ≤ 9223372036854775807) : wrap64 n = n := by unfold wrap64; omega
theorem wf_int {n : Int} (h : (Lit.int .i64 n).wf = true) : -9223372036854775808 ≤ n ∧ n ≤ 9223372036854775807 := by
  unfold Lit.wf at h
  simp only [Bool.and_eq_true, decide_eq_true_eq] at h
  exact h
theorem obind {α β : Type} (a : α) (f : α → Option β) : (some a).bind f = f a := id rfl
end Go.Proofs.Ytjekkcjlfgfnkaa.P
namespace Go.Proofs.Ytjekkcjlfgfnkaa.P
open Go.RowKit Go.Proofs.YtjekkcjlfgfnkaaW.PrintWords Go.Proofs.YtjekkcjlfgfnkaaW.PrintLast
set_option linter.unusedVariables false
set_option linter.unusedSimpArgs false
def left (l : List SRule) (n : Int) : Bool := !(l.any (crosses n))
def goodRules (l : List SRule) : Bool := decide (l.length ≤ 12) && l.all okRule
theorem okRule_iff (x : SRule) : okRule x = true ↔ 2 ≤ x.f0 ∧ x.f0 ≤ 60 ∧ 0 ≤ x.f1 ∧ x.f1 < x.f0 := by
  unfold okRule; simp
theorem l1In_ok (a b c : Int) : spec_l1In.f a b c = some (decide (b ≤ a) && decide (a ≤ c)) := by
  unfold spec_l1In.f
  by_cases h : b ≤ a <;> simp [h]
theorem siRule_ok (x : SRule) : spec_siRule.f x.f0 x.f1 = some (okRule x) := by
  unfold spec_siRule.f okRule
  simp only [l1In_ok, Option.bind_some]
  by_cases h1 : 2 ≤ x.f0
  · by_cases h2 : x.f0 ≤ 60
    · have : wrap64 (x.f0 - 1) = x.f0 - 1 := wrap_id (by omega) (by omega)
      rw [this]
      by_cases h3 : 0 ≤ x.f1
      · simp [h1, h2, h3]; omega
      · simp [h1, h2, h3]
    · simp [h1, h2]
  · simp [h1]
theorem rd_drop (l : List SRule) (k : Nat) (h : k < l.length) : l.drop k = rd_Rule l k :: l.drop (k + 1) := drop_rd l k h
theorem siGood_l0 (l : List SRule) (hm : l.length ≤ 12) : ∀ d i : Nat, i + d = l.length → Ev (fun k => spec_siGood.l0 k l l.length i) ((l.drop i).all okRule)
  | 0, i, h => Ev.mk' 0 fun k _ => by
    simp only [spec_siGood.l0]
    rw [if_neg (by omega), List.drop_eq_nil_of_le (by omega)]; rfl
  | d + 1, i, h => by
    obtain ⟨K, ih⟩ := siGood_l0 l hm d (i + 1) (by omega)
    dsimp only at ih
    refine Ev.mk' K fun k hk => ?_
    simp only [spec_siGood.l0]
    rw [if_pos (by omega), if_pos (by omega), if_pos (by omega), siRule_ok, rd_drop l i (by omega), List.all_cons, Option.bind_some]
    rw [show wrap64 ((i : Int) + 1) = ((i + 1 : Nat) : Int) from wrap_id (by omega) (by omega), ih k hk]
    cases okRule (rd_Rule l i) <;> simp
theorem siGood_ev (l : List SRule) : Ev (fun k => spec_siGood.f k l) (goodRules l) := by
  unfold goodRules
  by_cases h : l.length ≤ 12
  · obtain ⟨K, ih⟩ := siGood_l0 l h l.length 0 (by omega)
    refine ⟨K, fun k hk => ?_⟩
    simp only [spec_siGood.f]
    rw [if_neg (by omega)]
    simpa [h] using ih k hk
  · refine ⟨0, fun k _ => ?_⟩
    simp only [spec_siGood.f]
    rw [if_pos (by omega)]
    simp [h]
theorem areRules_ok (l : List SRule) : impl_areRules.f l = some (goodRules l) := rfl
theorem good_all {l : List SRule} (h : goodRules l = true) : l.length ≤ 12 ∧ l.all okRule = true := by
  unfold goodRules at h
  simpa using h
theorem siRest_ok (n : Int) (x : SRule) (h : okRule x = true) : spec_siRest.f n x.f0 = some (n % x.f0) := by
  have := mod_ok n x.f0 ((okRule_iff x).1 h).1 ((okRule_iff x).1 h).2.1
  exact this
theorem siFirst_l0 (n : Int) (l : List SRule) (hm : l.length ≤ 9223372036854775807) (hl : l.all okRule = true) : ∀ d i : Nat, i + d = l.length → Ev (fun k => spec_siFirst.l0 k n l l.length i) (firstIx (crosses n) (l.drop i) i)
  | 0, i, h => Ev.mk' 0 fun k _ => by
    simp only [spec_siFirst.l0]
    rw [if_neg (by omega), List.drop_eq_nil_of_le (by omega)]; rfl
  | d + 1, i, h => by
    obtain ⟨K, ih⟩ := siFirst_l0 n l hm hl d (i + 1) (by omega)
    dsimp only at ih
    refine Ev.mk' K fun k hk => ?_
    simp only [spec_siFirst.l0]
    rw [if_pos (by omega), if_pos (by omega), if_pos (by omega), siRest_ok n _ (List.all_eq_true.mp hl _ (rd_mem l i (by omega))), rd_drop l i (by omega), Option.bind_some]
    rw [show wrap64 ((i : Int) + 1) = ((i + 1 : Nat) : Int) from wrap_id (by omega) (by omega), ih k hk]
    rw [firstIx]
    by_cases hc : n % (rd_Rule l i).f0 = (rd_Rule l i).f1
    · rw [if_pos hc, if_pos (by simp [crosses, hc])]
    · rw [if_neg hc, if_neg (by simp [crosses, hc])]; rfl
theorem siFirst_ev (n : Int) (l : List SRule) (hm : l.length ≤ 9223372036854775807) (hl : l.all okRule = true) : Ev (fun k => spec_siFirst.f k l n) (firstIx (crosses n) l 0) :=
  siFirst_l0 n l hm hl l.length 0 (by omega)
theorem first_left (n : Int) (l : List SRule) : decide (firstIx (crosses n) l 0 < 0) = left l n := by
  have h := firstIx_any (crosses n) l 0 (by omega)
  unfold left
  rw [← h]
  by_cases hc : 0 ≤ firstIx (crosses n) l 0
  · simp [hc, Int.not_lt.mpr hc]
  · simp [hc, Int.not_le.mp hc]
theorem siLeft_ev (n : Int) (l : List SRule) (hm : l.length ≤ 9223372036854775807) (hl : l.all okRule = true) : Ev (fun k => spec_siLeft.f k l n) (left l n) := by
  obtain ⟨K, h⟩ := siFirst_ev n l hm hl
  refine ⟨K, fun k hk => ?_⟩
  simp only [spec_siLeft.f, h k hk, Option.bind_some, first_left]
theorem isLeft_ok (n : Int) (l : List SRule) (hl : l.all okRule = true) : impl_isLeft.f l n = some (left l n) := by
  simp only [impl_isLeft.f, impl_firstRule.f, if_pos hl, Option.bind_some, first_left]
end Go.Proofs.Ytjekkcjlfgfnkaa.P
namespace Go.Proofs.Ytjekkcjlfgfnkaa.P
open Go.RowKit Go.Proofs.YtjekkcjlfgfnkaaW.PrintWords Go.Proofs.YtjekkcjlfgfnkaaW.PrintLast
set_option linter.unusedVariables false
set_option linter.unusedSimpArgs false
def patB (l : List SRule) (i : Int) : Nat → ByteArray → ByteArray
  | 0, acc => acc
  | m + 1, acc => patB l (i + 1) m (acc ++ (if left l i = true then (⟨#[111]⟩ : ByteArray) else ⟨#[120]⟩))
def pat (l : List SRule) (n : Int) : ByteArray := patB l 1 n.toNat (⟨#[]⟩ : ByteArray)
theorem sz_o (a : ByteArray) : (a ++ (⟨#[111]⟩ : ByteArray)).size = a.size + 1 := by rw [ByteArray.size_append]; rfl
theorem sz_x (a : ByteArray) : (a ++ (⟨#[120]⟩ : ByteArray)).size = a.size + 1 := by rw [ByteArray.size_append]; rfl
theorem patS_l0 (l : List SRule) (hm : l.length ≤ 12) (hl : l.all okRule = true) (hi : Int) (h2 : hi ≤ 48) : ∀ (m : Nat) (i : Int) (acc : ByteArray), i + m = hi + 1 → 1 ≤ i → acc.size + m ≤ 1000 → Ev (fun k => spec_PatternOf.l0 k l hi acc i) (patB l i m acc, true)
  | 0, i, acc, h, h0, h1 => Ev.mk' 0 fun k _ => by
    simp only [spec_PatternOf.l0]
    rw [if_neg (by omega)]; rfl
  | m + 1, i, acc, h, h0, h1 => by
    obtain ⟨K1, h3⟩ := siLeft_ev i l (by omega) hl
    dsimp only at h3
    simp only [patB]
    by_cases hc : left l i = true
    · obtain ⟨K, ih⟩ := patS_l0 l hm hl hi h2 m (i + 1) (acc ++ (⟨#[111]⟩ : ByteArray)) (by omega) (by omega) (by rw [sz_o]; omega)
      dsimp only at ih
      refine Ev.mk' (K + K1) fun k hk => ?_
      simp only [spec_PatternOf.l0, h3 k (by omega), obind]
      rw [if_pos (by omega), if_pos hc, if_pos (by omega), wrap_id (by omega) (by omega), ih k (by omega), if_pos hc]
    · obtain ⟨K, ih⟩ := patS_l0 l hm hl hi h2 m (i + 1) (acc ++ (⟨#[120]⟩ : ByteArray)) (by omega) (by omega) (by rw [sz_x]; omega)
      dsimp only at ih
      refine Ev.mk' (K + K1) fun k hk => ?_
      simp only [spec_PatternOf.l0, h3 k (by omega), obind]
      rw [if_pos (by omega), if_neg hc, if_pos (by omega), wrap_id (by omega) (by omega), ih k (by omega), if_neg hc]
theorem patI_l0 (l : List SRule) (hl : l.all okRule = true) (hi : Int) (h2 : hi ≤ 48) : ∀ (m : Nat) (i : Int) (acc : ByteArray), i + m = hi + 1 → 1 ≤ i → acc.size + m ≤ 1000 → Ev (fun k => impl_patternOf.l0 k l hi acc i) (patB l i m acc)
  | 0, i, acc, h, h0, h1 => Ev.mk' 0 fun k _ => by
    simp only [impl_patternOf.l0]
    rw [if_neg (by omega)]; rfl
  | m + 1, i, acc, h, h0, h1 => by
    simp only [patB]
    by_cases hc : left l i = true
    · obtain ⟨K, ih⟩ := patI_l0 l hl hi h2 m (i + 1) (acc ++ (⟨#[111]⟩ : ByteArray)) (by omega) (by omega) (by rw [sz_o]; omega)
      dsimp only at ih
      refine Ev.mk' K fun k hk => ?_
      simp only [impl_patternOf.l0, isLeft_ok i l hl, obind]
      rw [if_pos (by omega), if_pos hc, if_pos (by omega), wrap_id (by omega) (by omega), ih k (by omega), if_pos hc]
    · obtain ⟨K, ih⟩ := patI_l0 l hl hi h2 m (i + 1) (acc ++ (⟨#[120]⟩ : ByteArray)) (by omega) (by omega) (by rw [sz_x]; omega)
      dsimp only at ih
      refine Ev.mk' K fun k hk => ?_
      simp only [impl_patternOf.l0, isLeft_ok i l hl, obind]
      rw [if_pos (by omega), if_neg hc, if_pos (by omega), wrap_id (by omega) (by omega), ih k (by omega), if_neg hc]
theorem patternOf_ev (l : List SRule) (hl : l.all okRule = true) (n : Int) (h0 : 1 ≤ n) (h1 : n ≤ 48) : Ev (fun k => impl_patternOf.f k l n) (pat l n) := by
  obtain ⟨K, h⟩ := patI_l0 l hl n h1 n.toNat 1 (⟨#[]⟩ : ByteArray) (by omega) (by omega) (by show (0 : Nat) + _ ≤ _; omega)
  exact ⟨K, fun k hk => h k hk⟩
theorem specPattern_ev (l : List SRule) (hg : goodRules l = true) (n : Int) (h0 : 1 ≤ n) (h1 : n ≤ 48) : Ev (fun k => spec_PatternOf.f k l n) (pat l n, true) := by
  obtain ⟨K1, h2⟩ := siGood_ev l
  dsimp only at h2
  obtain ⟨K2, h3⟩ := patS_l0 l (good_all hg).1 (good_all hg).2 n h1 n.toNat 1 (⟨#[]⟩ : ByteArray) (by omega) (by omega) (by show (0 : Nat) + _ ≤ _; omega)
  have h3 : ∀ k, K2 ≤ k → spec_PatternOf.l0 k l n (⟨#[]⟩ : ByteArray) 1 = _ := h3
  have e : (decide (1 ≤ n) && decide (n ≤ 48)) = true := by simp [h0, h1]
  refine Ev.mk' (K1 + K2) fun k hk => ?_
  simp (disch := omega) only [spec_PatternOf.f, h2, obind, hg, if_true, l1In_ok, e]
  simp (disch := omega) only [spec_PatternOf.j0, h3, Bool.not_true, Bool.false_eq_true, if_false]
  rfl
def patVal (l : List SRule) (n : Int) : ByteArray × Bool := if goodRules l = true ∧ 1 ≤ n ∧ n ≤ 48 then (pat l n, true) else ((⟨#[]⟩ : ByteArray), false)
theorem PatternOf_main (l : List SRule) (n : Int) : Ev (fun k => spec_PatternOf.f k l n) (patVal l n) ∧ Ev (fun k => impl_PatternOf.f k l n) (patVal l n) := by
  unfold patVal
  obtain ⟨K1, h1⟩ := siGood_ev l
  dsimp only at h1
  by_cases hc : goodRules l = true ∧ 1 ≤ n ∧ n ≤ 48
  · obtain ⟨K2, h2⟩ := patternOf_ev l (good_all hc.1).2 n hc.2.1 hc.2.2
    dsimp only at h2
    rw [if_pos hc]
    refine ⟨specPattern_ev l hc.1 n hc.2.1 hc.2.2, ⟨K2, fun k hk => ?_⟩⟩
    simp only [impl_PatternOf.f, areRules_ok, obind, hc.1, if_true, h2 k hk]
    rw [if_neg (by omega), if_neg (by omega)]
  · rw [if_neg hc]
    constructor
    · refine Ev.mk' K1 fun k hk => ?_
      simp (disch := omega) only [spec_PatternOf.f, h1, obind, l1In_ok]
      by_cases hg : goodRules l = true
      · have e : (decide (1 ≤ n) && decide (n ≤ 48)) = false := by
          rw [Bool.and_eq_false_iff]; simp only [decide_eq_false_iff_not]; by_cases h : 1 ≤ n
          · right; intro h'; exact hc ⟨hg, h, h'⟩
          · left; exact h
        rw [if_pos hg, e]
        simp [spec_PatternOf.j0]
      · rw [if_neg hg]; simp [spec_PatternOf.j0]
    · refine ⟨0, fun k _ => ?_⟩
      simp only [impl_PatternOf.f, areRules_ok, obind]
      by_cases hg : goodRules l = true
      · rw [if_pos hg]
        by_cases h : n < 1
        · rw [if_pos h]
        · rw [if_neg h, if_pos (by apply Decidable.byContradiction; intro h'; exact hc ⟨hg, by omega, by omega⟩)]
      · rw [if_neg hg]
end Go.Proofs.Ytjekkcjlfgfnkaa.P
namespace Go.Proofs.Ytjekkcjlfgfnkaa.P
open Go.RowKit Go.Proofs.YtjekkcjlfgfnkaaW.PrintWords Go.Proofs.YtjekkcjlfgfnkaaW.PrintLast
set_option linter.unusedVariables false
set_option linter.unusedSimpArgs false
def hasR (l : List SRule) (e t : Int) : Bool := l.any fun x => x.f0 == e && x.f1 == t
theorem pzHas_l0 (l : List SRule) (hm : l.length ≤ 100) (e t : Int) : ∀ d i : Nat, i + d = l.length → Ev (fun k => spec_pzHas.l0 k l (l.length : Int) i e t) (hasR (l.drop i) e t)
  | 0, i, h => Ev.mk' 0 fun k _ => by
    simp only [spec_pzHas.l0]
    rw [if_neg (by omega), List.drop_of_length_le (by omega)]; rfl
  | d + 1, i, h => by
    obtain ⟨K, ih⟩ := pzHas_l0 l hm e t d (i + 1) (by omega)
    dsimp only at ih
    refine Ev.mk' K fun k hk => ?_
    have ih : spec_pzHas.l0 k l (l.length : Int) ((i : Int) + 1) e t = _ := ih k hk
    rw [rd_drop l i (by omega)]
    simp only [spec_pzHas.l0, hasR, List.any_cons] at ih ⊢
    rw [if_pos (by omega), if_pos (by omega), if_pos (by omega), wrap_id (by omega) (by omega), ih]
    cases ((rd_Rule l i).f0 == e && (rd_Rule l i).f1 == t) <;> simp
theorem pzHas_ev (l : List SRule) (hm : l.length ≤ 100) (e t : Int) : Ev (fun k => spec_pzHas.f k l e t) (hasR l e t) := pzHas_l0 l hm e t l.length 0 (by omega)
theorem index_l0 (l : List SRule) (hm : l.length ≤ 100) (e t : Int) : ∀ d i : Nat, i + d = l.length → Ev (fun k => impl_Rule_29.l0 k l (l.length : Int) i e t) (firstIx (fun x => x.f0 == e && x.f1 == t) (l.drop i) i)
  | 0, i, h => Ev.mk' 0 fun k _ => by
    simp only [impl_Rule_29.l0]
    rw [if_neg (by omega), List.drop_of_length_le (by omega)]; rfl
  | d + 1, i, h => by
    obtain ⟨K, ih⟩ := index_l0 l hm e t d (i + 1) (by omega)
    dsimp only at ih
    refine Ev.mk' K fun k hk => ?_
    have ih : impl_Rule_29.l0 k l (l.length : Int) ((i : Int) + 1) e t = _ := ih k hk
    rw [rd_drop l i (by omega)]
    simp only [impl_Rule_29.l0, firstIx]
    have ec : (e == (rd_Rule l i).f0 && t == (rd_Rule l i).f1) = ((rd_Rule l i).f0 == e && (rd_Rule l i).f1 == t) := by rw [BEq.comm (a := e), BEq.comm (a := t)]
    rw [if_pos (by omega), if_pos (by omega), if_pos (by omega), wrap_id (by omega) (by omega), ih, show (((i + 1 : Nat) : Int)) = (i : Int) + 1 by omega, ec]
    split <;> rfl
theorem firstIx_iff (p : SRule → Bool) : ∀ (l : List SRule) (i : Int), 0 ≤ i → (firstIx p l i ≥ 0 ↔ l.any p = true)
  | [], i, h => by simp [firstIx]
  | x :: l, i, h => by
    simp only [firstIx, List.any_cons]
    by_cases hx : p x = true
    · rw [if_pos hx, hx, Bool.true_or]; simp; omega
    · rw [if_neg hx, Bool.eq_false_iff.2 hx, Bool.false_or]; exact firstIx_iff p l (i + 1) (by omega)
theorem firstIx_ge (p : SRule → Bool) (l : List SRule) (i : Int) (h : 0 ≤ i) : decide (firstIx p l i ≥ 0) = l.any p := by
  by_cases c : l.any p = true
  · rw [c]; exact decide_eq_true ((firstIx_iff p l i h).2 c)
  · rw [Bool.eq_false_iff.2 c]; exact decide_eq_false fun h' => c ((firstIx_iff p l i h).1 h')
theorem contains_ev (l : List SRule) (hm : l.length ≤ 100) (e t : Int) : Ev (fun k => impl_Rule_22.f k l e t) (hasR l e t) := by
  obtain ⟨K, h⟩ := index_l0 l hm e t l.length 0 (by omega)
  have h : ∀ k, K ≤ k → impl_Rule_29.f k l e t = some (firstIx (fun x => x.f0 == e && x.f1 == t) l 0) := h
  refine ⟨K, fun k hk => ?_⟩
  simp only [impl_Rule_22.f, h k hk, obind, firstIx_ge _ l 0 (by omega), hasR]
def stepN (z : Nat) : Nat := (z * 177 + 2221) % 10007
def evN (z : Nat) : Nat := stepN z % 9 + 2
def reN (z : Nat) : Nat := stepN (stepN z) % evN z
theorem stepN_le (z : Nat) : stepN z ≤ 10006 := by unfold stepN; omega
theorem evN_le (z : Nat) : evN z ≤ 10 := by unfold evN; omega
theorem evN_ge (z : Nat) : 2 ≤ evN z := by unfold evN; omega
theorem raw (z : Nat) (h : z ≤ 10006) : Int.tmod (wrap64 ((wrap64 ((z : Int) * 177)) + 2221)) 10007 = (stepN z : Int) := by
  rw [wrap_id (n := (z : Int) * 177) (by omega) (by omega), wrap_id (by omega) (by omega), Int.tmod_eq_emod_of_nonneg (by omega)]
  unfold stepN; omega
theorem nextZ_nat (z : Nat) (h : z ≤ 10006) : nextZ (z : Int) = (stepN z : Int) := raw z h
theorem ev_nat (z : Nat) : wrap64 (Int.tmod (stepN z : Int) 9 + 2) = (evN z : Int) := by
  have := stepN_le z
  rw [Int.tmod_eq_emod_of_nonneg (by omega), wrap_id (by omega) (by omega)]
  unfold evN; omega
theorem re_nat (z : Nat) : Int.tmod (stepN (stepN z) : Int) (evN z : Int) = (reN z : Int) := by
  rw [Int.tmod_eq_emod_of_nonneg (by omega)]
  unfold reN; exact (Int.natCast_emod _ _).symm
theorem reN_lt (z : Nat) : reN z < evN z := Nat.mod_lt _ (by have := evN_ge z; omega)
theorem ok_draw (z : Nat) : okRule ⟨(evN z : Int), (reN z : Int)⟩ = true := by
  have h1 := evN_le z; have h2 := evN_ge z; have h3 := reN_lt z
  exact (okRule_iff _).2 ⟨by show (2 : Int) ≤ (evN z : Int); omega, by show (evN z : Int) ≤ 60; omega, by show (0 : Int) ≤ (reN z : Int); omega, by show (reN z : Int) < (evN z : Int); omega⟩
def run (n : Nat) : Nat → Nat → List SRule → Option (List SRule)
  | 0, _, l => bif Nat.ble n l.length then some l else none
  | f + 1, z, l => bif Nat.ble n l.length then some l else bif hasR l (evN z) (reN z) then run n f (stepN (stepN z)) l else run n f (stepN (stepN z)) (l ++ [(⟨(evN z : Int), (reN z : Int)⟩ : SRule)])
def fin (a0 : Int) (n : Nat) : Option (List SRule) → ByteArray × Int × Bool
  | some l => (pat l a0, (n : Int), true)
  | none => ((⟨#[]⟩ : ByteArray), 0, false)
theorem ble_t {a b : Nat} (h : a ≤ b) : Nat.ble a b = true := by rw [Nat.ble_eq]; exact h
theorem ble_f {a b : Nat} (h : ¬ a ≤ b) : Nat.ble a b = false := by
  cases e : Nat.ble a b with
  | false => rfl
  | true => exact absurd (by rw [Nat.ble_eq] at e; exact e) h
theorem good_of {l : List SRule} (hl : l.all okRule = true) (hm : l.length ≤ 12) : goodRules l = true := by
  unfold goodRules; rw [hl, Bool.and_true]; exact decide_eq_true hm
theorem specMk_l0 (a0 : Int) (h0 : 1 ≤ a0) (h1 : a0 ≤ 48) (n : Nat) (hn : n ≤ 3) : ∀ (f z : Nat) (l : List SRule) (i : Int), i + f = 20 → 0 ≤ i → z ≤ 10006 → l.all okRule = true → l.length ≤ n → Ev (fun k => spec_MakePuzzle.l0 k a0 (n : Int) (z : Int) l i) (fin a0 n (run n f z l))
  | 0, z, l, i, hi, hi0, hz, hl, hm => by
    obtain ⟨K1, h2⟩ := specPattern_ev l (good_of hl (by omega)) a0 h0 h1
    dsimp only at h2
    refine ⟨K1 + 2, fun k hk => ?_⟩
    obtain ⟨k, rfl⟩ : ∃ j, k = j + 2 := ⟨k - 2, by omega⟩
    simp only [spec_MakePuzzle.l0, run]
    rw [if_neg (by omega)]
    simp only [spec_MakePuzzle.j2]
    rw [if_neg (by decide)]
    by_cases c : n ≤ l.length
    · rw [ble_t c, if_neg (by omega), h2 k (by omega), obind]; rfl
    · rw [ble_f c, if_pos (by omega)]; rfl
  | f + 1, z, l, i, hi, hi0, hz, hl, hm => by
    by_cases c : n ≤ l.length
    · obtain ⟨K1, h2⟩ := specPattern_ev l (good_of hl (by omega)) a0 h0 h1
      dsimp only at h2
      refine ⟨K1 + 2, fun k hk => ?_⟩
      obtain ⟨k, rfl⟩ : ∃ j, k = j + 2 := ⟨k - 2, by omega⟩
      simp only [spec_MakePuzzle.l0, run]
      rw [if_pos (by omega), decide_eq_false (by omega), ble_t c]
      simp only [spec_MakePuzzle.j2]
      rw [if_neg (by decide), if_neg (by omega), h2 k (by omega), obind]; rfl
    · obtain ⟨K1, h2⟩ := pzHas_ev l (by omega) (evN z) (reN z)
      dsimp only at h2
      have hs := stepN_le z
      have hs2 := stepN_le (stepN z)
      have he := evN_ge z
      cases hh : hasR l (evN z) (reN z) with
      | true =>
        obtain ⟨K2, ih⟩ := specMk_l0 a0 h0 h1 n hn f (stepN (stepN z)) l (i + 1) (by omega) (by omega) hs2 hl hm
        dsimp only at ih
        refine ⟨K1 + K2 + 2, fun k hk => ?_⟩
        obtain ⟨k, rfl⟩ : ∃ j, k = j + 2 := ⟨k - 2, by omega⟩
        simp only [spec_MakePuzzle.l0, run]
        rw [if_pos (by omega), decide_eq_true (by omega), ble_f c, hh]
        simp only [spec_MakePuzzle.j2, raw z hz, raw (stepN z) hs, ev_nat, re_nat, if_true]
        rw [if_neg (by omega), h2 k (by omega), obind, hh, if_pos rfl, wrap_id (by omega) (by omega), ih k (by omega)]; rfl
      | false =>
        obtain ⟨K2, ih⟩ := specMk_l0 a0 h0 h1 n hn f (stepN (stepN z)) (l ++ [(⟨(evN z : Int), (reN z : Int)⟩ : SRule)]) (i + 1) (by omega) (by omega) hs2 (by rw [List.all_append, hl]; simp [ok_draw]) (by simp; omega)
        dsimp only at ih
        refine ⟨K1 + K2 + 2, fun k hk => ?_⟩
        obtain ⟨k, rfl⟩ : ∃ j, k = j + 2 := ⟨k - 2, by omega⟩
        simp only [spec_MakePuzzle.l0, run]
        rw [if_pos (by omega), decide_eq_true (by omega), ble_f c, hh]
        simp only [spec_MakePuzzle.j2, raw z hz, raw (stepN z) hs, ev_nat, re_nat, if_true]
        rw [if_neg (by omega), h2 k (by omega), obind, hh, if_neg (by decide), if_pos (by omega), wrap_id (by omega) (by omega), ih k (by omega)]; rfl
theorem implMk_l0 (a0 : Int) (h0 : 1 ≤ a0) (h1 : a0 ≤ 48) (n : Nat) (hn : n ≤ 3) : ∀ (f z : Nat) (l l' : List SRule) (ag : Int), run n f z l = some l' → 0 ≤ ag → ag + f ≤ 20 → z ≤ 10006 → l.all okRule = true → l.length ≤ n → Ev (fun k => impl_MakePuzzle.l0 k a0 (n : Int) (z : Int) l ag) (pat l' a0, (n : Int), true)
  | 0, z, l, l', ag, hr, ha, hf, hz, hl, hm => by
    by_cases c : n ≤ l.length
    · simp only [run] at hr
      rw [ble_t c] at hr
      obtain rfl := Option.some.inj hr
      obtain ⟨K1, h2⟩ := patternOf_ev l hl a0 h0 h1
      dsimp only at h2
      refine Ev.mk' K1 fun k hk => ?_
      simp only [impl_MakePuzzle.l0]
      rw [if_neg (by omega), h2 k hk, obind]
    · simp only [run] at hr
      rw [ble_f c] at hr
      exact absurd hr (by simp)
  | f + 1, z, l, l', ag, hr, ha, hf, hz, hl, hm => by
    by_cases c : n ≤ l.length
    · simp only [run] at hr
      rw [ble_t c] at hr
      obtain rfl := Option.some.inj hr
      obtain ⟨K1, h2⟩ := patternOf_ev l hl a0 h0 h1
      dsimp only at h2
      refine Ev.mk' K1 fun k hk => ?_
      simp only [impl_MakePuzzle.l0]
      rw [if_neg (by omega), h2 k hk, obind]
    · simp only [run] at hr
      rw [ble_f c] at hr
      obtain ⟨K1, h2⟩ := contains_ev l (by omega) (evN z) (reN z)
      dsimp only at h2
      have hs := stepN_le z
      have hs2 := stepN_le (stepN z)
      have he := evN_ge z
      cases hh : hasR l (evN z) (reN z) with
      | true =>
        rw [hh] at hr
        obtain ⟨K2, ih⟩ := implMk_l0 a0 h0 h1 n hn f (stepN (stepN z)) l l' (ag + 1) hr (by omega) (by omega) hs2 hl hm
        dsimp only at ih
        refine Ev.mk' (K1 + K2) fun k hk => ?_
        simp only [impl_MakePuzzle.l0, nextZ_nat z hz, nextZ_nat (stepN z) hs, ev_nat, re_nat]
        rw [if_pos (by omega), if_neg (by omega), h2 k (by omega), obind, hh, if_pos rfl, if_neg (by omega), wrap_id (by omega) (by omega), ih k (by omega)]
      | false =>
        rw [hh] at hr
        obtain ⟨K2, ih⟩ := implMk_l0 a0 h0 h1 n hn f (stepN (stepN z)) (l ++ [(⟨(evN z : Int), (reN z : Int)⟩ : SRule)]) l' ag hr (by omega) (by omega) hs2 (by rw [List.all_append, hl]; simp [ok_draw]) (by simp; omega)
        dsimp only at ih
        refine Ev.mk' (K1 + K2) fun k hk => ?_
        simp only [impl_MakePuzzle.l0, nextZ_nat z hz, nextZ_nat (stepN z) hs, ev_nat, re_nat]
        rw [if_pos (by omega), if_neg (by omega), h2 k (by omega), obind, hh, if_neg (by decide), if_pos (by omega), ih k (by omega)]
theorem implMk_still (a0 : Int) (n : Nat) (hn : n ≤ 3) (l : List SRule) (hl : l.length < n) (hh : hasR l 5 2 = true) : ∀ (d : Nat) (ag : Int), ag + d = 20 → 0 ≤ ag → Ev (fun k => impl_MakePuzzle.l0 k a0 (n : Int) 3342 l ag) ((⟨#[]⟩ : ByteArray), 0, false)
  | 0, ag, h, h0 => by
    obtain ⟨K1, h2⟩ := contains_ev l (by omega) 5 2
    dsimp only at h2
    have e1 : nextZ 3342 = 3342 := (nextZ_nat 3342 (by omega)).trans (by decide)
    have e2 : wrap64 (Int.tmod 3342 9 + 2) = 5 := by rw [wrap_id (by decide) (by decide)]; decide
    have e3 : Int.tmod 3342 5 = 2 := by decide
    refine Ev.mk' K1 fun k hk => ?_
    simp only [impl_MakePuzzle.l0, e1, e2, e3]
    rw [if_pos (by omega), if_neg (by decide), h2 k hk, obind, hh, if_pos rfl, if_pos (by omega)]
  | d + 1, ag, h, h0 => by
    obtain ⟨K1, h2⟩ := contains_ev l (by omega) 5 2
    dsimp only at h2
    obtain ⟨K2, ih⟩ := implMk_still a0 n hn l hl hh d (ag + 1) (by omega) (by omega)
    dsimp only at ih
    have e1 : nextZ 3342 = 3342 := (nextZ_nat 3342 (by omega)).trans (by decide)
    have e2 : wrap64 (Int.tmod 3342 9 + 2) = 5 := by rw [wrap_id (by decide) (by decide)]; decide
    have e3 : Int.tmod 3342 5 = 2 := by decide
    refine Ev.mk' (K1 + K2) fun k hk => ?_
    simp only [impl_MakePuzzle.l0, e1, e2, e3]
    rw [if_pos (by omega), if_neg (by decide), h2 k (by omega), obind, hh, if_pos rfl, if_neg (by omega), wrap_id (by omega) (by omega), ih k (by omega)]
theorem run_mono (n m : Nat) (h : m ≤ n) : ∀ (f z : Nat) (l : List SRule), (run n f z l).isSome = true → (run m f z l).isSome = true
  | 0, z, l, hs => by
    by_cases c : n ≤ l.length
    · simp only [run]; rw [ble_t (by omega)]; rfl
    · simp only [run] at hs; rw [ble_f c] at hs; exact absurd hs (by simp)
  | f + 1, z, l, hs => by
    by_cases c : m ≤ l.length
    · simp only [run]; rw [ble_t c]; rfl
    · simp only [run] at hs ⊢
      rw [ble_f (by omega : ¬ n ≤ l.length)] at hs
      rw [ble_f c]
      cases hh : hasR l (evN z) (reN z) with
      | true => rw [hh] at hs; exact run_mono n m h f _ _ hs
      | false => rw [hh] at hs; exact run_mono n m h f _ _ hs
def allB : Nat → (Nat → Bool) → Bool
  | 0, _ => true
  | k + 1, f => f k && allB k f
theorem allB_ok (f : Nat → Bool) : ∀ k, allB k f = true → ∀ i, i < k → f i = true
  | 0, _, i, h => absurd h (by omega)
  | k + 1, hk, i, h => by
    simp only [allB, Bool.and_eq_true] at hk
    by_cases e : i = k
    · rw [e]; exact hk.1
    · exact allB_ok f k hk.2 i (by omega)
def seedOk (s : Nat) : Bool := (run 3 6 s []).isSome || Nat.beq s 3342
set_option maxRecDepth 1000000 in
theorem seeds_ok : allB 100 (fun a => allB 100 fun b => seedOk (100 * a + b)) = true := by kernel_rfl
theorem seed_ok (s : Nat) (h : s ≤ 9999) (hs : s ≠ 3342) : (run 3 6 s []).isSome = true := by
  have h1 := allB_ok _ 100 seeds_ok (s / 100) (by omega)
  have h2 := allB_ok _ 100 h1 (s % 100) (by omega)
  have e : 100 * (s / 100) + s % 100 = s := by omega
  rw [e] at h2
  unfold seedOk at h2
  rw [Bool.or_eq_true] at h2
  rcases h2 with h2 | h2
  · exact h2
  · exact absurd (Nat.eq_of_beq_eq_true h2) hs
theorem run_more (n : Nat) : ∀ (f z : Nat) (l l' : List SRule), run n f z l = some l' → ∀ g, f ≤ g → run n g z l = some l'
  | 0, z, l, l', hr, g, hg => by
    by_cases c : n ≤ l.length
    · simp only [run] at hr; rw [ble_t c] at hr
      cases g with
      | zero => simp only [run]; rw [ble_t c]; exact hr
      | succ g => simp only [run]; rw [ble_t c]; exact hr
    · simp only [run] at hr; rw [ble_f c] at hr; exact absurd hr (by simp)
  | f + 1, z, l, l', hr, g, hg => by
    obtain ⟨g, rfl⟩ : ∃ j, g = j + 1 := ⟨g - 1, by omega⟩
    by_cases c : n ≤ l.length
    · simp only [run] at hr ⊢; rw [ble_t c] at hr ⊢; exact hr
    · simp only [run] at hr ⊢; rw [ble_f c] at hr ⊢
      cases hh : hasR l (evN z) (reN z) with
      | true => rw [hh] at hr; exact run_more n f _ _ l' hr g (by omega)
      | false => rw [hh] at hr; exact run_more n f _ _ l' hr g (by omega)
def mkVal (a0 a1 a2 : Int) : ByteArray × Int × Bool := if (1 ≤ a0 ∧ a0 ≤ 48) ∧ (0 ≤ a1 ∧ a1 ≤ 3) ∧ 0 ≤ a2 ∧ a2 ≤ 9999 then fin a0 a1.toNat (run a1.toNat 20 a2.toNat []) else ((⟨#[]⟩ : ByteArray), 0, false)
theorem MakePuzzle_main (a0 a1 a2 : Int) : Ev (fun k => spec_MakePuzzle.f k a0 a1 a2) (mkVal a0 a1 a2) ∧ Ev (fun k => impl_MakePuzzle.f k a0 a1 a2) (mkVal a0 a1 a2) := by
  unfold mkVal
  by_cases hc : (1 ≤ a0 ∧ a0 ≤ 48) ∧ (0 ≤ a1 ∧ a1 ≤ 3) ∧ 0 ≤ a2 ∧ a2 ≤ 9999
  · rw [if_pos hc]
    obtain ⟨⟨h0, h1⟩, ⟨h2, h3⟩, h4, h5⟩ := hc
    have e0 : (decide (1 ≤ a0) && decide (a0 ≤ 48)) = true := by simp [h0, h1]
    have e1 : (decide (0 ≤ a1) && decide (a1 ≤ 3)) = true := by simp [h2, h3]
    have e2 : (decide (0 ≤ a2) && decide (a2 ≤ 9999)) = true := by simp [h4, h5]
    obtain ⟨n, rfl⟩ : ∃ n : Nat, a1 = (n : Int) := ⟨a1.toNat, by omega⟩
    obtain ⟨s, rfl⟩ : ∃ s : Nat, a2 = (s : Int) := ⟨a2.toNat, by omega⟩
    rw [Int.toNat_natCast, Int.toNat_natCast]
    have hn : n ≤ 3 := by omega
    have hs : s ≤ 9999 := by omega
    constructor
    · obtain ⟨K, h⟩ := specMk_l0 a0 h0 h1 n hn 20 s [] 0 (by omega) (by omega) (by omega) rfl (by simp)
      dsimp only at h
      refine Ev.mk' K fun k hk => ?_
      simp only [spec_MakePuzzle.f, l1In_ok, obind, e0, e1, e2, if_true]
      simp only [spec_MakePuzzle.j0, Bool.not_true, Bool.false_eq_true, if_false, h k hk]
    · have hb : ¬ (a0 < 1 ∨ a0 > 48 ∨ (n : Int) < 0 ∨ (n : Int) > 3 ∨ (s : Int) < 0 ∨ (s : Int) > 9999) := by omega
      have goal : Ev (fun k => impl_MakePuzzle.l0 k a0 (n : Int) (s : Int) [] 0) (fin a0 n (run n 20 s [])) := by
        cases hr : run n 20 s [] with
        | some l' => exact implMk_l0 a0 h0 h1 n hn 20 s [] l' 0 hr (by omega) (by omega) (by omega) rfl (by simp)
        | none =>
          by_cases hsd : s = 3342
          · subst hsd
            by_cases hn2 : 2 ≤ n
            · obtain ⟨K1, h6⟩ := contains_ev [] (by simp) 5 2
              dsimp only at h6
              obtain ⟨K2, h7⟩ := implMk_still a0 n hn [⟨5, 2⟩] (by simp; omega) rfl 20 0 (by omega) (by omega)
              dsimp only at h7
              have e1 : nextZ 3342 = 3342 := (nextZ_nat 3342 (by omega)).trans (by decide)
              have e2 : wrap64 (Int.tmod 3342 9 + 2) = 5 := by rw [wrap_id (by decide) (by decide)]; decide
              have e3 : Int.tmod 3342 5 = 2 := by decide
              refine Ev.mk' (K1 + K2) fun k hk => ?_
              have e4 : (((3342 : Nat) : Int)) = 3342 := rfl
              simp only [impl_MakePuzzle.l0, e4, e1, e2, e3]
              rw [if_pos (by simp; omega), if_neg (by decide), h6 k (by omega), obind, if_neg (by decide), if_pos (by simp), List.nil_append, h7 k (by omega)]; rfl
            · exfalso
              have : n = 0 ∨ n = 1 := by omega
              rcases this with rfl | rfl
              · exact absurd hr (by decide)
              · exact absurd hr (by decide)
          · exfalso
            have h6 := run_mono 3 n hn 6 s [] (seed_ok s hs hsd)
            obtain ⟨l', h7⟩ := Option.isSome_iff_exists.1 h6
            rw [run_more n 6 s [] l' h7 20 (by omega)] at hr
            exact absurd hr (by simp)
      obtain ⟨K, h⟩ := goal
      dsimp only at h
      refine ⟨K, fun k hk => ?_⟩
      simp only [impl_MakePuzzle.f]
      rw [if_neg hb, h k hk]
  · rw [if_neg hc]
    constructor
    · refine Ev.mk' 0 fun k hk => ?_
      simp only [spec_MakePuzzle.f, l1In_ok, obind]
      by_cases c1 : (decide (1 ≤ a0) && decide (a0 ≤ 48)) = true
      · rw [if_pos c1]
        by_cases c2 : (decide (0 ≤ a1) && decide (a1 ≤ 3)) = true
        · rw [if_pos c2]
          have c3 : (decide (0 ≤ a2) && decide (a2 ≤ 9999)) = false := by
            apply Bool.eq_false_iff.2; intro h
            simp only [Bool.and_eq_true, decide_eq_true_eq] at c1 c2 h
            exact hc ⟨c1, c2, h⟩
          rw [c3]; simp [spec_MakePuzzle.j0]
        · rw [if_neg c2]; simp [spec_MakePuzzle.j0]
      · rw [if_neg c1]; simp [spec_MakePuzzle.j0]
    · refine ⟨0, fun k _ => ?_⟩
      simp only [impl_MakePuzzle.f]
      rw [if_pos (by omega)]
end Go.Proofs.Ytjekkcjlfgfnkaa.P
namespace Go.Proofs.Ytjekkcjlfgfnkaa.P
open Go.RowKit Go.Proofs.YtjekkcjlfgfnkaaW.PrintWords Go.Proofs.YtjekkcjlfgfnkaaW.PrintLast
set_option linter.unusedVariables false
set_option linter.unusedSimpArgs false
theorem eqPuzzle_self (s : ByteArray) (n : Int) : laws_eqPuzzle.f s n s n = some true := by simp [laws_eqPuzzle.f]
theorem FnExactMakePuzzle : laws_FnExactMakePuzzle.Pure := by
  intro a0 a1 a2 w0 w1 w2
  obtain ⟨⟨K1, h1⟩, ⟨K2, h2⟩⟩ := MakePuzzle_main a0 a1 a2
  dsimp only at h1 h2
  refine ⟨K1 + K2, ?_⟩
  simp (disch := omega) only [laws_FnExactMakePuzzle.f, h1, h2, obind, eqPuzzle_self, bne_self_eq_false, Bool.false_eq_true, if_false, if_true]
end Go.Proofs.Ytjekkcjlfgfnkaa.P
