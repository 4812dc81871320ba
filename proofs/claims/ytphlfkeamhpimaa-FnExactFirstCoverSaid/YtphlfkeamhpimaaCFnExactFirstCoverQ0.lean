/- The plain laws on what the functions answer; the last one: the law FnExactFirstCover answers true for all arguments. Proved in this text: its theorems. Conditions: as each theorem states them. -/
import Derived.Test.YtphlfkeamhpimaaCFnExactFirstCoverP
import Derived.Test.YtphlfkeamhpimaaCFnExactFirstCoverF0
import Derived.Test.YtphlfkeamhpimaaCFnExactFirstCoverF1
import Derived.Deep.Slices
import Derived.Deep.Fields
import Derived.ChangeSame
import Derived.ChangeSlices
import Derived.Lib.SmallJoins
import Derived.ProofKit
import Derived.OpenShut
import Derived.ShutString
import Derived.ChangeOld
import Derived.SizedLaws
namespace Go.Proofs.Ytphlfkeamhpimaa.P
open Go.RowKit Go.Proofs.YtphlfkeamhpimaaW.PrintWords Go.Proofs.YtphlfkeamhpimaaW.PrintLast
set_option linter.unusedVariables false
set_option linter.unusedSimpArgs false
section
open Go.ChangeShapes Go.WideShapes Go.Deep Go.ChangeAt
variable {H : Type} {enc : TypeId × Value → H} {P : Program} {w : World} {base : Nat} {spare : Nat → Bool} {held : Bool}
theorem open_pairs {t e : TypeId} {f0 f1 : Field} {fuel : Nat} {v : Value} {x : DataW H × List MemPlace} (ht : P.underlying t = some (.slice e)) (he : P.underlying e = some (.struct #[f0, f1]))
    (hone : oneCellFields P #[f0, f1] = true) (hC : P.cellsOf e = 2) (h0 : P.underlying f0.type = some (.int .i64)) (h1 : P.underlying f1.type = some (.int .i64)) (h : DataW.trod enc P w base spare held fuel t [v] = some x) :
    ∃ (a : Option Addr) (len cap : Nat) (l : List (Int × Int)), v = .slice a len cap ∧ len = l.length ∧ len ≤ cap ∧ l.length ≤ 9223372036854775807 ∧ (∀ p ∈ l, (Lit.int .i64 p.1).wf = true ∧ (Lit.int .i64 p.2).wf = true) ∧
      (0 < l.length → ∃ ad, a = some ad ∧ ∀ j p, l[j]? = some p → w.cell? (ad.add (j * 2)) = some (.int .i64 p.1) ∧ w.cell? (ad.add (j * 2 + 1)) = some (.int .i64 p.2)) := by
  rcases open_slice ht h with ⟨hcs, -⟩ | ⟨a, len, cap, m, n, D, Pl, hcs, hb, hl, hm, hmm, hx, hi⟩
  · simp at hcs
    exact ⟨none, 0, 0, [], hcs, rfl, Nat.le_refl _, by simp, by simp, by simp⟩
  · simp at hcs
    have hlm : len ≤ m := by rw [hmm]; split <;> omega
    have hget : ∀ i, i < len → ∃ p : Int × Int, w.cell? (a.add (i * 2)) = some (.int .i64 p.1) ∧ w.cell? (a.add (i * 2 + 1)) = some (.int .i64 p.2) ∧ (Lit.int .i64 p.1).wf = true ∧ (Lit.int .i64 p.2).wf = true := by
      intro i him
      obtain ⟨cs', hc, ht'⟩ := hi i (by omega)
      rw [hC] at hc
      obtain ⟨y0, y1, n', hy, -, t0, t1⟩ := trod_struct2 he ht'
      obtain ⟨_, hcl, hat⟩ := World.cells?_some hc
      obtain ⟨o0, k0⟩ := hone_of hone 0 f0 rfl
      obtain ⟨o1, k1⟩ := hone_of hone 1 f1 rfl
      have c0 := hat (i := 0) (by omega)
      have c1 := hat (i := 1) (by omega)
      match cs', hcl with
      | [u0, u1], _ =>
        simp only [o0, k0, List.drop_zero, List.take_succ_cons, List.take_zero] at t0
        simp only [o1, k1, List.drop_succ_cons, List.drop_zero, List.take_succ_cons, List.take_zero] at t1
        obtain ⟨z0, e0, -, w0⟩ := DataW.trod_int h0 t0
        obtain ⟨z1, e1, -, w1⟩ := DataW.trod_int h1 t1
        simp at e0 e1
        subst e0 e1
        refine ⟨(z0, z1), ?_, ?_, w0, w1⟩
        · simpa [Go.Deep.add_add] using c0
        · simpa [Go.Deep.add_add] using c1
    let g : Nat → Int × Int := fun i => if hi : i < len then (hget i hi).choose else (0, 0)
    have hg : ∀ i, i < len → w.cell? (a.add (i * 2)) = some (.int .i64 (g i).1) ∧ w.cell? (a.add (i * 2 + 1)) = some (.int .i64 (g i).2) ∧ (Lit.int .i64 (g i).1).wf = true ∧ (Lit.int .i64 (g i).2).wf = true := by
      intro i hi
      have := (hget i hi).choose_spec
      simpa [g, hi] using this
    refine ⟨some a, len, cap, (List.range len).map g, hcs, by simp, hl, by simp; unfold maxLen at hm; omega, ?_, ?_⟩
    · intro p hp
      simp at hp
      obtain ⟨i, hi, rfl⟩ := hp
      exact ⟨(hg i hi).2.2.1, (hg i hi).2.2.2⟩
    · intro _
      refine ⟨a, rfl, fun j p hj => ?_⟩
      simp [List.getElem?_map] at hj
      obtain ⟨i, hij, rfl⟩ := hj
      have hjl : j < len := by
        have := (List.getElem?_eq_some_iff.1 hij).1
        simpa using this
      have : i = j := by
        have := List.getElem?_range hjl
        rw [this] at hij
        simpa using hij.symm
      subst this
      exact ⟨(hg i hjl).1, (hg i hjl).2.1⟩
theorem open_nums {t e : TypeId} {k : IntKind} {fuel : Nat} {v : Value} {x : DataW H × List MemPlace} (ht : P.underlying t = some (.slice e)) (he : P.underlying e = some (.int k)) (hc : P.cellsOf e = 1)
    (h : DataW.trod enc P w base spare held fuel t [v] = some x) :
    ∃ (a : Option Addr) (len cap : Nat) (l : List Int), v = .slice a len cap ∧ len = l.length ∧ len ≤ cap ∧ l.length ≤ 9223372036854775807 ∧ (∀ n ∈ l, (Lit.int k n).wf = true) ∧ (Kd.int k).C w a l.length l := by
  rcases open_ints ht he hc h with ⟨hcs, -⟩ | ⟨a, len, cap, zs, hcs, hb, hl, hm, hz, hx, hcell, hwf⟩
  · simp at hcs
    exact ⟨none, 0, 0, [], hcs, rfl, Nat.le_refl _, by simp, by simp, Kd.C_nil _ _⟩
  · simp at hcs
    have hlz : len ≤ zs.length := by rw [hz]; split <;> omega
    have hlen : (zs.take len).length = len := by simp; omega
    have hmax : (zs.take len).length ≤ 9223372036854775807 := by rw [hlen]; unfold maxLen at hm; omega
    refine ⟨some a, len, cap, zs.take len, hcs, hlen.symm, hl, hmax, fun n hn => hwf n (List.mem_of_mem_take hn), ?_⟩
    refine Kd.C_of_reads (d := (0 : Int)) (h1 := fun _ => rfl) ⟨rfl, hmax, fun hn => ⟨a, rfl, fun i hi => ?_⟩⟩
    rw [hlen] at hi
    rw [hcell i (by omega)]
    congr 2
    simp [List.getD, hi]
end
end Go.Proofs.Ytphlfkeamhpimaa.P
namespace Go.Proofs.Ytphlfkeamhpimaa.P
open Go.RowKit Go.Proofs.YtphlfkeamhpimaaW.PrintWords Go.Proofs.YtphlfkeamhpimaaW.PrintLast
set_option linter.unusedVariables false
set_option linter.unusedSimpArgs false
theorem Ev.get {α : Type} {g : Nat → Option α} {r : α} (h : Ev g r) : ∃ K, ∀ k, K ≤ k → g k = some r := h
theorem Ev.mk' {α : Type} {g : Nat → Option α} {r : α} (K : Nat) (h : ∀ k, K ≤ k → g (k + 1) = some r) : Ev g r :=
  ⟨K + 1, fun k hk => by obtain ⟨m, rfl⟩ : ∃ m, k = m + 1 := ⟨k - 1, by omega⟩; exact h m (by omega)⟩
theorem Ev.pos {α : Type} {c : Prop} [Decidable c] {g f : Nat → Option α} {r : α} (hc : c) (h : Ev g r) : Ev (fun k => if c then g k else f k) r := by
  obtain ⟨K, h⟩ := h
  exact ⟨K, fun k hk => by show (if c then g k else f k) = some r; rw [if_pos hc]; exact h k hk⟩
theorem Ev.neg {α : Type} {c : Prop} [Decidable c] {g f : Nat → Option α} {r : α} (hc : ¬ c) (h : Ev f r) : Ev (fun k => if c then g k else f k) r := by
  obtain ⟨K, h⟩ := h
  exact ⟨K, fun k hk => by show (if c then g k else f k) = some r; rw [if_neg hc]; exact h k hk⟩
theorem Ev.let_ {α β : Type} {f : Nat → α → Option β} {a : α} {r : β} (k : Ev (fun n => f n a) r) : Ev (fun n => (some a).bind (f n)) r := k
theorem Ev.some_ {α : Type} {a r : α} (h : a = r) : Ev (fun _ => some a) r := ⟨0, fun _ _ => by rw [h]⟩
theorem Ev.eq_ {α : Type} {g : Nat → Option α} {a r : α} (h : Ev g a) (e : a = r) : Ev g r := e ▸ h
theorem wrap_id {n : Int} (h1 : -9223372036854775808 ≤ n) (h2 : n ≤ 9223372036854775807) : wrap64 n = n := by unfold wrap64; omega
theorem wf_int {n : Int} (h : (Lit.int .i64 n).wf = true) : -9223372036854775808 ≤ n ∧ n ≤ 9223372036854775807 := by
  unfold Lit.wf at h
  simp only [Bool.and_eq_true, decide_eq_true_eq] at h
  exact h
theorem obind {α β : Type} (a : α) (f : α → Option β) : (some a).bind f = f a := id rfl
end Go.Proofs.Ytphlfkeamhpimaa.P
namespace Go.Proofs.Ytphlfkeamhpimaa.P
open Go.RowKit Go.Proofs.YtphlfkeamhpimaaW.PrintWords Go.Proofs.YtphlfkeamhpimaaW.PrintLast
set_option linter.unusedVariables false
set_option linter.unusedSimpArgs false
theorem take_setI {α : Type} (l : List α) (i : Nat) (v : α) (h : i < l.length) : (l.set i v).take (i + 1) = l.take i ++ [v] := by
  rw [List.take_succ_eq_append_getElem (by simpa using h)]
  simp only [List.take_set, List.getElem_set_self]
  rw [List.set_eq_of_length_le (by simp; omega)]
def marksI (a : Int) : Nat → List Int
  | 0 => []
  | n + 1 => a :: marksI (a + 1) n
theorem marksI_length (n : Nat) : ∀ a, (marksI a n).length = n := by
  induction n with
  | zero => intro a; rfl
  | succ n ih => intro a; simp [marksI, ih]
theorem markIntS_l0 : ∀ (d i : Nat) (a : Int) (x : List Int), i + d = x.length → 0 ≤ a → a + d ≤ 4611686018427387904 → x.length ≤ 4611686018427387904 → Ev (fun k => laws_markIntS.l0 k x a i) (a + d, x.take i ++ marksI a d)
  | 0, i, a, x, h, h0, h1, h2 => Ev.mk' 0 fun k _ => by
    simp only [laws_markIntS.l0]
    rw [if_neg (by omega), List.take_of_length_le (by omega)]; simp [marksI]
  | d + 1, i, a, x, h, h0, h1, h2 => by
    obtain ⟨K, ih⟩ := markIntS_l0 d (i + 1) (a + 1) (x.set i a) (by simp; omega) (by omega) (by omega) (by simpa using h2)
    dsimp only at ih
    refine Ev.mk' K fun k hk => ?_
    simp only [laws_markIntS.l0, Int.toNat_natCast]
    rw [if_pos (by omega), if_pos (by omega)]
    rw [show wrap64 ((i : Int) + 1) = ((i + 1 : Nat) : Int) from wrap_id (by omega) (by omega), show wrap64 (a + 1) = a + 1 from wrap_id (by omega) (by omega)]
    have := ih k hk
    rw [take_setI x i _ (by omega)] at this
    rw [this, marksI]
    simp; omega
theorem markIntS_ev (x : List Int) (a : Int) (h0 : 0 ≤ a) (h1 : a + x.length ≤ 4611686018427387904) (h2 : x.length ≤ 4611686018427387904) : Ev (fun k => laws_markIntS.f k x a) (a + x.length, marksI a x.length) := by
  obtain ⟨K, ih⟩ := markIntS_l0 x.length 0 a x (by omega) h0 h1 h2
  refine ⟨K, fun k hk => ?_⟩
  simp only [laws_markIntS.f]
  simpa using ih k hk
end Go.Proofs.Ytphlfkeamhpimaa.P
namespace Go.Proofs.Ytphlfkeamhpimaa.P
open Go.RowKit Go.Proofs.YtphlfkeamhpimaaW.PrintWords Go.Proofs.YtphlfkeamhpimaaW.PrintLast
set_option linter.unusedVariables false
set_option linter.unusedSimpArgs false
theorem rd_dropT (l : List Int) (k : Nat) (h : k < l.length) : l.drop k = rd l k :: l.drop (k + 1) := by
  rw [List.drop_eq_getElem_cons h]
  simp [rd, List.getD, h]
theorem toIntS_l0 (l : List Int) (hm : l.length ≤ 17592186044416) : ∀ (d i : Nat) (x : List Int), i + d = l.length → x.length = l.length → Ev (fun k => laws_toIntS.l0 k l x i) (x.take i ++ l.drop i)
  | 0, i, x, h, hx => Ev.mk' 0 fun k _ => by
    simp only [laws_toIntS.l0]
    rw [if_neg (by omega), List.drop_eq_nil_of_le (by omega), List.take_of_length_le (by omega)]; simp
  | d + 1, i, x, h, hx => by
    obtain ⟨K, ih⟩ := toIntS_l0 l hm d (i + 1) (x.set i (rd l i)) (by omega) (by simpa using hx)
    dsimp only at ih
    refine Ev.mk' K fun k hk => ?_
    have ih := ih k hk
    rw [take_setI x i _ (by omega)] at ih
    simp only [laws_toIntS.l0]
    rw [if_pos (by omega), if_pos (by omega), if_pos (by omega), Int.toNat_natCast]
    rw [show wrap64 ((i : Int) + 1) = ((i + 1 : Nat) : Int) from wrap_id (by omega) (by omega), ih, rd_dropT l i (by omega)]
    simp
theorem toIntS_ev (l : List Int) (hm : l.length ≤ 17592186044416) : Ev (fun k => laws_toIntS.f k l) l := by
  obtain ⟨K, ih⟩ := toIntS_l0 l hm l.length 0 (List.replicate l.length 0) (by omega) (by simp)
  dsimp only at ih
  refine ⟨K, fun k hk => ?_⟩
  simp only [laws_toIntS.f]
  rw [if_pos (by omega), if_pos (by simp; omega)]
  simpa using ih k hk
end Go.Proofs.Ytphlfkeamhpimaa.P
namespace Go.Proofs.Ytphlfkeamhpimaa.P
open Go.RowKit Go.Proofs.YtphlfkeamhpimaaW.PrintWords Go.Proofs.YtphlfkeamhpimaaW.PrintLast
set_option linter.unusedVariables false
set_option linter.unusedSimpArgs false
theorem rd_dropI (l : List Int) (k : Nat) (h : k < l.length) : l.drop k = rd l k :: l.drop (k + 1) := by
  rw [List.drop_eq_getElem_cons h]
  simp [rd, List.getD, h]
theorem eqIntS_l0 (l : List Int) (hm : l.length ≤ 17592186044416) : ∀ (d i : Nat), i + d = l.length → Ev (fun k => laws_eqIntS.l0 k l l i) true
  | 0, i, h => Ev.mk' 0 fun k _ => by
    simp only [laws_eqIntS.l0]
    rw [if_neg (by omega)]
  | d + 1, i, h => by
    obtain ⟨K, ih⟩ := eqIntS_l0 l hm d (i + 1) (by omega)
    dsimp only at ih
    refine Ev.mk' K fun k hk => ?_
    simp only [laws_eqIntS.l0]
    rw [if_pos (by omega), if_pos (by omega), if_pos (by omega), if_pos trivial]
    rw [show wrap64 ((i : Int) + 1) = ((i + 1 : Nat) : Int) from wrap_id (by omega) (by omega)]
    exact ih k hk
theorem eqIntS_ev (l : List Int) (hm : l.length ≤ 17592186044416) : Ev (fun k => laws_eqIntS.f k l l) true := by
  obtain ⟨K, ih⟩ := eqIntS_l0 l hm l.length 0 (by omega)
  refine ⟨K, fun k hk => ?_⟩
  simp only [laws_eqIntS.f]
  rw [if_pos trivial]
  exact ih k hk
end Go.Proofs.Ytphlfkeamhpimaa.P
namespace Go.Proofs.Ytphlfkeamhpimaa.P
open Go.RowKit Go.Proofs.YtphlfkeamhpimaaW.PrintWords Go.Proofs.YtphlfkeamhpimaaW.PrintLast
set_option linter.unusedVariables false
set_option linter.unusedSimpArgs false
theorem rd_dropP (l : List Int) (k : Nat) (h : k < l.length) : l.drop k = rd l k :: l.drop (k + 1) := by
  rw [List.drop_eq_getElem_cons h]
  simp [rd, List.getD, h]
def isSix (x : Int) : Bool := x == 2 || (x == 3 || (x == 5 || (x == 7 || (x == 11 || x == 13))))
def incF : Int → List Int → Bool
  | _, [] => true
  | a, b :: t => decide (a < b) && incF b t
def inc : List Int → Bool
  | [] => true
  | a :: t => incF a t
def primeList (l : List Int) : Bool := decide (l.length ≤ 5) && (l.all isSix && inc l)
theorem reIs_ev (x : Int) : Ev (fun k => spec_reIs.f k x) (isSix x) := by
  refine ⟨7, fun k hk => ?_⟩
  obtain ⟨k, rfl⟩ : ∃ m, k = m + 7 := ⟨k - 7, by omega⟩
  unfold isSix
  simp only [spec_reIs.f, spec_reIs.l0, spec_rePrime.f, wrap64]
  by_cases h0 : (2 : Int) = x
  · subst h0; rfl
  by_cases h1 : (3 : Int) = x
  · subst h1; rfl
  by_cases h2 : (5 : Int) = x
  · subst h2; rfl
  by_cases h3 : (7 : Int) = x
  · subst h3; rfl
  by_cases h4 : (11 : Int) = x
  · subst h4; rfl
  by_cases h5 : (13 : Int) = x
  · subst h5; rfl
  have e0 : ¬ x = 2 := fun e => h0 e.symm
  have e1 : ¬ x = 3 := fun e => h1 e.symm
  have e2 : ¬ x = 5 := fun e => h2 e.symm
  have e3 : ¬ x = 7 := fun e => h3 e.symm
  have e4 : ¬ x = 11 := fun e => h4 e.symm
  have e5 : ¬ x = 13 := fun e => h5 e.symm
  simp [h0, h1, h2, h3, h4, h5, e0, e1, e2, e3, e4, e5, obind]
theorem isOneOfSix_ev (x : Int) : Ev (fun k => impl_isOneOfSix.f k x) (isSix x) := by
  refine ⟨7, fun k hk => ?_⟩
  obtain ⟨k, rfl⟩ : ∃ m, k = m + 7 := ⟨k - 7, by omega⟩
  unfold isSix
  simp only [impl_isOneOfSix.f, impl_firstSix.f, obind, slices_Contains_int_int.f, slices_Index_int_int.f, slices_Index_int_int.l0, wrap64, rd]
  by_cases h0 : x = 2
  · subst h0; rfl
  by_cases h1 : x = 3
  · subst h1; rfl
  by_cases h2 : x = 5
  · subst h2; rfl
  by_cases h3 : x = 7
  · subst h3; rfl
  by_cases h4 : x = 11
  · subst h4; rfl
  by_cases h5 : x = 13
  · subst h5; rfl
  simp [h0, h1, h2, h3, h4, h5, obind]
theorem has_l0 (x : Int) (l : List Int) (hm : l.length ≤ 4611686018427387904) : ∀ (d i : Nat), i + d = l.length → Ev (fun k => spec_l1Has.l0 k x l l.length i) ((l.drop i).any (fun y => y == x))
  | 0, i, h => Ev.mk' 0 fun k _ => by
    simp only [spec_l1Has.l0]
    rw [if_neg (by omega), List.drop_eq_nil_of_le (by omega)]; rfl
  | d + 1, i, h => by
    obtain ⟨K, ih⟩ := has_l0 x l hm d (i + 1) (by omega)
    dsimp only at ih
    refine Ev.mk' K fun k hk => ?_
    simp only [spec_l1Has.l0]
    rw [if_pos (by omega), if_pos (by omega), if_pos (by omega), rd_dropP l i (by omega), List.any_cons]
    rw [show wrap64 ((i : Int) + 1) = ((i + 1 : Nat) : Int) from wrap_id (by omega) (by omega), ih k hk]
    by_cases hc : rd l i = x
    · rw [if_pos hc]; simp [hc]
    · rw [if_neg hc]; simp [hc]
theorem has_ev (x : Int) (l : List Int) (hm : l.length ≤ 4611686018427387904) : Ev (fun k => spec_l1Has.f k l x) (l.any (fun y => y == x)) := by
  obtain ⟨K, ih⟩ := has_l0 x l hm l.length 0 (by omega)
  exact ⟨K, fun k hk => ih k hk⟩
def allNd : List Int → List Int → Bool
  | _, [] => true
  | pre, x :: t => isSix x && (!(pre.any (fun y => y == x)) && allNd (pre ++ [x]) t)
theorem rePrimes_l0 (l : List Int) (hm : l.length ≤ 4611686018427387904) : ∀ (d i : Nat), i + d = l.length → Ev (fun k => spec_rePrimes.l0 k l l l.length i) (allNd (l.take i) (l.drop i))
  | 0, i, h => Ev.mk' 0 fun k _ => by
    simp only [spec_rePrimes.l0]
    rw [if_neg (by omega), List.drop_eq_nil_of_le (by omega)]; rfl
  | d + 1, i, h => by
    obtain ⟨K, ih⟩ := rePrimes_l0 l hm d (i + 1) (by omega)
    obtain ⟨K1, h1⟩ := reIs_ev (rd l i)
    obtain ⟨K2, h2⟩ := has_ev (rd l i) (l.take i) (by simp; omega)
    dsimp only at ih h1 h2
    refine Ev.mk' (K + K1 + K2) fun k hk => ?_
    have e : l.take (i + 1) = l.take i ++ [rd l i] := by
      rw [List.take_succ_eq_append_getElem (by omega)]
      simp [rd, List.getD, show i < l.length by omega]
    have ih := ih k (by omega)
    rw [e] at ih
    simp only [spec_rePrimes.l0]
    rw [if_pos (by omega), if_pos (by omega), if_pos (by omega), h1 k (by omega), obind, if_pos (show (i : Int) ≤ (l.length : Int) by omega), Int.toNat_natCast, h2 k (by omega), obind]
    rw [show wrap64 ((i : Int) + 1) = ((i + 1 : Nat) : Int) from wrap_id (by omega) (by omega), ih, rd_dropP l i (by omega), allNd]
    cases isSix (rd l i) <;> cases (l.take i).any (fun y => y == rd l i) <;> simp
theorem rePrimes_ev (l : List Int) : Ev (fun k => spec_rePrimes.f k l) (decide (l.length ≤ 6) && allNd [] l) := by
  by_cases h : l.length ≤ 6
  · obtain ⟨K, ih⟩ := rePrimes_l0 l (by omega) l.length 0 (by omega)
    have ih : ∀ k, K ≤ k → spec_rePrimes.l0 k l l l.length 0 = _ := ih
    refine ⟨K, fun k hk => ?_⟩
    simp only [spec_rePrimes.f]
    rw [if_neg (by omega), ih k hk]
    simp [h]
  · refine ⟨0, fun k _ => ?_⟩
    simp only [spec_rePrimes.f]
    rw [if_pos (by omega)]; simp [h]
theorem gpPrimes_l0 (l : List Int) (hm : l.length ≤ 4611686018427387904) : ∀ (d i : Nat), i + 1 + d = l.length → Ev (fun k => spec_gpPrimes.l0 k l ((i + 1 : Nat) : Int)) (incF (rd l i) (l.drop (i + 1)))
  | 0, i, h => Ev.mk' 0 fun k _ => by
    simp only [spec_gpPrimes.l0]
    rw [if_neg (by omega), List.drop_eq_nil_of_le (by omega)]; rfl
  | d + 1, i, h => by
    obtain ⟨K, ih⟩ := gpPrimes_l0 l hm d (i + 1) (by omega)
    dsimp only at ih
    refine Ev.mk' K fun k hk => ?_
    simp only [spec_gpPrimes.l0]
    rw [show wrap64 (((i + 1 : Nat) : Int) - 1) = (i : Int) by rw [wrap_id (by omega) (by omega)]; omega]
    rw [if_pos (by omega), if_pos (by omega), if_pos (by omega), if_pos (by omega)]
    rw [show wrap64 (((i + 1 : Nat) : Int) + 1) = ((i + 1 + 1 : Nat) : Int) from wrap_id (by omega) (by omega), ih k hk, rd_dropP l (i + 1) (by omega), incF]
    generalize rd l ((i + 1 : Nat) : Int) = v
    by_cases hc : rd l i < v
    · rw [if_neg (by omega)]; simp [hc]
    · rw [if_pos (by omega)]; simp [hc]
theorem gpPrimes_l (l : List Int) (hm : l.length ≤ 4611686018427387904) : Ev (fun k => spec_gpPrimes.l0 k l 1) (inc l) := by
  cases l with
  | nil =>
    refine Ev.mk' 0 fun k _ => ?_
    simp only [spec_gpPrimes.l0]
    rw [if_neg (by simp)]; rfl
  | cons x t =>
    obtain ⟨K, ih⟩ := gpPrimes_l0 (x :: t) hm t.length 0 (by simp; omega)
    exact ⟨K, fun k hk => ih k hk⟩
theorem nd_of_inc : ∀ (t pre : List Int) (a : Int), incF a t = true → (∀ y ∈ pre, y ≤ a) → allNd pre t = t.all isSix
  | [], _, _, _, _ => rfl
  | b :: t, pre, a, hi, hp => by
    simp only [incF, Bool.and_eq_true, decide_eq_true_eq] at hi
    have h1 : pre.any (fun y => y == b) = false := by
      rw [List.any_eq_false]
      intro y hy
      have := hp y hy
      simp; omega
    rw [allNd, h1, nd_of_inc t (pre ++ [b]) b hi.2 (fun y hy => by
      simp only [List.mem_append, List.mem_singleton] at hy
      rcases hy with hy | rfl
      · have := hp y hy; omega
      · exact Int.le_refl _)]
    simp
theorem nd_inc (l : List Int) (h : inc l = true) : allNd [] l = l.all isSix := by
  cases l with
  | nil => rfl
  | cons x t =>
    rw [allNd, nd_of_inc t ([] ++ [x]) x h (by simp)]
    simp
theorem gpPrimes_ev (l : List Int) : Ev (fun k => spec_gpPrimes.f k l) (primeList l) := by
  unfold primeList
  by_cases h : l.length ≤ 5
  · obtain ⟨K1, h1⟩ := rePrimes_ev l
    obtain ⟨K2, h2⟩ := gpPrimes_l l (by omega)
    dsimp only at h1 h2
    refine Ev.mk' (K1 + K2) fun k hk => ?_
    simp (disch := omega) only [spec_gpPrimes.f, h1, obind]
    rw [if_neg (by omega)]
    simp (disch := omega) only [spec_gpPrimes.j0, h2]
    have h6 : l.length ≤ 6 := by omega
    cases hi : inc l
    · cases allNd [] l <;> simp [h, h6]
    · rw [nd_inc l hi]
      cases l.all isSix <;> simp [h, h6]
  · refine Ev.mk' 0 fun k _ => ?_
    simp only [spec_gpPrimes.f, spec_gpPrimes.j0]
    rw [if_pos (by omega)]; simp [h]
theorem arePrimeList_l0 (l : List Int) (hm : l.length ≤ 4611686018427387904) : ∀ (d i : Nat), i + 1 + d = l.length → Ev (fun k => impl_arePrimeList.l0 k l l l.length ((i + 1 : Nat) : Int)) (decide (l.length ≤ 5) && ((l.drop (i + 1)).all isSix && incF (rd l i) (l.drop (i + 1))))
  | 0, i, h => Ev.mk' 0 fun k _ => by
    simp only [impl_arePrimeList.l0]
    rw [if_neg (by omega), List.drop_eq_nil_of_le (by omega)]
    congr 1
    rw [Bool.eq_iff_iff]; simp [incF]; omega
  | d + 1, i, h => by
    obtain ⟨K, ih⟩ := arePrimeList_l0 l hm d (i + 1) (by omega)
    obtain ⟨K1, h1⟩ := isOneOfSix_ev (rd l ((i + 1 : Nat) : Int))
    dsimp only at ih h1
    refine Ev.mk' (K + K1) fun k hk => ?_
    simp only [impl_arePrimeList.l0]
    rw [show wrap64 (((i + 1 : Nat) : Int) - 1) = (i : Int) by rw [wrap_id (by omega) (by omega)]; omega]
    rw [if_pos (by omega), if_pos (by omega), if_pos (by omega), h1 k (by omega), obind, if_pos (show ((i + 1 : Nat) : Int) > 0 by omega), if_pos (show (0 : Int) ≤ (i : Int) by omega), if_pos (show (i : Int) < (l.length : Int) by omega)]
    rw [show wrap64 (((i + 1 : Nat) : Int) + 1) = ((i + 1 + 1 : Nat) : Int) from wrap_id (by omega) (by omega), ih k (by omega), rd_dropP l (i + 1) (by omega), incF, List.all_cons]
    generalize rd l ((i + 1 : Nat) : Int) = v
    cases isSix v
    · simp
    · by_cases hc : rd l i < v
      · rw [if_pos rfl, if_neg (show ¬ rd l i ≥ v by omega)]; simp [hc]
      · rw [if_pos rfl, if_pos (show rd l i ≥ v by omega)]; simp [hc]
theorem arePrimeList_ev (l : List Int) (hm : l.length ≤ 4611686018427387904) : Ev (fun k => impl_arePrimeList.f k l) (primeList l) := by
  unfold primeList
  cases l with
  | nil =>
    refine Ev.mk' 0 fun k _ => ?_
    simp only [impl_arePrimeList.f, impl_arePrimeList.l0]
    rw [if_neg (by simp)]; rfl
  | cons x t =>
    obtain ⟨K, ih⟩ := arePrimeList_l0 (x :: t) hm t.length 0 (by simp; omega)
    obtain ⟨K1, h1⟩ := isOneOfSix_ev x
    have ih : ∀ k, K ≤ k → impl_arePrimeList.l0 k (x :: t) (x :: t) (x :: t).length 1 = _ := ih
    dsimp only at h1
    have hr : rd (x :: t) 0 = x := rfl
    have hw : wrap64 (0 + 1) = 1 := wrap_id (by omega) (by omega)
    refine Ev.mk' (K + K1) fun k hk => ?_
    simp only [impl_arePrimeList.f, impl_arePrimeList.l0]
    rw [if_pos (by simp), if_pos (by omega), if_pos (by simp), hr, h1 k (by omega), obind, if_neg (show ¬ (0 : Int) > 0 by omega), hw, ih k (by omega), List.all_cons, inc]
    cases isSix x
    · simp
    · simp [hr]
def withoutL : List Int → List SRule
  | [] => []
  | p :: t => ⟨p, 0⟩ :: withoutL t
theorem withoutL_length : ∀ l, (withoutL l).length = l.length
  | [] => rfl
  | p :: t => by simp [withoutL, withoutL_length t]
theorem without_l0 (l : List Int) (hm : l.length ≤ 5) : ∀ (d i : Nat) (acc : List SRule), i + d = l.length → acc.length ≤ i → Ev (fun k => spec_RulesWithout.l0 k acc l l.length i) (acc ++ withoutL (l.drop i), true) ∧ Ev (fun k => impl_RulesWithout.l0 k acc l l.length i) (acc ++ withoutL (l.drop i), true)
  | 0, i, acc, h, ha => by
    rw [List.drop_eq_nil_of_le (by omega)]
    constructor
    · refine Ev.mk' 0 fun k _ => ?_
      simp only [spec_RulesWithout.l0]
      rw [if_neg (by omega)]; simp [withoutL]
    · refine Ev.mk' 0 fun k _ => ?_
      simp only [impl_RulesWithout.l0]
      rw [if_neg (by omega)]; simp [withoutL]
  | d + 1, i, acc, h, ha => by
    obtain ⟨⟨K1, h1⟩, ⟨K2, h2⟩⟩ := without_l0 l hm d (i + 1) (acc ++ [⟨rd l i, 0⟩]) (by omega) (by simp; omega)
    dsimp only at h1 h2
    rw [rd_dropP l i (by omega), withoutL]
    constructor
    · refine Ev.mk' K1 fun k hk => ?_
      simp only [spec_RulesWithout.l0]
      rw [if_pos (by omega), if_pos (by omega), if_pos (by omega), if_pos (by omega), show wrap64 ((i : Int) + 1) = ((i + 1 : Nat) : Int) from wrap_id (by omega) (by omega), h1 k hk]
      simp
    · refine Ev.mk' K2 fun k hk => ?_
      simp only [impl_RulesWithout.l0]
      rw [if_pos (by omega), if_pos (by omega), if_pos (by omega), if_pos (by omega), show wrap64 ((i : Int) + 1) = ((i + 1 : Nat) : Int) from wrap_id (by omega) (by omega), h2 k hk]
      simp
def vWithout (l : List Int) : List SRule × Bool := if primeList l = true then (withoutL l, true) else ([], false)
theorem primeList_len {l : List Int} (h : primeList l = true) : l.length ≤ 5 := by
  unfold primeList at h
  simp only [Bool.and_eq_true, decide_eq_true_eq] at h
  exact h.1
theorem vWithout_len (l : List Int) : (vWithout l).1.length ≤ 5 := by
  unfold vWithout
  split
  · next h => have := primeList_len h; simp only [withoutL_length]; omega
  · simp
theorem RulesWithout_main (l : List Int) (hm : l.length ≤ 4611686018427387904) : Ev (fun k => spec_RulesWithout.f k l) (vWithout l) ∧ Ev (fun k => impl_RulesWithout.f k l) (vWithout l) := by
  obtain ⟨K1, h1⟩ := gpPrimes_ev l
  obtain ⟨K2, h2⟩ := arePrimeList_ev l hm
  dsimp only at h1 h2
  unfold vWithout
  by_cases hp : primeList l = true
  · obtain ⟨⟨K3, h3⟩, ⟨K4, h4⟩⟩ := without_l0 l (primeList_len hp) l.length 0 [] (by omega) (by simp)
    have h3 : ∀ k, K3 ≤ k → spec_RulesWithout.l0 k [] l l.length 0 = _ := h3
    have h4 : ∀ k, K4 ≤ k → impl_RulesWithout.l0 k [] l l.length 0 = _ := h4
    rw [if_pos hp]
    constructor
    · refine ⟨K1 + K3, fun k hk => ?_⟩
      simp (disch := omega) only [spec_RulesWithout.f, h1, obind, hp, if_true, h3]
      simp
    · refine ⟨K2 + K4, fun k hk => ?_⟩
      simp (disch := omega) only [impl_RulesWithout.f, h2, obind, hp, if_true, h4]
      simp
  · rw [if_neg hp]
    constructor
    · refine ⟨K1, fun k hk => ?_⟩
      simp (disch := omega) only [spec_RulesWithout.f, h1, obind]
      rw [if_neg hp]
    · refine ⟨K2, fun k hk => ?_⟩
      simp (disch := omega) only [impl_RulesWithout.f, h2, obind]
      rw [if_neg hp]
end Go.Proofs.Ytphlfkeamhpimaa.P
namespace Go.Proofs.Ytphlfkeamhpimaa.P
open Go.RowKit Go.Proofs.YtphlfkeamhpimaaW.PrintWords Go.Proofs.YtphlfkeamhpimaaW.PrintLast
set_option linter.unusedVariables false
set_option linter.unusedSimpArgs false
theorem l1In_ok (a b c : Int) : spec_l1In.f a b c = some (decide (b ≤ a) && decide (a ≤ c)) := by
  unfold spec_l1In.f
  by_cases h : b ≤ a <;> simp [h]
end Go.Proofs.Ytphlfkeamhpimaa.P
namespace Go.Proofs.Ytphlfkeamhpimaa.P
open Go.RowKit Go.Proofs.YtphlfkeamhpimaaW.PrintWords Go.Proofs.YtphlfkeamhpimaaW.PrintLast
set_option linter.unusedVariables false
set_option linter.unusedSimpArgs false
def left (l : List SRule) (n : Int) : Bool := !(l.any (crosses n))
def goodRules (l : List SRule) : Bool := decide (l.length ≤ 12) && l.all okRule
theorem okRule_iff (x : SRule) : okRule x = true ↔ 2 ≤ x.f0 ∧ x.f0 ≤ 60 ∧ 0 ≤ x.f1 ∧ x.f1 < x.f0 := by
  unfold okRule; simp
theorem siRule_ok (x : SRule) : spec_siRule.f x.f0 x.f1 = some (okRule x) := by
  unfold spec_siRule.f okRule
  simp only [l1In_ok, Option.bind_some]
  by_cases h1 : 2 ≤ x.f0
  · by_cases h2 : x.f0 ≤ 60
    · have : wrap64 (x.f0 - 1) = x.f0 - 1 := wrap_id (by omega) (by omega)
      rw [this]
      by_cases h3 : 0 ≤ x.f1
      · simp [h1, h2, h3]; omega
      · simp [h1, h2, h3]
    · simp [h1, h2]
  · simp [h1]
theorem rd_drop (l : List SRule) (k : Nat) (h : k < l.length) : l.drop k = rd_Rule l k :: l.drop (k + 1) := drop_rd l k h
theorem siGood_l0 (l : List SRule) (hm : l.length ≤ 12) : ∀ d i : Nat, i + d = l.length → Ev (fun k => spec_siGood.l0 k l l.length i) ((l.drop i).all okRule)
  | 0, i, h => Ev.mk' 0 fun k _ => by
    simp only [spec_siGood.l0]
    rw [if_neg (by omega), List.drop_eq_nil_of_le (by omega)]; rfl
  | d + 1, i, h => by
    obtain ⟨K, ih⟩ := siGood_l0 l hm d (i + 1) (by omega)
    dsimp only at ih
    refine Ev.mk' K fun k hk => ?_
    simp only [spec_siGood.l0]
    rw [if_pos (by omega), if_pos (by omega), if_pos (by omega), siRule_ok, rd_drop l i (by omega), List.all_cons, Option.bind_some]
    rw [show wrap64 ((i : Int) + 1) = ((i + 1 : Nat) : Int) from wrap_id (by omega) (by omega), ih k hk]
    cases okRule (rd_Rule l i) <;> simp
theorem siGood_ev (l : List SRule) : Ev (fun k => spec_siGood.f k l) (goodRules l) := by
  unfold goodRules
  by_cases h : l.length ≤ 12
  · obtain ⟨K, ih⟩ := siGood_l0 l h l.length 0 (by omega)
    refine ⟨K, fun k hk => ?_⟩
    simp only [spec_siGood.f]
    rw [if_neg (by omega)]
    simpa [h] using ih k hk
  · refine ⟨0, fun k _ => ?_⟩
    simp only [spec_siGood.f]
    rw [if_pos (by omega)]
    simp [h]
theorem areRules_ok (l : List SRule) : impl_areRules.f l = some (goodRules l) := rfl
theorem good_all {l : List SRule} (h : goodRules l = true) : l.length ≤ 12 ∧ l.all okRule = true := by
  unfold goodRules at h
  simpa using h
theorem siRest_ok (n : Int) (x : SRule) (h : okRule x = true) : spec_siRest.f n x.f0 = some (n % x.f0) := by
  have := mod_ok n x.f0 ((okRule_iff x).1 h).1 ((okRule_iff x).1 h).2.1
  exact this
theorem siFirst_l0 (n : Int) (l : List SRule) (hm : l.length ≤ 9223372036854775807) (hl : l.all okRule = true) : ∀ d i : Nat, i + d = l.length → Ev (fun k => spec_siFirst.l0 k n l l.length i) (firstIx (crosses n) (l.drop i) i)
  | 0, i, h => Ev.mk' 0 fun k _ => by
    simp only [spec_siFirst.l0]
    rw [if_neg (by omega), List.drop_eq_nil_of_le (by omega)]; rfl
  | d + 1, i, h => by
    obtain ⟨K, ih⟩ := siFirst_l0 n l hm hl d (i + 1) (by omega)
    dsimp only at ih
    refine Ev.mk' K fun k hk => ?_
    simp only [spec_siFirst.l0]
    rw [if_pos (by omega), if_pos (by omega), if_pos (by omega), siRest_ok n _ (List.all_eq_true.mp hl _ (rd_mem l i (by omega))), rd_drop l i (by omega), Option.bind_some]
    rw [show wrap64 ((i : Int) + 1) = ((i + 1 : Nat) : Int) from wrap_id (by omega) (by omega), ih k hk]
    rw [firstIx]
    by_cases hc : n % (rd_Rule l i).f0 = (rd_Rule l i).f1
    · rw [if_pos hc, if_pos (by simp [crosses, hc])]
    · rw [if_neg hc, if_neg (by simp [crosses, hc])]; rfl
theorem siFirst_ev (n : Int) (l : List SRule) (hm : l.length ≤ 9223372036854775807) (hl : l.all okRule = true) : Ev (fun k => spec_siFirst.f k l n) (firstIx (crosses n) l 0) :=
  siFirst_l0 n l hm hl l.length 0 (by omega)
theorem first_left (n : Int) (l : List SRule) : decide (firstIx (crosses n) l 0 < 0) = left l n := by
  have h := firstIx_any (crosses n) l 0 (by omega)
  unfold left
  rw [← h]
  by_cases hc : 0 ≤ firstIx (crosses n) l 0
  · simp [hc, Int.not_lt.mpr hc]
  · simp [hc, Int.not_le.mp hc]
theorem siLeft_ev (n : Int) (l : List SRule) (hm : l.length ≤ 9223372036854775807) (hl : l.all okRule = true) : Ev (fun k => spec_siLeft.f k l n) (left l n) := by
  obtain ⟨K, h⟩ := siFirst_ev n l hm hl
  refine ⟨K, fun k hk => ?_⟩
  simp only [spec_siLeft.f, h k hk, Option.bind_some, first_left]
theorem isLeft_ok (n : Int) (l : List SRule) (hl : l.all okRule = true) : impl_isLeft.f l n = some (left l n) := by
  simp only [impl_isLeft.f, impl_firstRule.f, if_pos hl, Option.bind_some, first_left]
end Go.Proofs.Ytphlfkeamhpimaa.P
namespace Go.Proofs.Ytphlfkeamhpimaa.P
open Go.RowKit Go.Proofs.YtphlfkeamhpimaaW.PrintWords Go.Proofs.YtphlfkeamhpimaaW.PrintLast
set_option linter.unusedVariables false
set_option linter.unusedSimpArgs false
def lefts (l : List SRule) (i : Int) : Nat → List Int
  | 0 => []
  | m + 1 => (if left l i = true then [i] else []) ++ lefts l (i + 1) m
theorem lefts_length (l : List SRule) (m : Nat) : ∀ i, (lefts l i m).length ≤ m := by
  induction m with
  | zero => intro i; simp [lefts]
  | succ m ih =>
    intro i
    have := ih (i + 1)
    simp only [lefts, List.length_append]
    split <;> simp <;> omega
theorem leftBetween_l0 (l : List SRule) (hl : l.all okRule = true) (hi : Int) (h2 : hi ≤ 4611686018427387904) : ∀ (m : Nat) (i : Int) (acc : List Int), i + m = hi + 1 → -4611686018427387904 ≤ i → acc.length + m < 17592186044416 → Ev (fun k => impl_leftBetween.l0 k l hi acc i) (acc ++ lefts l i m)
  | 0, i, acc, h, h0, h1 => Ev.mk' 0 fun k _ => by
    simp only [impl_leftBetween.l0]
    rw [if_neg (by omega)]; simp [lefts]
  | m + 1, i, acc, h, h0, h1 => by
    simp only [lefts]
    by_cases hc : left l i = true
    · obtain ⟨K, ih⟩ := leftBetween_l0 l hl hi h2 m (i + 1) (acc ++ [i]) (by omega) (by omega) (by simp; omega)
      dsimp only at ih
      refine Ev.mk' K fun k hk => ?_
      simp only [impl_leftBetween.l0, isLeft_ok i l hl, Option.bind_some]
      rw [if_pos (by omega), if_pos hc, if_pos (by omega), wrap_id (by omega) (by omega), ih k hk, if_pos hc]
      simp
    · obtain ⟨K, ih⟩ := leftBetween_l0 l hl hi h2 m (i + 1) acc (by omega) (by omega) (by omega)
      dsimp only at ih
      refine Ev.mk' K fun k hk => ?_
      simp only [impl_leftBetween.l0, isLeft_ok i l hl, Option.bind_some]
      rw [if_pos (by omega), if_neg hc, wrap_id (by omega) (by omega), ih k hk, if_neg hc]
      simp
def leftsTo (l : List SRule) (lo hi : Int) : List Int := lefts l lo (hi + 1 - lo).toNat
theorem leftBetween_ev (l : List SRule) (hl : l.all okRule = true) (lo hi : Int) (h0 : -4611686018427387904 ≤ lo) (h2 : hi ≤ 4611686018427387904) (h1 : hi - lo < 17592186044415) : Ev (fun k => impl_leftBetween.f k l lo hi) (leftsTo l lo hi) := by
  unfold leftsTo
  by_cases h : lo ≤ hi + 1
  · obtain ⟨K, ih⟩ := leftBetween_l0 l hl hi h2 (hi + 1 - lo).toNat lo [] (by omega) h0 (by simp; omega)
    refine ⟨K, fun k hk => ?_⟩
    simp only [impl_leftBetween.f]
    simpa using ih k hk
  · refine Ev.mk' 0 fun k _ => ?_
    simp only [impl_leftBetween.f, impl_leftBetween.l0]
    rw [if_neg (by omega), show (hi + 1 - lo).toNat = 0 by omega]; rfl
end Go.Proofs.Ytphlfkeamhpimaa.P
namespace Go.Proofs.Ytphlfkeamhpimaa.P
open Go.RowKit Go.Proofs.YtphlfkeamhpimaaW.PrintWords Go.Proofs.YtphlfkeamhpimaaW.PrintLast
set_option linter.unusedVariables false
set_option linter.unusedSimpArgs false
theorem gpCovers_l0 (l : List SRule) (hm : l.length ≤ 12) (hl : l.all okRule = true) (hi : Int) (h2 : hi ≤ 4611686018427387904) : ∀ (m : Nat) (i : Int), i + m = hi + 1 → -4611686018427387904 ≤ i → Ev (fun k => spec_gpCovers.l0 k l hi i) ((lefts l i m).length == 0)
  | 0, i, h, h0 => Ev.mk' 0 fun k _ => by
    simp only [spec_gpCovers.l0]
    rw [if_neg (by omega)]; rfl
  | m + 1, i, h, h0 => by
    obtain ⟨K1, h1⟩ := siLeft_ev i l (by omega) hl
    obtain ⟨K, ih⟩ := gpCovers_l0 l hm hl hi h2 m (i + 1) (by omega) (by omega)
    dsimp only at ih h1
    refine Ev.mk' (K + K1) fun k hk => ?_
    simp only [spec_gpCovers.l0, h1 k (by omega), Option.bind_some]
    rw [if_pos (by omega), wrap_id (by omega) (by omega), ih k (by omega), lefts]
    cases left l i <;> simp
theorem gpCovers_ev (l : List SRule) (hm : l.length ≤ 12) (hl : l.all okRule = true) (n : Int) (h0 : 0 ≤ n) (h1 : n ≤ 40) : Ev (fun k => spec_gpCovers.f k l n) ((leftsTo l 1 n).length == 0) := by
  obtain ⟨K, ih⟩ := gpCovers_l0 l hm hl n (by omega) (n + 1 - 1).toNat 1 (by omega) (by omega)
  refine ⟨K, fun k hk => ?_⟩
  simp only [spec_gpCovers.f]
  exact ih k hk
end Go.Proofs.Ytphlfkeamhpimaa.P
namespace Go.Proofs.Ytphlfkeamhpimaa.P
open Go.RowKit Go.Proofs.YtphlfkeamhpimaaW.PrintWords Go.Proofs.YtphlfkeamhpimaaW.PrintLast
set_option linter.unusedVariables false
set_option linter.unusedSimpArgs false
def cvr (len : Int) (r : List SRule) : Bool := (leftsTo r 1 len).length == 0
def coverL (ps : List Int) (len : Int) : List (List SRule) := (covL ps).filter (cvr len)
theorem prime_rd {ps : List Int} (h : primeList ps = true) : ps.length ≤ 5 ∧ ∀ p ∈ ps, 2 ≤ p ∧ p ≤ 13 := by
  unfold primeList at h
  simp only [Bool.and_eq_true, decide_eq_true_eq, List.all_eq_true] at h
  refine ⟨h.1, fun p hp => ?_⟩
  have := h.2.1 p hp
  unfold isSix at this
  simp at this
  omega
theorem prime_okC {ps : List Int} (h : primeList ps = true) : okC ps = true := by
  have hp := prime_rd h
  unfold okC
  simp only [Bool.and_eq_true, List.all_eq_true, decide_eq_true_eq]
  exact ⟨hp.1, fun p hm => by have := hp.2 p hm; omega⟩
def extA (L : List (List SRule)) (qs : List Int) : List (List SRule) := qs.foldl extL L
theorem extL_app (A B : List (List SRule)) (p : Int) : extL (A ++ B) p = extL A p ++ extL B p := by unfold extL; rw [List.flatMap_append]
theorem extA_app : ∀ (qs : List Int) (A B : List (List SRule)), extA (A ++ B) qs = extA A qs ++ extA B qs
  | [], A, B => rfl
  | q :: qs, A, B => by
    show extA (extL (A ++ B) q) qs = extA (extL A q) qs ++ extA (extL B q) qs
    rw [extL_app, extA_app qs]
theorem extA_nil : ∀ qs : List Int, extA [] qs = []
  | [] => rfl
  | q :: qs => by show extA (extL [] q) qs = []; rw [show extL [] q = [] from rfl, extA_nil qs]
theorem extL_rows {L : List (List SRule)} {p : Int} (h0 : 2 ≤ p) (h1 : p ≤ 13) (hL : ∀ r ∈ L, r.all okRule = true) : ∀ r ∈ extL L p, r.all okRule = true := by
  intro r hr
  obtain ⟨r', hr', i, hi, rfl⟩ := extL_mem hr
  rw [List.all_append, hL r' hr']
  have : okRule (⟨p, (i : Int)⟩ : SRule) = true := (okRule_iff _).2 ⟨h0, by show p ≤ 60; omega, by show 0 ≤ (i : Int); omega, by show (i : Int) < p; omega⟩
  simp [this]
theorem extA_rows : ∀ (qs : List Int), (∀ p ∈ qs, 2 ≤ p ∧ p ≤ 13) → ∀ L : List (List SRule), (∀ r ∈ L, r.all okRule = true) → ∀ r ∈ extA L qs, r.all okRule = true
  | [], _, L, hL => hL
  | q :: qs, hq, L, hL => extA_rows qs (fun p hp => hq p (List.mem_cons_of_mem _ hp)) (extL L q) (extL_rows (hq q List.mem_cons_self).1 (hq q List.mem_cons_self).2 hL)
theorem covL_rows {ps : List Int} (h : primeList ps = true) : ∀ r ∈ covL ps, r.all okRule = true := extA_rows ps (prime_rd h).2 [[]] (by simp)
def sibs (q : Int) (bg : List SRule) (i : Nat) : Nat → List (List SRule)
  | 0 => []
  | d + 1 => (bg ++ [(⟨q, (i : Int)⟩ : SRule)]) :: sibs q bg (i + 1) d
theorem sibs_map (q : Int) (bg : List SRule) : ∀ (d i : Nat), (List.range d).map (fun (j : Nat) => bg ++ [(⟨q, ((i + j : Nat) : Int)⟩ : SRule)]) = sibs q bg i d
  | 0, i => rfl
  | d + 1, i => by
    rw [List.range_succ_eq_map, List.map_cons, List.map_map, sibs, ← sibs_map q bg d (i + 1)]
    simp only [Nat.add_zero]
    congr 1
    apply List.map_congr_left
    intro j _
    simp only [Function.comp]
    rw [show i + Nat.succ j = i + 1 + j by omega]
theorem extL_sibs (q : Int) (bg : List SRule) : extL [bg] q = sibs q bg 0 q.toNat := by
  rw [← sibs_map]
  simp [extL]
theorem all_ev {α β : Type} (g : α → Nat → Option β) (v : α → β) : ∀ L : List α, (∀ r ∈ L, Ev (g r) (v r)) → ∃ K, ∀ k, K ≤ k → ∀ r ∈ L, g r k = some (v r)
  | [], _ => ⟨0, fun _ _ r hr => by simp at hr⟩
  | x :: L, h => by
    obtain ⟨K1, h1⟩ := h x List.mem_cons_self
    obtain ⟨K2, h2⟩ := all_ev g v L (fun r hr => h r (List.mem_cons_of_mem _ hr))
    refine ⟨K1 + K2, fun k hk r hr => ?_⟩
    rcases List.mem_cons.1 hr with rfl | hr
    · exact h1 k (by omega)
    · exact h2 k (by omega) r hr
theorem coversOf_ev {ps : List Int} (h : primeList ps = true) (len : Int) (h0 : 0 ≤ len) (h1 : len ≤ 41) : Ev (fun k => impl_coversOf.f k ps len) (coverL ps len) := by
  obtain ⟨K, hk⟩ := all_ev (fun r k => impl_leftBetween.f k r 1 len) (fun r => leftsTo r 1 len) (covL ps) (fun r hr => leftBetween_ev r (covL_rows h r hr) 1 len (by omega) (by omega) (by omega))
  refine ⟨K, fun k hk' => ?_⟩
  have hk := hk k hk'
  simp only [impl_coversOf.f]
  rw [if_pos ⟨prime_okC h, List.all_eq_true.2 fun r hr => by rw [hk r hr]; rfl⟩]
  congr 1
  unfold coverL
  refine List.filter_congr fun r hr => ?_
  rw [hk r hr]
  unfold cvr
  show (!decide (0 < (leftsTo r 1 len).length)) = _
  by_cases c : (leftsTo r 1 len).length = 0
  · simp [c]
  · have : 0 < (leftsTo r 1 len).length := by omega
    simp [this, c]
def acc (P : List SRule → Bool) (c : Int) (f : List SRule) (L : List (List SRule)) : Int × List SRule := (c + ((L.filter P).length : Int), if c = 0 then (L.filter P).headD f else f)
theorem acc_nil (P : List SRule → Bool) (c : Int) (f : List SRule) : acc P c f [] = (c, f) := by simp [acc]
theorem acc_app (P : List SRule → Bool) (c : Int) (hc : 0 ≤ c) (f : List SRule) (A B : List (List SRule)) : acc P (acc P c f A).1 (acc P c f A).2 B = acc P c f (A ++ B) := by
  unfold acc
  simp only [List.filter_append, List.length_append]
  cases hA : A.filter P with
  | nil => simp
  | cons x t =>
    simp only [List.length_cons, List.cons_append, List.headD_cons]
    by_cases c0 : c = 0
    · subst c0
      rw [if_neg (by omega)]
      simp
    · simp only [if_neg c0]
      rw [if_neg (by omega)]
      congr 1
      omega
theorem extA_length_pos (qs : List Int) (A B : List (List SRule)) : (extA (A ++ B) qs).length = (extA A qs).length + (extA B qs).length := by rw [extA_app, List.length_append]
theorem gpLook_l0 (ps : List Int) (len : Int) (bg : List SRule) (q : Int) (hq : q = rd ps bg.length) (hlt : bg.length < ps.length) (h5 : bg.length ≤ 5) (hq0 : 2 ≤ q) (hq1 : q ≤ 13) (hbg : bg.all okRule = true)
    (hf : ∀ (i : Nat) (c : Int) (f : List SRule), i < q.toNat → 0 ≤ c → c + ((extA [bg ++ [(⟨q, (i : Int)⟩ : SRule)]] (ps.drop (bg.length + 1))).length : Int) ≤ 1000000000 → Ev (fun k => spec_gpLook.f k ps (bg ++ [(⟨q, (i : Int)⟩ : SRule)]) len c f) (acc (cvr len) c f (extA [bg ++ [(⟨q, (i : Int)⟩ : SRule)]] (ps.drop (bg.length + 1))))) :
    ∀ (e i : Nat) (c : Int) (f : List SRule), i + e = q.toNat → 0 ≤ c → c + ((extA (sibs q bg i e) (ps.drop (bg.length + 1))).length : Int) ≤ 1000000000 → Ev (fun k => spec_gpLook.l0 k ps bg len c f (i : Int)) (acc (cvr len) c f (extA (sibs q bg i e) (ps.drop (bg.length + 1))))
  | 0, i, c, f, h, h0, hb => by
    rw [show sibs q bg i 0 = [] from rfl, extA_nil, acc_nil]
    refine Ev.mk' 0 fun k hk => ?_
    simp only [spec_gpLook.l0]
    rw [if_pos hlt, ← hq, if_neg (by omega)]
  | e + 1, i, c, f, h, h0, hb => by
    have e1 : sibs q bg i (e + 1) = [bg ++ [(⟨q, (i : Int)⟩ : SRule)]] ++ sibs q bg (i + 1) e := rfl
    rw [e1, extA_app] at hb ⊢
    rw [List.length_append] at hb
    have hfl := List.length_filter_le (cvr len) (extA [bg ++ [(⟨q, (i : Int)⟩ : SRule)]] (ps.drop (bg.length + 1)))
    obtain ⟨K1, k1⟩ := hf i c f (by omega) h0 (by omega)
    obtain ⟨K2, k2⟩ := gpLook_l0 ps len bg q hq hlt h5 hq0 hq1 hbg hf e (i + 1) (acc (cvr len) c f (extA [bg ++ [(⟨q, (i : Int)⟩ : SRule)]] (ps.drop (bg.length + 1)))).1 (acc (cvr len) c f (extA [bg ++ [(⟨q, (i : Int)⟩ : SRule)]] (ps.drop (bg.length + 1)))).2 (by omega) (by unfold acc; dsimp only; omega) (by unfold acc; dsimp only; omega)
    dsimp only at k1 k2
    rw [← acc_app (cvr len) c h0]
    refine Ev.mk' (K1 + K2) fun k hk => ?_
    simp only [spec_gpLook.l0]
    rw [if_pos hlt, ← hq, if_pos (by omega), if_pos (by omega), k1 k (by omega), obind, show wrap64 ((i : Int) + 1) = ((i + 1 : Nat) : Int) from wrap_id (by omega) (by omega), k2 k (by omega)]
theorem gpLook_f {ps : List Int} (hp : primeList ps = true) (len : Int) (l0 : 0 ≤ len) (l1 : len ≤ 40) : ∀ (d : Nat) (bg : List SRule), bg.length + d = ps.length → bg.all okRule = true → ∀ (c : Int) (f : List SRule), 0 ≤ c → c + ((extA [bg] (ps.drop bg.length)).length : Int) ≤ 1000000000 → Ev (fun k => spec_gpLook.f k ps bg len c f) (acc (cvr len) c f (extA [bg] (ps.drop bg.length)))
  | 0, bg, h, hbg, c, f, h0, hb => by
    have h5 := (prime_rd hp).1
    rw [List.drop_of_length_le (by omega)] at hb ⊢
    obtain ⟨K, hk⟩ := gpCovers_ev bg (by omega) hbg len l0 l1
    dsimp only at hk
    have ha : acc (cvr len) c f (extA [bg] []) = if cvr len bg = true then (c + 1, if c = 0 then bg else f) else (c, f) := by
      show acc (cvr len) c f [bg] = _
      unfold acc
      by_cases c2 : cvr len bg = true
      · rw [if_pos c2, List.filter_cons, if_pos c2, List.filter_nil]; rfl
      · rw [if_neg c2, List.filter_cons, if_neg c2, List.filter_nil]; simp
    rw [ha]
    have hb : c + 1 ≤ 1000000000 := hb
    refine Ev.mk' K fun k hk' => ?_
    simp only [spec_gpLook.f, hk k hk', obind]
    rw [if_pos (by omega)]
    by_cases c2 : cvr len bg = true
    · rw [if_pos (show ((leftsTo bg 1 len).length == 0) = true from c2), if_pos (by omega), if_pos c2, wrap_id (by omega) (by omega)]
    · rw [if_neg (show ¬ ((leftsTo bg 1 len).length == 0) = true from c2), if_neg c2]
  | d + 1, bg, h, hbg, c, f, h0, hb => by
    have h5 := prime_rd hp
    have hlt : bg.length < ps.length := by omega
    have hq := h5.2 (rd ps bg.length) (by simp [rd, List.getD, hlt])
    have e1 : ps.drop bg.length = rd ps bg.length :: ps.drop (bg.length + 1) := rd_dropP ps bg.length hlt
    have e2 : extA [bg] (ps.drop bg.length) = extA (sibs (rd ps bg.length) bg 0 (rd ps bg.length).toNat) (ps.drop (bg.length + 1)) := by
      rw [e1, ← extL_sibs]; rfl
    rw [e2] at hb ⊢
    have hw : ∀ i : Nat, (bg ++ [(⟨rd ps bg.length, (i : Int)⟩ : SRule)]).length = bg.length + 1 := fun i => by simp
    obtain ⟨K, hk⟩ := gpLook_l0 ps len bg (rd ps bg.length) rfl hlt (by omega) hq.1 hq.2 hbg (fun i c f hi g0 g1 => by
      have hr : okRule (⟨rd ps bg.length, (i : Int)⟩ : SRule) = true := (okRule_iff _).2 ⟨hq.1, by show rd ps bg.length ≤ 60; omega, by show 0 ≤ (i : Int); omega, by show (i : Int) < rd ps bg.length; omega⟩
      have := gpLook_f hp len l0 l1 d (bg ++ [(⟨rd ps bg.length, (i : Int)⟩ : SRule)]) (by rw [hw]; omega) (by simp [hbg, hr]) c f g0 (by rw [hw]; exact g1)
      rwa [hw] at this) (rd ps bg.length).toNat 0 c f (by omega) h0 hb
    refine Ev.mk' K fun k hk' => ?_
    simp only [spec_gpLook.f]
    rw [if_neg (by omega)]
    exact hk k hk'
theorem covL_le {ps : List Int} (h : primeList ps = true) : (covL ps).length ≤ 371293 := by
  have := covL_small (prime_okC h) ps.length (Nat.le_refl _)
  rwa [List.take_length] at this
theorem gpAll_ev {ps : List Int} (h : primeList ps = true) (len : Int) (l0 : 0 ≤ len) (l1 : len ≤ 40) : Ev (fun k => spec_gpAll.f k ps len) (((coverL ps len).length : Int), (coverL ps len).headD []) := by
  have hl := covL_le h
  have h1 := gpLook_f h len l0 l1 ps.length [] (by simp) rfl 0 [] (by omega) (by show 0 + ((covL ps).length : Int) ≤ 1000000000; omega)
  have e : acc (cvr len) 0 [] (extA [[]] (ps.drop ([] : List SRule).length)) = (((coverL ps len).length : Int), (coverL ps len).headD []) := by
    show acc (cvr len) 0 [] (covL ps) = _
    unfold acc coverL
    rw [if_pos rfl, Int.zero_add]
  rw [e] at h1
  exact h1
end Go.Proofs.Ytphlfkeamhpimaa.P
namespace Go.Proofs.Ytphlfkeamhpimaa.P
open Go.RowKit Go.Proofs.YtphlfkeamhpimaaW.PrintWords Go.Proofs.YtphlfkeamhpimaaW.PrintLast
set_option linter.unusedVariables false
set_option linter.unusedSimpArgs false
theorem gpAsked_ev (l : List Int) (n : Int) : Ev (fun k => spec_gpAsked.f k l n) (primeList l && (decide (0 ≤ n) && decide (n ≤ 40))) := by
  obtain ⟨K, h⟩ := gpPrimes_ev l
  refine ⟨K, fun k hk => ?_⟩
  have h := h k hk
  simp only [spec_gpAsked.f] at h ⊢
  rw [h, obind]
  cases primeList l <;> simp [l1In_ok]
def vCount (l : List Int) (n : Int) : Int × Bool := if primeList l = true ∧ 0 ≤ n ∧ n ≤ 40 then (((coverL l n).length : Int), true) else (0, false)
theorem CountCovers_main (l : List Int) (n : Int) (hm : l.length ≤ 4611686018427387904) : Ev (fun k => spec_CountCovers.f k l n) (vCount l n) ∧ Ev (fun k => impl_CountCovers.f k l n) (vCount l n) := by
  obtain ⟨K1, h1⟩ := gpAsked_ev l n
  obtain ⟨K2, h2⟩ := arePrimeList_ev l hm
  dsimp only at h1 h2
  unfold vCount
  by_cases hp : primeList l = true
  · by_cases hn : 0 ≤ n ∧ n ≤ 40
    · obtain ⟨K3, h3⟩ := gpAll_ev hp n hn.1 hn.2
      obtain ⟨K4, h4⟩ := coversOf_ev hp n hn.1 (by omega)
      dsimp only at h3 h4
      rw [if_pos ⟨hp, hn⟩]
      have d : (primeList l && (decide (0 ≤ n) && decide (n ≤ 40))) = true := by simp [hp, hn.1, hn.2]
      constructor
      · refine ⟨K1 + K3, fun k hk => ?_⟩
        simp (disch := omega) only [spec_CountCovers.f, h1, d, obind, if_true, h3]
      · refine ⟨K2 + K4, fun k hk => ?_⟩
        simp (disch := omega) only [impl_CountCovers.f, h2, hp, obind, if_true, h4]
        rw [if_neg (by omega), if_neg (by omega)]
    · rw [if_neg (fun h => hn h.2)]
      have d : (primeList l && (decide (0 ≤ n) && decide (n ≤ 40))) = false := by
        rw [hp, Bool.true_and, Bool.and_eq_false_iff]; simp only [decide_eq_false_iff_not]; omega
      constructor
      · refine ⟨K1, fun k hk => ?_⟩
        simp (disch := omega) only [spec_CountCovers.f, h1, d, obind, Bool.false_eq_true, if_false]
      · refine ⟨K2, fun k hk => ?_⟩
        simp (disch := omega) only [impl_CountCovers.f, h2, hp, obind, if_true]
        by_cases c : n < 0
        · rw [if_pos c]
        · rw [if_neg c, if_pos (by omega)]
  · have hf := Bool.eq_false_iff.2 hp
    rw [if_neg (fun h => hp h.1)]
    constructor
    · refine ⟨K1, fun k hk => ?_⟩
      simp (disch := omega) only [spec_CountCovers.f, h1, hf, Bool.false_and, obind, Bool.false_eq_true, if_false]
    · refine ⟨K2, fun k hk => ?_⟩
      simp (disch := omega) only [impl_CountCovers.f, h2, hf, obind, Bool.false_eq_true, if_false]
end Go.Proofs.Ytphlfkeamhpimaa.P
namespace Go.Proofs.Ytphlfkeamhpimaa.P
open Go.RowKit Go.Proofs.YtphlfkeamhpimaaW.PrintWords Go.Proofs.YtphlfkeamhpimaaW.PrintLast
set_option linter.unusedVariables false
set_option linter.unusedSimpArgs false
def vFirst (l : List Int) (n : Int) : List SRule × Bool := if primeList l = true ∧ 0 ≤ n ∧ n ≤ 40 ∧ coverL l n ≠ [] then ((coverL l n).headD [], true) else ([], false)
theorem covL_row' {ps : List Int} : ∀ r ∈ covL ps, r.length = ps.length := by
  intro r hr
  have := covL_row (ps := ps) ps.length (Nat.le_refl _) r (by rw [List.take_length]; exact hr)
  exact this
theorem headD_mem {α : Type} (L : List α) (d : α) (h : L ≠ []) : L.headD d ∈ L := by
  cases L with
  | nil => exact absurd rfl h
  | cons x t => simp
theorem vFirst_len (l : List Int) (n : Int) : (vFirst l n).1.length ≤ 5 := by
  unfold vFirst
  split
  · next h =>
    have hm := headD_mem (coverL l n) [] h.2.2.2
    have hr := covL_row' _ (List.mem_filter.1 hm).1
    have := (prime_rd h.1).1
    dsimp only
    omega
  · simp
theorem FirstCover_main (l : List Int) (n : Int) (hm : l.length ≤ 4611686018427387904) : Ev (fun k => spec_FirstCover.f k l n) (vFirst l n) ∧ Ev (fun k => impl_FirstCover.f k l n) (vFirst l n) := by
  obtain ⟨K1, h1⟩ := gpAsked_ev l n
  obtain ⟨K2, h2⟩ := arePrimeList_ev l hm
  dsimp only at h1 h2
  unfold vFirst
  by_cases hp : primeList l = true
  · by_cases hn : 0 ≤ n ∧ n ≤ 40
    · obtain ⟨K3, h3⟩ := gpAll_ev hp n hn.1 hn.2
      obtain ⟨K4, h4⟩ := coversOf_ev hp n hn.1 (by omega)
      dsimp only at h3 h4
      have d : (primeList l && (decide (0 ≤ n) && decide (n ≤ 40))) = true := by simp [hp, hn.1, hn.2]
      have d2 : decide (n > 40) = false := decide_eq_false (by omega)
      have n1 : ¬ n < 0 := by omega
      cases hc : coverL l n with
      | nil =>
        rw [hc] at h3 h4
        rw [if_neg (fun h => h.2.2.2 rfl)]
        constructor
        · refine ⟨K1 + K3, fun k hk => ?_⟩
          simp (disch := omega) only [spec_FirstCover.f, h1, d, obind, if_true, h3]
          rfl
        · refine Ev.mk' (K2 + K4) fun k hk => ?_
          simp (disch := omega) only [impl_FirstCover.f, h2, hp, obind, if_true, if_neg n1, d2]
          simp (disch := omega) only [impl_FirstCover.j0, h4, obind, Bool.false_eq_true, if_false]
          rfl
      | cons x t =>
        rw [hc] at h3 h4
        rw [if_pos ⟨hp, hn.1, hn.2, by simp⟩]
        constructor
        · refine ⟨K1 + K3, fun k hk => ?_⟩
          simp (disch := omega) only [spec_FirstCover.f, h1, d, obind, if_true, h3]
          rw [if_neg (by simp; omega)]
        · refine Ev.mk' (K2 + K4) fun k hk => ?_
          simp (disch := omega) only [impl_FirstCover.f, h2, hp, obind, if_true, if_neg n1, d2]
          simp (disch := omega) only [impl_FirstCover.j0, h4, obind, Bool.false_eq_true, if_false]
          rw [if_neg (by simp; omega), if_pos (by simp)]
          rfl
    · rw [if_neg (fun h => hn ⟨h.2.1, h.2.2.1⟩)]
      have d : (primeList l && (decide (0 ≤ n) && decide (n ≤ 40))) = false := by
        rw [hp, Bool.true_and, Bool.and_eq_false_iff]; simp only [decide_eq_false_iff_not]; omega
      constructor
      · refine ⟨K1, fun k hk => ?_⟩
        simp (disch := omega) only [spec_FirstCover.f, h1, d, obind, Bool.false_eq_true, if_false]
      · refine Ev.mk' K2 fun k hk => ?_
        simp (disch := omega) only [impl_FirstCover.f, h2, hp, obind, if_true]
        by_cases c : n < 0
        · rw [if_pos c]; simp [impl_FirstCover.j0]
        · rw [if_neg c, decide_eq_true (show n > 40 by omega)]; simp [impl_FirstCover.j0]
  · have hf := Bool.eq_false_iff.2 hp
    rw [if_neg (fun h => hp h.1)]
    constructor
    · refine ⟨K1, fun k hk => ?_⟩
      simp (disch := omega) only [spec_FirstCover.f, h1, hf, Bool.false_and, obind, Bool.false_eq_true, if_false]
    · refine Ev.mk' K2 fun k hk => ?_
      simp (disch := omega) only [impl_FirstCover.f, h2, hf, obind, Bool.false_eq_true, if_false]
      simp [impl_FirstCover.j0]
end Go.Proofs.Ytphlfkeamhpimaa.P
namespace Go.Proofs.Ytphlfkeamhpimaa.P
open Go.RowKit Go.Proofs.YtphlfkeamhpimaaW.PrintWords Go.Proofs.YtphlfkeamhpimaaW.PrintLast
set_option linter.unusedVariables false
set_option linter.unusedSimpArgs false
theorem take_set {α : Type} (l : List α) (i : Nat) (v : α) (h : i < l.length) : (l.set i v).take (i + 1) = l.take i ++ [v] := by
  rw [List.take_succ_eq_append_getElem (by simpa using h)]
  simp only [List.take_set, List.getElem_set_self]
  rw [List.set_eq_of_length_le (by simp; omega)]
theorem eqRule_self (x : SRule) : laws_eqRule.f x.f0 x.f1 x.f0 x.f1 = some true := by simp [laws_eqRule.f]
theorem eqRuleS_l0 (l : List SRule) (hm : l.length ≤ 17592186044416) : ∀ (d i : Nat), i + d = l.length → Ev (fun k => laws_eqRuleS.l0 k l l i) true
  | 0, i, h => Ev.mk' 0 fun k _ => by
    simp only [laws_eqRuleS.l0]
    rw [if_neg (by omega)]
  | d + 1, i, h => by
    obtain ⟨K, ih⟩ := eqRuleS_l0 l hm d (i + 1) (by omega)
    dsimp only at ih
    refine Ev.mk' K fun k hk => ?_
    simp only [laws_eqRuleS.l0]
    rw [if_pos (by omega), if_pos (by omega), if_pos (by omega), eqRule_self]
    rw [show wrap64 ((i : Int) + 1) = ((i + 1 : Nat) : Int) from wrap_id (by omega) (by omega)]
    simpa using ih k hk
theorem eqRuleS_ev (l : List SRule) (hm : l.length ≤ 17592186044416) : Ev (fun k => laws_eqRuleS.f k l l) true := by
  obtain ⟨K, ih⟩ := eqRuleS_l0 l hm l.length 0 (by omega)
  refine ⟨K, fun k hk => ?_⟩
  simp only [laws_eqRuleS.f]
  rw [if_pos trivial]
  exact ih k hk
end Go.Proofs.Ytphlfkeamhpimaa.P
namespace Go.Proofs.Ytphlfkeamhpimaa.P
open Go.RowKit Go.Proofs.YtphlfkeamhpimaaW.PrintWords Go.Proofs.YtphlfkeamhpimaaW.PrintLast
set_option linter.unusedVariables false
set_option linter.unusedSimpArgs false
def marksR (a : Int) : Nat → List SRule
  | 0 => []
  | n + 1 => ⟨a, a + 1⟩ :: marksR (a + 2) n
theorem marksR_length (n : Nat) : ∀ a, (marksR a n).length = n := by
  induction n with
  | zero => intro a; rfl
  | succ n ih => intro a; simp [marksR, ih]
theorem rd_set (l : List SRule) (i : Nat) (v : SRule) (h : i < l.length) : rd_Rule (l.set i v) i = v := by
  simp [rd_Rule, List.getD, h]
theorem markRuleS_l0 : ∀ (d i : Nat) (a : Int) (x : List SRule), i + d = x.length → 0 ≤ a → a + 2 * d ≤ 4611686018427387904 → x.length ≤ 4611686018427387904 → Ev (fun k => laws_markRuleS.l0 k x a i) (a + 2 * d, x.take i ++ marksR a d)
  | 0, i, a, x, h, h0, h1, h2 => Ev.mk' 0 fun k _ => by
    simp only [laws_markRuleS.l0]
    rw [if_neg (by omega), List.take_of_length_le (by omega)]; simp [marksR]
  | d + 1, i, a, x, h, h0, h1, h2 => by
    obtain ⟨K, ih⟩ := markRuleS_l0 d (i + 1) (a + 2) (x.set i ⟨a, a + 1⟩) (by simp; omega) (by omega) (by omega) (by simpa using h2)
    dsimp only at ih
    refine Ev.mk' K fun k hk => ?_
    simp only [laws_markRuleS.l0, Option.bind_some, Int.toNat_natCast]
    rw [if_pos (by omega), if_pos (by omega)]
    rw [show wrap64 ((i : Int) + 1) = ((i + 1 : Nat) : Int) from wrap_id (by omega) (by omega), show wrap64 (a + 1) = a + 1 from wrap_id (by omega) (by omega), show wrap64 (a + 1 + 1) = a + 2 by rw [wrap_id (by omega) (by omega)]; omega]
    rw [rd_set x i _ (by omega), List.set_set]
    have := ih k hk
    rw [take_set x i _ (by omega)] at this
    rw [this, marksR]
    simp; omega
theorem markRuleS_ev (x : List SRule) (a : Int) (h0 : 0 ≤ a) (h1 : a + 2 * x.length ≤ 4611686018427387904) (h2 : x.length ≤ 4611686018427387904) : Ev (fun k => laws_markRuleS.f k x a) (a + 2 * x.length, marksR a x.length) := by
  obtain ⟨K, ih⟩ := markRuleS_l0 x.length 0 a x (by omega) h0 h1 h2
  refine ⟨K, fun k hk => ?_⟩
  simp only [laws_markRuleS.f]
  simpa using ih k hk
theorem heldRuleS_l0 : ∀ (d : Nat) (a : Int) (p : List SRule), 0 ≤ a → a + 2 * d ≤ 4611686018427387904 → p.length + d ≤ 4611686018427387904 → Ev (fun k => laws_heldRuleS.l0 k (p ++ marksR a d) a p.length) (a + 2 * d)
  | 0, a, p, h0, h1, h2 => Ev.mk' 0 fun k _ => by
    simp only [laws_heldRuleS.l0]
    rw [if_neg (by simp [marksR])]; simp
  | d + 1, a, p, h0, h1, h2 => by
    obtain ⟨K, ih⟩ := heldRuleS_l0 d (a + 2) (p ++ [⟨a, a + 1⟩]) (by omega) (by omega) (by simp; omega)
    dsimp only at ih
    refine Ev.mk' K fun k hk => ?_
    simp only [laws_heldRuleS.l0]
    have hr : rd_Rule (p ++ marksR a (d + 1)) (p.length : Int) = ⟨a, a + 1⟩ := by simp [rd_Rule, marksR]
    rw [if_pos (by simp [marksR_length]; omega), if_pos (by omega), hr]
    rw [show wrap64 ((p.length : Int) + 1) = ((p.length + 1 : Nat) : Int) from wrap_id (by omega) (by omega), show wrap64 (a + 1) = a + 1 from wrap_id (by omega) (by omega), show wrap64 (a + 1 + 1) = a + 2 by rw [wrap_id (by omega) (by omega)]; omega]
    rw [if_pos rfl, if_pos rfl]
    have := ih k hk
    simp only [List.length_append, List.length_singleton, List.append_assoc, List.singleton_append] at this
    rw [marksR, this]
    congr 1; omega
theorem heldRuleS_ev (n : Nat) (a : Int) (h0 : 0 ≤ a) (h1 : a + 2 * n ≤ 4611686018427387904) (h2 : n ≤ 4611686018427387904) : Ev (fun k => laws_heldRuleS.f k (marksR a n) a) (a + 2 * n) := by
  obtain ⟨K, ih⟩ := heldRuleS_l0 n a [] h0 h1 (by simpa using h2)
  refine ⟨K, fun k hk => ?_⟩
  simp only [laws_heldRuleS.f]
  simpa using ih k hk
end Go.Proofs.Ytphlfkeamhpimaa.P
namespace Go.Proofs.Ytphlfkeamhpimaa.P
open Go.RowKit Go.Proofs.YtphlfkeamhpimaaW.PrintWords Go.Proofs.YtphlfkeamhpimaaW.PrintLast
set_option linter.unusedVariables false
set_option linter.unusedSimpArgs false
theorem FnExactFirstCover : laws_FnExactFirstCover.Pure := by
  intro l0 a1 hl hwf w0
  by_cases hs : l0.length ≤ 1048576
  · obtain ⟨K1, h1⟩ := toIntS_ev l0 (by omega)
    obtain ⟨K2, h2⟩ := eqIntS_ev l0 (by omega)
    obtain ⟨⟨K3, h3⟩, ⟨K4, h4⟩⟩ := FirstCover_main l0 a1 (by omega)
    have hb := vFirst_len l0 a1
    obtain ⟨K5, h5⟩ := eqRuleS_ev (vFirst l0 a1).1 (by omega)
    obtain ⟨K6, h6⟩ := markIntS_ev l0 1 (by omega) (by omega) (by omega)
    obtain ⟨K7, h7⟩ := markRuleS_ev (vFirst l0 a1).1 1 (by omega) (by omega) (by omega)
    obtain ⟨K8, h8⟩ := heldRuleS_ev (vFirst l0 a1).1.length 1 (by omega) (by omega) (by omega)
    dsimp only at h1 h2 h3 h4 h5 h6 h7 h8
    have n0 : ¬ ((l0.length : Int) > 1048576) := by omega
    have n1 : ¬ (1 + (l0.length : Int) < 0) := by omega
    have n2 : ¬ (1 + 2 * ((vFirst l0 a1).1.length : Int) < 0) := by omega
    refine ⟨K1 + K2 + K3 + K4 + K5 + K6 + K7 + K8 + 5, ?_⟩
    simp (disch := omega) only [laws_FnExactFirstCover.f, obind, if_neg n0, h1, h2, h3, h4, h5, h6, h7, h8, if_neg n1, if_neg n2, bne_self_eq_false, if_true, Bool.false_eq_true, if_false]
    simp (disch := omega) only [laws_FnExactFirstCover.j0, obind, if_neg n0, h1, h2, h3, h4, h5, h6, h7, h8, if_neg n1, if_neg n2, bne_self_eq_false, if_true, Bool.false_eq_true, if_false]
    simp (disch := omega) only [laws_FnExactFirstCover.j1, obind, if_neg n0, h1, h2, h3, h4, h5, h6, h7, h8, if_neg n1, if_neg n2, bne_self_eq_false, if_true, Bool.false_eq_true, if_false]
    simp (disch := omega) only [laws_FnExactFirstCover.j2, obind, if_neg n0, h1, h2, h3, h4, h5, h6, h7, h8, if_neg n1, if_neg n2, bne_self_eq_false, if_true, Bool.false_eq_true, if_false]
  · refine ⟨0, ?_⟩
    simp only [laws_FnExactFirstCover.f]
    rw [if_pos (by omega)]
end Go.Proofs.Ytphlfkeamhpimaa.P
