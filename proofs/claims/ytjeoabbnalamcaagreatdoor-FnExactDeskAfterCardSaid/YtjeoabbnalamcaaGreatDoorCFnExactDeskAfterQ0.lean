/- The plain laws on what the functions answer; the last one: the law FnExactDeskAfter answers true for all arguments. Proved in this text: its theorems. Conditions: as each theorem states them. -/
import Derived.Test.YtjeoabbnalamcaaGreatDoorCFnExactDeskAfterP
import Derived.Test.YtjeoabbnalamcaaGreatDoorCFnExactDeskAfterF0
import Derived.Test.YtjeoabbnalamcaaGreatDoorCFnExactDeskAfterF1
import Derived.Test.YtjeoabbnalamcaaGreatDoorCFnExactDeskAfterF2
import Derived.Test.YtjeoabbnalamcaaGreatDoorCFnExactDeskAfterF3
import Derived.Test.YtjeoabbnalamcaaGreatDoorCFnExactDeskAfterF4
import Derived.Test.YtjeoabbnalamcaaGreatDoorCFnExactDeskAfterF5
import Derived.Deep.Slices
import Derived.Deep.Fields
import Derived.ChangeSame
import Derived.ChangeSlices
import Derived.Lib.SmallJoins
import Derived.ProofKit
import Derived.OpenShut
import Derived.ShutString
import Derived.ChangeOld
import Derived.SizedLaws
namespace Go.Proofs.YtjeoabbnalamcaaGreatDoor.P
open Go.RowKit Go.Proofs.YtjeoabbnalamcaaGreatDoorW.qaZ Go.Proofs.YtjeoabbnalamcaaGreatDoorW.PrintLast
set_option linter.unusedVariables false
set_option linter.unusedSimpArgs false
section
open Go.ChangeShapes Go.WideShapes Go.Deep Go.ChangeAt
variable {H : Type} {enc : TypeId × Value → H} {P : Program} {w : World} {base : Nat} {spare : Nat → Bool} {held : Bool}
end
theorem Ev.mk' {α : Type} {g : Nat → Option α} {r : α} (K : Nat) (h : ∀ k, K ≤ k → g (k + 1) = some r) : Ev g r :=
 ⟨K + 1, fun k hk => by obtain ⟨m, rfl⟩ : ∃ m, k = m + 1 := ⟨k - 1, by omega⟩; exact h m (by omega)⟩
theorem qa8 {n : Int} (h1 : -9223372036854775808 ≤ n) (h2 : n ≤ 9223372036854775807) : wrap64 n = n := by unfold wrap64; omega
theorem qaC {α β : Type} (a : α) (f : α → Option β) : (some a).bind f = f a := id rfl
theorem take_set {α : Type} (l : List α) (i : Nat) (v : α) (h : i < l.length) : (l.set i v).take (i + 1) = l.take i ++ [v] := by
 rw [List.take_succ_eq_append_getElem (by simpa using h)]; simp only [List.take_set, List.getElem_set_self]; rw [List.set_eq_of_length_le (by simp; omega)]
theorem qpk (x : qac) : qfj.f x.f0 x.f1 x.f0 x.f1 = some true := by simp [qfj.f]
theorem ql2 (l : List qac) (hm : l.length ≤ 17592186044416) : ∀ (d i : Nat), i + d = l.length → Ev (fun k => qbn.l0 k l l i) true
 | 0, i, h => Ev.mk' 0 fun k _ => by
  simp only [qbn.l0]; rw [if_neg (by omega)]
 | d + 1, i, h => by
  obtain ⟨K, ih⟩ := ql2 l hm d (i + 1) (by omega); dsimp only at ih
  refine Ev.mk' K fun k hk => ?_
  simp only [qbn.l0]; rw [if_pos (by omega), if_pos (by omega), if_pos (by omega), qpk]; rw [show wrap64 ((i : Int) + 1) = ((i + 1 : Nat) : Int) from qa8 (by omega) (by omega)]
  simpa using ih k hk
theorem qre (l : List qac) (hm : l.length ≤ 17592186044416) : Ev (fun k => qbn.f k l l) true := by
 obtain ⟨K, ih⟩ := ql2 l hm l.length 0 (by omega); refine ⟨K, fun k hk => ?_⟩; simp only [qbn.f]; rw [if_pos trivial]; exact ih k hk
def qgs (a : Int) : Nat → List qac
 | 0 => []
 | n + 1 => ⟨a, a + 1⟩ :: qgs (a + 2) n
theorem qm5 (n : Nat) : ∀ a, (qgs a n).length = n := by
 induction n with
 | zero => intro a; rfl
 | succ n ih => intro a; simp [qgs, ih]
theorem rd_set (l : List qac) (i : Nat) (v : qac) (h : i < l.length) : qad (l.set i v) i = v := by
 simp [qad, List.getD, h]
theorem qjZ : ∀ (d i : Nat) (a : Int) (x : List qac), i + d = x.length → 0 ≤ a → a + 2 * d ≤ 4611686018427387904 → x.length ≤ 4611686018427387904 → Ev (fun k => qbM.l0 k x a i) (a + 2 * d, x.take i ++ qgs a d)
 | 0, i, a, x, h, h0, h1, h2 => Ev.mk' 0 fun k _ => by
  simp only [qbM.l0]; rw [if_neg (by omega), List.take_of_length_le (by omega)]; simp [qgs]
 | d + 1, i, a, x, h, h0, h1, h2 => by
  obtain ⟨K, ih⟩ := qjZ d (i + 1) (a + 2) (x.set i ⟨a, a + 1⟩) (by simp; omega) (by omega) (by omega) (by simpa using h2); dsimp only at ih
  refine Ev.mk' K fun k hk => ?_
  simp only [qbM.l0, Option.bind_some, Int.toNat_natCast]; rw [if_pos (by omega), if_pos (by omega)]; rw [show wrap64 ((i : Int) + 1) = ((i + 1 : Nat) : Int) from qa8 (by omega) (by omega), show wrap64 (a + 1) = a + 1 from qa8 (by omega) (by omega), show wrap64 (a + 1 + 1) = a + 2 by rw [qa8 (by omega) (by omega)]; omega]; rw [rd_set x i _ (by omega), List.set_set]; have := ih k hk; rw [take_set x i _ (by omega)] at this; rw [this, qgs]
  simp; omega
theorem qoi (x : List qac) (a : Int) (h0 : 0 ≤ a) (h1 : a + 2 * x.length ≤ 4611686018427387904) (h2 : x.length ≤ 4611686018427387904) : Ev (fun k => qbM.f k x a) (a + 2 * x.length, qgs a x.length) := by
 obtain ⟨K, ih⟩ := qjZ x.length 0 a x (by omega) h0 h1 h2; refine ⟨K, fun k hk => ?_⟩; simp only [qbM.f]
 simpa using ih k hk
theorem qjP : ∀ (d : Nat) (a : Int) (p : List qac), 0 ≤ a → a + 2 * d ≤ 4611686018427387904 → p.length + d ≤ 4611686018427387904 → Ev (fun k => qbV.l0 k (p ++ qgs a d) a p.length) (a + 2 * d)
 | 0, a, p, h0, h1, h2 => Ev.mk' 0 fun k _ => by
  simp only [qbV.l0]; rw [if_neg (by simp [qgs])]; simp
 | d + 1, a, p, h0, h1, h2 => by
  obtain ⟨K, ih⟩ := qjP d (a + 2) (p ++ [⟨a, a + 1⟩]) (by omega) (by omega) (by simp; omega); dsimp only at ih
  refine Ev.mk' K fun k hk => ?_
  simp only [qbV.l0]
  have hr : qad (p ++ qgs a (d + 1)) (p.length : Int) = ⟨a, a + 1⟩ := by simp [qad, qgs]
  rw [if_pos (by simp [qm5]; omega), if_pos (by omega), hr]; rw [show wrap64 ((p.length : Int) + 1) = ((p.length + 1 : Nat) : Int) from qa8 (by omega) (by omega), show wrap64 (a + 1) = a + 1 from qa8 (by omega) (by omega), show wrap64 (a + 1 + 1) = a + 2 by rw [qa8 (by omega) (by omega)]; omega]; rw [if_pos rfl, if_pos rfl]; have := ih k hk; simp only [List.length_append, List.length_singleton, List.append_assoc, List.singleton_append] at this; rw [qgs, this]
  congr 1; omega
theorem qn6 (n : Nat) (a : Int) (h0 : 0 ≤ a) (h1 : a + 2 * n ≤ 4611686018427387904) (h2 : n ≤ 4611686018427387904) : Ev (fun k => qbV.f k (qgs a n) a) (a + 2 * n) := by
 obtain ⟨K, ih⟩ := qjP n a [] h0 h1 (by simpa using h2); refine ⟨K, fun k hk => ?_⟩; simp only [qbV.f]
 simpa using ih k hk
theorem qmO (s : ByteArray) (i : Nat) (h : i < s.size) : bt s (i : Int) = ((s.data.toList[i]'(by rw [Array.length_toList]; exact h)).toNat : Int) := by
 have e := qeu s (i : Int) h
 have e2 : s.data.toList[i]'(by rw [Array.length_toList]; exact h) = s[i]'h := by simp; rfl
 rw [e2]; exact e.symm
theorem u8_eq {x : UInt8} {n : Nat} (hn : n < 256) (h : (x.toNat : Int) = (n : Int)) : x = UInt8.ofNat n := by
 apply UInt8.toNat_inj.mp; rw [UInt8.toNat_ofNat_of_lt' hn]; omega
theorem qqm (s : ByteArray) (a b : Nat) : s.extract a b = ⟨((s.data.toList.take b).drop a).toArray⟩ := by
 apply ByteArray.ext; apply Array.toList_inj.1; rw [List.drop_take]
 simp [ByteArray.data_extract, Array.toList_extract, List.extract]
def bs (l : List UInt8) : ByteArray := ⟨l.toArray⟩
theorem qfT (a b : List UInt8) : bs a ++ bs b = bs (a ++ b) := by apply ByteArray.ext; simp [bs, ByteArray.data_append]
theorem qdb (a : List UInt8) : (bs a).size = a.length := by show a.toArray.size = a.length; simp
theorem qgJ (a : List UInt8) : (bs a).data.toList = a := by simp [bs]
theorem qhL (a : List UInt8) : (bs a).toList = a := by rw [ByteArray.toList_eq, qgJ]
theorem bs_of (s : ByteArray) : bs s.data.toList = s := by cases s; simp [bs]
theorem qsd {a b : ByteArray} (h : a.toList = b.toList) : a = b := by
 have h := congrArg bs h; rwa [ByteArray.toList_eq, ByteArray.toList_eq, bs_of, bs_of] at h
def consH (x : UInt8) : List (List UInt8) → List (List UInt8)
 | [] => [[x]]
 | h :: t => (x :: h) :: t
def spl (c : UInt8) : List UInt8 → List (List UInt8)
 | [] => [[]]
 | x :: l => if x = c then [] :: spl c l else consH x (spl c l)
theorem qj3 (c : UInt8) : ∀ l, spl c l ≠ []
 | [] => by simp [spl]
 | x :: l => by
  simp only [spl]; split
  ·simp
  ·cases spl c l <;> simp [consH]
theorem qf9 (c : UInt8) : ∀ l : List UInt8, c ∉ l → spl c l = [l]
 | [], _ => rfl
 | x :: l, h => by
  simp only [List.mem_cons, not_or] at h; simp only [spl]; rw [if_neg (fun e => h.1 e.symm), qf9 c l h.2]; rfl
theorem qhZ (c : UInt8) : ∀ (b r : List UInt8), c ∉ b → spl c (b ++ c :: r) = b :: spl c r
 | [], r, _ => by simp [spl]
 | x :: b, r, h => by
  simp only [List.mem_cons, not_or] at h; rw [List.cons_append]; simp only [spl]; rw [if_neg (fun e => h.1 e.symm), qhZ c b r h.2]; rfl
theorem qh7 (c : UInt8) : ∀ l : List UInt8, c ∉ l ∨ ∃ b r, l = b ++ c :: r ∧ c ∉ b
 | [] => .inl (by simp)
 | x :: l => by
  by_cases e : x = c
  ·subst e; exact .inr ⟨[], l, rfl, by simp⟩
  ·rcases qh7 c l with h | ⟨b, r, rfl, h⟩
   ·exact .inl (by simp only [List.mem_cons, not_or]; exact ⟨fun e2 => e e2.symm, h⟩)
   ·exact .inr ⟨x :: b, r, rfl, by simp only [List.mem_cons, not_or]; exact ⟨fun e2 => e e2.symm, h⟩⟩
theorem qmy (c : UInt8) : ∀ l : List UInt8, (spl c l).length = l.count c + 1
 | [] => rfl
 | x :: l => by
  have ih := qmy c l; simp only [spl]; by_cases e : x = c
  ·subst e
   rw [if_pos rfl, List.length_cons, ih, List.count_cons_self]
  ·rw [if_neg e, List.count_cons_of_ne e]
   cases h2 : spl c l with
   | nil => exact absurd h2 (qj3 c l)
   | cons a t => rw [h2] at ih; simp only [consH, List.length_cons] at ih ⊢; exact ih
theorem qnf (c : UInt8) : ∀ (l p : List UInt8), p ∈ spl c l → c ∉ p ∧ p.length ≤ l.length
 | [], p, h => by simp only [spl, List.mem_singleton] at h; subst h; simp
 | x :: l, p, h => by
  simp only [spl] at h; by_cases e : x = c
  ·rw [if_pos e, List.mem_cons] at h
   rcases h with rfl | h
   ·simp
   ·have := qnf c l p h; exact ⟨this.1, by simp only [List.length_cons]; omega⟩
  ·rw [if_neg e] at h
   cases h2 : spl c l with
   | nil => exact absurd h2 (qj3 c l)
   | cons a t =>
    rw [h2] at h; simp only [consH, List.mem_cons] at h
    rcases h with rfl | h
    ·have := qnf c l a (by rw [h2]; simp)
     refine ⟨?_, by simp only [List.length_cons]; omega⟩; simp only [List.mem_cons, not_or]; exact ⟨fun e2 => e e2.symm, this.1⟩
    ·have := qnf c l p (by rw [h2]; simp [h]); exact ⟨this.1, by simp only [List.length_cons]; omega⟩
theorem index_hit (c : UInt8) : ∀ (b r : List UInt8), c ∉ b → Lib.index (b ++ c :: r) [c] = (b.length : Int)
 | [], r, _ => by simp [Lib.index, List.isPrefixOf]
 | x :: b, r, h => by
  simp only [List.mem_cons, not_or] at h
  have hp : ([c] : List UInt8).isPrefixOf (x :: (b ++ c :: r)) = false := by simp [List.isPrefixOf, h.1]
  rw [List.cons_append, Lib.index, hp, index_hit c b r h.2]; have hb : ((b.length : Int) == -1) = false := beq_eq_false_iff_ne.2 (by omega)
  simp [hb]
theorem qh5 (c : UInt8) : ∀ l : List UInt8, c ∉ l → Lib.index l [c] = -1
 | [], _ => rfl
 | x :: l, h => by
  simp only [List.mem_cons, not_or] at h
  have hp : ([c] : List UInt8).isPrefixOf (x :: l) = false := by simp [List.isPrefixOf, h.1]
  rw [Lib.index, hp, qh5 c l h.2]; rfl
theorem qmU (c : UInt8) (b r : List UInt8) (h : c ∉ b) : Lib.cut (b ++ c :: r) [c] = (b, r, true) := by
 unfold Lib.cut; rw [index_hit c b r h, if_pos (by omega)]
 simp
theorem cut_miss (c : UInt8) (l : List UInt8) (h : c ∉ l) : Lib.cut l [c] = (l, [], false) := by
 unfold Lib.cut; rw [qh5 c l h, if_neg (by decide)]
theorem qoa (c : UInt8) (b r : List UInt8) (h : c ∉ b) : (b ++ c :: r).count c = r.count c + 1 := by
 rw [List.count_append, List.count_eq_zero.2 h, List.count_cons_self]; omega
theorem countF (c : UInt8) : ∀ (f : Nat) (l : List UInt8), l.length < f → Lib.countFrom [c] f l = l.count c
 | 0, l, h => absurd h (by omega)
 | f + 1, l, h => by
  unfold Lib.countFrom
  rcases qh7 c l with hn | ⟨b, r, rfl, hb⟩
  ·rw [qh5 c l hn, if_pos (by decide), List.count_eq_zero.2 hn]
  ·have hk : ((b.length : Int) == -1) = false := beq_eq_false_iff_ne.2 (by omega)
   have e : (b ++ c :: r).drop (b.length + 1) = r := by simp
   rw [List.length_append, List.length_cons] at h; rw [index_hit c b r hb, hk, qoa c b r hb, Int.toNat_natCast, show ([c] : List UInt8).length = 1 from rfl, e, countF c f r (by omega)]
   simp; omega
theorem qmz (c : UInt8) : ∀ (k : Nat) (l : List UInt8), l.count c ≤ k → Lib.splitK [c] 0 k l = spl c l
 | 0, l, h => by
  rw [qf9 c l (List.count_eq_zero.1 (by omega))]; rfl
 | k + 1, l, h => by
  unfold Lib.splitK
  rcases qh7 c l with hn | ⟨b, r, rfl, hb⟩
  ·rw [qh5 c l hn, if_pos (by decide), qf9 c l hn]
  ·have hk : ((b.length : Int) == -1) = false := beq_eq_false_iff_ne.2 (by omega)
   have e : (b ++ c :: r).drop (b.length + 1) = r := by simp
   have e2 : (b ++ c :: r).take (b.length + 0) = b := by simp
   rw [qoa c b r hb] at h; rw [index_hit c b r hb, hk, qhZ c b r hb, Int.toNat_natCast, show ([c] : List UInt8).length = 1 from rfl, e, e2, qmz c k r (by omega)]
   simp
def bas (l : List (List UInt8)) : List ByteArray := l.map fun p => ⟨p.toArray⟩
theorem ba_eq (s : ByteArray) : (⟨s.data.toList.toArray⟩ : ByteArray) = s := by cases s; simp
theorem qiM (c : UInt8) (s : ByteArray) : qgQ c s = bas (spl c s.data.toList) := by
 have h := Lib.splitB_data ⟨#[c]⟩ 0 (Lib.countB s ⟨#[c]⟩) s; have hk : Lib.splitK (⟨#[c]⟩ : ByteArray).data.toList 0 (Lib.countB s ⟨#[c]⟩) s.data.toList = spl c s.data.toList := qmz c _ _ (Nat.le_of_eq (countF c _ _ (Nat.lt_succ_self _)).symm); rw [hk] at h; unfold bas; rw [← h, List.map_map]; unfold qgQ; exact (List.map_id'' (fun x => ba_eq x) _).symm
theorem qng (c : UInt8) (s : ByteArray) (hz : s.size ≤ 1048576) : ∀ (d i m : Nat) (out : List ByteArray), i + d = s.size → m ≤ i → out.length + d ≤ 1048576 → c ∉ (s.data.toList.take i).drop m → Ev (fun k => qbj.l0 k s (c.toNat : Int) out (m : Int) (i : Int)) (out ++ bas (spl c (s.data.toList.drop m)))
 | 0, i, m, out, h, hm, ho, hn => Ev.mk' 0 fun k _ => by
  have hl : s.data.toList.length = s.size := Array.length_toList; rw [List.take_of_length_le (by omega)] at hn; simp only [qbj.l0]; rw [if_neg (by omega), if_pos (by omega), if_pos (by omega), if_pos (by omega), qf9 c _ hn, qqm, List.take_of_length_le (by omega)]; rfl
 | d + 1, i, m, out, h, hm, ho, hn => by
  have hl : s.data.toList.length = s.size := Array.length_toList; have hd : s.data.toList.drop i = s.data.toList[i]'(by omega) :: s.data.toList.drop (i + 1) := List.drop_eq_getElem_cons (by omega); have hb := qmO s i (by omega)
  have hs : s.data.toList.drop m = (s.data.toList.take i).drop m ++ s.data.toList.drop i := by
   rw [← List.drop_append_of_le_length (by rw [List.length_take]; omega), List.take_append_drop]
  by_cases hc : s.data.toList[i]'(by omega) = c
  ·obtain ⟨K, ih⟩ := qng c s hz d (i + 1) (i + 1) (out ++ [s.extract m i]) (by omega) (Nat.le_refl _) (by simp; omega) (by rw [List.drop_eq_nil_of_le (by rw [List.length_take]; omega)]; simp)
   dsimp only at ih
   refine Ev.mk' K fun k hk => ?_
   simp only [qbj.l0, Int.toNat_natCast]; rw [if_pos (by omega), if_pos (by omega), if_pos (by rw [hb, hc]), if_pos (by omega), if_pos (by omega), if_pos (by omega), if_pos (by omega), qa8 (by omega) (by omega), show ((i : Int) + 1) = ((i + 1 : Nat) : Int) by omega, ih k hk, hs, hd, hc, qhZ c _ _ hn, qqm]
   simp [bas]
  ·obtain ⟨K, ih⟩ := qng c s hz d (i + 1) m out (by omega) (by omega) (by omega) (by
    rw [List.take_succ_eq_append_getElem (by omega), List.drop_append_of_le_length (by rw [List.length_take]; omega), List.mem_append, List.mem_singleton]; rintro (h_ | h_)
    ·exact hn h_
    ·exact hc h_.symm)
   dsimp only at ih
   refine Ev.mk' K fun k hk => ?_
   simp only [qbj.l0]
   rw [if_pos (by omega), if_pos (by omega), if_neg (by
    rw [hb]; intro h_; exact hc (UInt8.toNat_inj.mp (by omega))), qa8 (by omega) (by omega), show ((i : Int) + 1) = ((i + 1 : Nat) : Int) by omega, ih k hk]
theorem qkv (c : UInt8) (s : ByteArray) (hz : s.size ≤ 1048576) : Ev (fun k => qbj.f k s (c.toNat : Int)) (bas (spl c s.data.toList)) := by
 obtain ⟨K, h⟩ := qng c s hz s.size 0 0 [] (by omega) (Nat.le_refl _) (by simpa using hz) (by simp); exact ⟨K, fun k hk => by show qbj.l0 k s (c.toNat : Int) [] 0 0 = _; simpa using h k hk⟩
theorem qd6 (a b c : Int) : qbi.f a b c = some (decide (b ≤ a) && decide (a ≤ c)) := by
 unfold qbi.f
 by_cases h : b ≤ a <;> simp [h]
def left (l : List qac) (n : Int) : Bool := !(l.any (qfy n))
def qaJ (l : List qac) : Bool := decide (l.length ≤ 12) && l.all qbF
theorem qdi (x : qac) : qbF x = true ↔ 2 ≤ x.f0 ∧ x.f0 ≤ 60 ∧ 0 ≤ x.f1 ∧ x.f1 < x.f0 := by
 unfold qbF; simp
theorem qtW (x : qac) : qfl.f x.f0 x.f1 = some (qbF x) := by
 unfold qfl.f qbF; simp only [qd6, Option.bind_some]; by_cases h1 : 2 ≤ x.f0
 ·by_cases h2 : x.f0 ≤ 60
  ·have : wrap64 (x.f0 - 1) = x.f0 - 1 := qa8 (by omega) (by omega)
   rw [this]; by_cases h3 : 0 ≤ x.f1
   ·simp [h1, h2, h3]; omega
   ·simp [h1, h2, h3]
  ·simp [h1, h2]
 ·simp [h1]
theorem qlo (l : List qac) (k : Nat) (h : k < l.length) : l.drop k = qad l k :: l.drop (k + 1) := qkQ l k h
theorem qov (l : List qac) (hm : l.length ≤ 12) : ∀ d i : Nat, i + d = l.length → Ev (fun k => qaP.l0 k l l.length i) ((l.drop i).all qbF)
 | 0, i, h => Ev.mk' 0 fun k _ => by
  simp only [qaP.l0]; rw [if_neg (by omega), List.drop_eq_nil_of_le (by omega)]; rfl
 | d + 1, i, h => by
  obtain ⟨K, ih⟩ := qov l hm d (i + 1) (by omega); dsimp only at ih
  refine Ev.mk' K fun k hk => ?_
  simp only [qaP.l0]; rw [if_pos (by omega), if_pos (by omega), if_pos (by omega), qtW, qlo l i (by omega), List.all_cons, Option.bind_some]; rw [show wrap64 ((i : Int) + 1) = ((i + 1 : Nat) : Int) from qa8 (by omega) (by omega), ih k hk]
  cases qbF (qad l i) <;> simp
theorem qfd (l : List qac) : Ev (fun k => qaP.f k l) (qaJ l) := by
 unfold qaJ; by_cases h : l.length ≤ 12
 ·obtain ⟨K, ih⟩ := qov l h l.length 0 (by omega)
  refine ⟨K, fun k hk => ?_⟩; simp only [qaP.f]; rw [if_neg (by omega)]
  simpa [h] using ih k hk
 ·refine ⟨0, fun k _ => ?_⟩
  simp only [qaP.f]; rw [if_pos (by omega)]
  simp [h]
theorem qdv (l : List qac) : qbb.f l = some (qaJ l) := rfl
theorem qb5 {l : List qac} (h : qaJ l = true) : l.length ≤ 12 ∧ l.all qbF = true := by
 unfold qaJ at h
 simpa using h
theorem qow (n : Int) (x : qac) (h : qbF x = true) : qcB.f n x.f0 = some (n % x.f0) := by
 have := qtH n x.f0 ((qdi x).1 h).1 ((qdi x).1 h).2.1; exact this
theorem qmu (n : Int) (l : List qac) (hm : l.length ≤ 9223372036854775807) (hl : l.all qbF = true) : ∀ d i : Nat, i + d = l.length → Ev (fun k => qcz.l0 k n l l.length i) (qei (qfy n) (l.drop i) i)
 | 0, i, h => Ev.mk' 0 fun k _ => by
  simp only [qcz.l0]; rw [if_neg (by omega), List.drop_eq_nil_of_le (by omega)]; rfl
 | d + 1, i, h => by
  obtain ⟨K, ih⟩ := qmu n l hm hl d (i + 1) (by omega); dsimp only at ih
  refine Ev.mk' K fun k hk => ?_
  simp only [qcz.l0]; rw [if_pos (by omega), if_pos (by omega), if_pos (by omega), qow n _ (List.all_eq_true.mp hl _ (qor l i (by omega))), qlo l i (by omega), Option.bind_some]; rw [show wrap64 ((i : Int) + 1) = ((i + 1 : Nat) : Int) from qa8 (by omega) (by omega), ih k hk]; rw [qei]; by_cases hc : n % (qad l i).f0 = (qad l i).f1
  ·rw [if_pos hc, if_pos (by simp [qfy, hc])]
  ·rw [if_neg hc, if_neg (by simp [qfy, hc])]; rfl
theorem qrF (n : Int) (l : List qac) (hm : l.length ≤ 9223372036854775807) (hl : l.all qbF = true) : Ev (fun k => qcz.f k l n) (qei (qfy n) l 0) :=
 qmu n l hm hl l.length 0 (by omega)
theorem ql5 (n : Int) (l : List qac) : decide (qei (qfy n) l 0 < 0) = left l n := by
 have h := qir (qfy n) l 0 (by omega); unfold left; rw [← h]; by_cases hc : 0 ≤ qei (qfy n) l 0
 ·simp [hc, Int.not_lt.mpr hc]
 ·simp [hc, Int.not_le.mp hc]
theorem qhX (n : Int) (l : List qac) (hm : l.length ≤ 9223372036854775807) (hl : l.all qbF = true) : Ev (fun k => qcj.f k l n) (left l n) := by
 obtain ⟨K, h⟩ := qrF n l hm hl; refine ⟨K, fun k hk => ?_⟩; simp only [qcj.f, h k hk, Option.bind_some, ql5]
theorem qgr (n : Int) (l : List qac) (hl : l.all qbF = true) : qcU.f l n = some (left l n) := by
 simp only [qcU.f, qek.f, if_pos hl, Option.bind_some, ql5]
def lefts (l : List qac) (i : Int) : Nat → List Int
 | 0 => []
 | m + 1 => (if left l i = true then [i] else []) ++ lefts l (i + 1) m
theorem qjX (l : List qac) (m : Nat) : ∀ i, (lefts l i m).length ≤ m := by
 induction m with
 | zero => intro i; simp [lefts]
 | succ m ih =>
  intro i; have := ih (i + 1); simp only [lefts, List.length_append]
  split <;> simp <;> omega
theorem qgN (l : List qac) (hl : l.all qbF = true) (hi : Int) (h2 : hi ≤ 4611686018427387904) : ∀ (m : Nat) (i : Int) (acc : List Int), i + m = hi + 1 → -4611686018427387904 ≤ i → acc.length + m < 17592186044416 → Ev (fun k => qaD.l0 k l hi acc i) (acc ++ lefts l i m)
 | 0, i, acc, h, h0, h1 => Ev.mk' 0 fun k _ => by
  simp only [qaD.l0]; rw [if_neg (by omega)]; simp [lefts]
 | m + 1, i, acc, h, h0, h1 => by
  simp only [lefts]; by_cases hc : left l i = true
  ·obtain ⟨K, ih⟩ := qgN l hl hi h2 m (i + 1) (acc ++ [i]) (by omega) (by omega) (by simp; omega)
   dsimp only at ih
   refine Ev.mk' K fun k hk => ?_
   simp only [qaD.l0, qgr i l hl, Option.bind_some]; rw [if_pos (by omega), if_pos hc, if_pos (by omega), qa8 (by omega) (by omega), ih k hk, if_pos hc]
   simp
  ·obtain ⟨K, ih⟩ := qgN l hl hi h2 m (i + 1) acc (by omega) (by omega) (by omega)
   dsimp only at ih
   refine Ev.mk' K fun k hk => ?_
   simp only [qaD.l0, qgr i l hl, Option.bind_some]; rw [if_pos (by omega), if_neg hc, qa8 (by omega) (by omega), ih k hk, if_neg hc]
   simp
def qgO (l : List qac) (lo hi : Int) : List Int := lefts l lo (hi + 1 - lo).toNat
theorem qig (l : List qac) (hl : l.all qbF = true) (lo hi : Int) (h0 : -4611686018427387904 ≤ lo) (h2 : hi ≤ 4611686018427387904) (h1 : hi - lo < 17592186044415) : Ev (fun k => qaD.f k l lo hi) (qgO l lo hi) := by
 unfold qgO; by_cases h : lo ≤ hi + 1
 ·obtain ⟨K, ih⟩ := qgN l hl hi h2 (hi + 1 - lo).toNat lo [] (by omega) h0 (by simp; omega)
  refine ⟨K, fun k hk => ?_⟩; simp only [qaD.f]
  simpa using ih k hk
 ·refine Ev.mk' 0 fun k _ => ?_
  simp only [qaD.f, qaD.l0]; rw [if_neg (by omega), show (hi + 1 - lo).toNat = 0 by omega]; rfl
theorem qi8 (l : List qac) (hm : l.length ≤ 12) (hl : l.all qbF = true) (hi : Int) (h2 : hi ≤ 4611686018427387904) : ∀ (m : Nat) (i : Int) (acc : List Int), i + m = hi + 1 → -4611686018427387904 ≤ i → acc.length + m < 17592186044416 → Ev (fun k => qb1.l0 k l hi acc i) (acc ++ lefts l i m)
 | 0, i, acc, h, h0, h1 => Ev.mk' 0 fun k _ => by
  simp only [qb1.l0]; rw [if_neg (by omega)]; simp [lefts]
 | m + 1, i, acc, h, h0, h1 => by
  obtain ⟨K1, h3⟩ := qhX i l (by omega) hl; dsimp only at h3; simp only [lefts]; by_cases hc : left l i = true
  ·obtain ⟨K, ih⟩ := qi8 l hm hl hi h2 m (i + 1) (acc ++ [i]) (by omega) (by omega) (by simp; omega)
   dsimp only at ih
   refine Ev.mk' (K + K1) fun k hk => ?_
   simp only [qb1.l0, h3 k (by omega), Option.bind_some]; rw [if_pos (by omega), if_pos hc, if_pos (by omega), qa8 (by omega) (by omega), ih k (by omega), if_pos hc]
   simp
  ·obtain ⟨K, ih⟩ := qi8 l hm hl hi h2 m (i + 1) acc (by omega) (by omega) (by omega)
   dsimp only at ih
   refine Ev.mk' (K + K1) fun k hk => ?_
   simp only [qb1.l0, h3 k (by omega), Option.bind_some]; rw [if_pos (by omega), if_neg hc, qa8 (by omega) (by omega), ih k (by omega), if_neg hc]
   simp
theorem qtU (l : List qac) (hm : l.length ≤ 12) (hl : l.all qbF = true) (n : Int) (h0 : 0 ≤ n) (h1 : n ≤ 600) : Ev (fun k => qb1.f k l n) (qgO l 1 n) := by
 obtain ⟨K, ih⟩ := qi8 l hm hl n (by omega) (n + 1 - 1).toNat 1 [] (by omega) (by omega) (by simp; omega); exact ⟨K, fun k hk => ih k hk⟩
def qeI (n : Int) : Bool := decide (0 ≤ n) && decide (n ≤ 600)
theorem qtV (l : List qac) (n : Int) : Ev (fun k => qdM.f k l n) (qaJ l && qeI n) := by
 obtain ⟨K, h⟩ := qfd l; refine ⟨K, fun k hk => ?_⟩; have h := h k hk; dsimp only at h; simp only [qdM.f, h, Option.bind_some, qd6, qeI]
 cases qaJ l <;> simp
theorem qtA (n : Int) : qfh.f n = some (qeI n) := by
 unfold qfh.f qeI
 by_cases h : 0 ≤ n <;> simp [h]
theorem qlK (l : List qac) (lo hi : Int) : (qgO l lo hi).length ≤ (hi + 1 - lo).toNat := qjX _ _ _
def p12 : List Int := [2, 3, 5, 7, 11, 13, 17, 19, 23, 29, 31, 37]
def PR (n : Nat) : List qac := (p12.take n).map fun p => ⟨p, 0⟩
theorem n12 {n : Nat} (h : n ≤ 12) : n = 0 ∨ n = 1 ∨ n = 2 ∨ n = 3 ∨ n = 4 ∨ n = 5 ∨ n = 6 ∨ n = 7 ∨ n = 8 ∨ n = 9 ∨ n = 10 ∨ n = 11 ∨ n = 12 := by omega
theorem rop_ok (k n : Nat) (h : n ≤ 12) : qbv.f (k + 60) (n : Int) = some (PR n) := by
 rcases n12 h with rfl | rfl | rfl | rfl | rfl | rfl | rfl | rfl | rfl | rfl | rfl | rfl | rfl <;> kernel_rfl
theorem prr_ok (k n : Nat) (h : n ≤ 12) : qcl.f (k + 60) (n : Int) = some (PR n) := by
 rcases n12 h with rfl | rfl | rfl | rfl | rfl | rfl | rfl | rfl | rfl | rfl | rfl | rfl | rfl <;> kernel_rfl
theorem PR_good {n : Nat} (h : n ≤ 12) : qaJ (PR n) = true := by
 rcases n12 h with rfl | rfl | rfl | rfl | rfl | rfl | rfl | rfl | rfl | rfl | rfl | rfl | rfl <;> decide
theorem qo0 (n : Nat) : ∃ v : List qac × Bool, (v.2 = true → qaJ v.1 = true) ∧ Ev (fun k => qcD.f k (n : Int)) v ∧ Ev (fun k => qcG.f k (n : Int)) v := by
 by_cases c : n ≤ 12
 ·refine ⟨(PR n, true), fun _ => PR_good c, ⟨60, fun k hk => ?_⟩, ⟨60, fun k hk => ?_⟩⟩ <;> obtain ⟨j, rfl⟩ : ∃ j, k = j + 60 := ⟨k - 60, by omega⟩
  ·show qcD.f (j + 60) n = _
   unfold qcD.f; rw [if_neg (by omega), if_neg (by omega), rop_ok j n c, qaC]
  ·show qcG.f (j + 60) n = _
   unfold qcG.f qgG.f; rw [qd6, qaC, qaC, decide_eq_true (show (0 : Int) ≤ n by omega), decide_eq_true (show (n : Int) ≤ 12 by omega), prr_ok j n c]; rfl
 ·refine ⟨([], false), fun h => absurd h (by decide), ⟨0, fun k hk => ?_⟩, ⟨0, fun k hk => ?_⟩⟩
  ·show qcD.f k n = _
   unfold qcD.f; rw [if_neg (by omega), if_pos (by omega)]
  ·show qcG.f k n = _
   unfold qcG.f qgG.f; rw [qd6, qaC, qaC, decide_eq_true (show (0 : Int) ≤ n by omega), decide_eq_false (show ¬ (n : Int) ≤ 12 by omega)]; rfl
theorem qnu : Ev (fun k => qdX.f k) (([⟨2, 0⟩, ⟨3, 0⟩] : List qac), 30) := by
 refine ⟨60, fun k hk => ?_⟩
 obtain ⟨j, rfl⟩ : ∃ j, k = j + 60 := ⟨k - 60, by omega⟩
 show qdX.f (j + 60) = _
 unfold qdX.f; rw [show qcl.f (j + 60) 2 = some (PR 2) from prr_ok j 2 (by omega), qaC]; rfl
section
open Lib
def qnR (c : UInt8) : Bool := decide (48 ≤ c.toNat) && decide (c.toNat ≤ 57)
theorem qeR (c : UInt8) : qnR c = true ↔ 48 ≤ c.toNat ∧ c.toNat ≤ 57 := by unfold qnR; simp
def dstep (a : Nat) (c : UInt8) : Nat := 10 * a + (c.toNat - 48)
def qko (acc : Nat) (l : List UInt8) : Nat := l.foldl dstep acc
theorem qg6 (acc : Nat) : qko acc [] = acc := rfl
theorem dstep_eq (a : Nat) (c : UInt8) : dstep a c = 10 * a + (c.toNat - 48) := by unfold dstep; rfl
theorem qeH (acc : Nat) (c : UInt8) (r : List UInt8) : qko acc (c :: r) = qko (10 * acc + (c.toNat - 48)) r := by unfold qko; rw [List.foldl_cons, dstep_eq]
theorem qg5 : ∀ (a b : List UInt8) (acc : Nat), qko acc (a ++ b) = qko (qko acc a) b
 | [], b, acc => rfl
 | c :: a, b, acc => by rw [List.cons_append, qeH, qeH]; exact qg5 a b _
theorem qiW : ∀ (l : List UInt8) (acc : Nat), acc * 10 ^ l.length ≤ qko acc l
 | [], acc => by simp [qg6]
 | c :: l, acc => by
  have ih := qiW l (10 * acc + (c.toNat - 48)); simp only [qeH, List.length_cons, Nat.pow_succ]; refine Nat.le_trans ?_ ih; rw [show acc * (10 ^ l.length * 10) = (10 * acc) * 10 ^ l.length by rw [Nat.mul_comm (10 ^ l.length), ← Nat.mul_assoc, Nat.mul_comm acc]]; exact Nat.mul_le_mul_right _ (by omega)
theorem qsy : ∀ (l : List UInt8) (acc : Nat), l.all qnR = true → qko acc l < (acc + 1) * 10 ^ l.length
 | [], acc, _ => by simp [qg6]
 | c :: l, acc, h => by
  rw [List.all_cons, Bool.and_eq_true, qeR] at h; have ih := qsy l (10 * acc + (c.toNat - 48)) h.2; simp only [qeH, List.length_cons, Nat.pow_succ]; refine Nat.lt_of_lt_of_le ih ?_; rw [show (acc + 1) * (10 ^ l.length * 10) = (10 * (acc + 1)) * 10 ^ l.length by rw [Nat.mul_comm (10 ^ l.length), ← Nat.mul_assoc, Nat.mul_comm (acc + 1)]]; exact Nat.mul_le_mul_right _ (by omega)
def qsm (w : List UInt8) : Prop := w ≠ [] ∧ w.all qnR = true ∧ (w.length = 1 ∨ w.head? ≠ some 48)
theorem qq1 {d : Nat} (h : d < 10) : (UInt8.ofNat (48 + d)).toNat = 48 + d := by
 rw [UInt8.toNat_ofNat']; omega
theorem qlI (v d : Nat) (hv : 1 ≤ v) (hd : d < 10) : decDigits (10 * v + d) = decDigits v ++ [UInt8.ofNat (48 + d)] := by
 rw [decDigits, dif_neg (by omega), show (10 * v + d) / 10 = v by omega, show (10 * v + d) % 10 = d by omega]
theorem qkX {a b : List UInt8} (h : a ≠ []) : (a ++ b).head? = a.head? := by
 cases a with
 | nil => exact absurd rfl h
 | cons x a => rfl
theorem qdG (n : Nat) : qsm (decDigits n) ∧ qko 0 (decDigits n) = n ∧ (1 ≤ n → (decDigits n).head? ≠ some 48) := by
 induction n using Nat.strongRecOn with
 | _ n ih =>
  by_cases c : n < 10
  ·rw [decDigits_one c]
   have h := qq1 c; refine ⟨⟨by simp, ?_, .inl rfl⟩, ?_, fun h1 e => ?_⟩
   ·rw [List.all_cons, List.all_nil, Bool.and_true, qeR]; omega
   ·simp only [qeH, qg6]; omega
   ·have e := Option.some.inj e
    rw [e] at h; have : (48 : UInt8).toNat = 48 := rfl; omega
  ·obtain ⟨⟨h1, h2, h3⟩, h4, h5⟩ := ih (n / 10) (by omega)
   have e : decDigits n = decDigits (n / 10) ++ [UInt8.ofNat (48 + n % 10)] := by rw [decDigits, dif_neg c]
   have hd := qq1 (show n % 10 < 10 by omega); rw [e]
   have hh : (decDigits (n / 10) ++ [UInt8.ofNat (48 + n % 10)]).head? ≠ some 48 := by rw [qkX h1]; exact h5 (by omega)
   refine ⟨⟨by simp, ?_, .inr hh⟩, ?_, fun _ => hh⟩
   ·rw [List.all_append, h2, List.all_cons, List.all_nil, Bool.and_true, Bool.true_and, qeR]; omega
   ·rw [qg5, h4]; simp only [qeH, qg6]; omega
theorem qnK : ∀ (k : Nat) (w : List UInt8), w.length = k + 1 → qsm w → decDigits (qko 0 w) = w ∧ (w.head? ≠ some 48 → 1 ≤ qko 0 w)
 | 0, w, hk, hw => by
  match w, hk with
  | [c], _ =>
   obtain ⟨_, h2, _⟩ := hw; rw [List.all_cons, List.all_nil, Bool.and_true, qeR] at h2; simp only [qeH, qg6]; rw [decDigits_one (by omega), show 48 + (10 * 0 + (c.toNat - 48)) = c.toNat by omega, UInt8.ofNat_toNat]; refine ⟨rfl, fun h => ?_⟩
   have : c.toNat ≠ 48 := fun e => h (by rw [List.head?_cons]; congr 1; exact UInt8.toNat_inj.mp e)
   omega
 | k + 1, w, hk, hw => by
  obtain ⟨h1, h2, h3⟩ := hw; have hs := List.dropLast_concat_getLast h1
  have hl : w.dropLast.length = k + 1 := by rw [List.length_dropLast]; omega
  have hne : w.dropLast ≠ [] := fun e => by rw [e] at hl; simp at hl
  have hh : w.head? ≠ some 48 := h3.resolve_left (by omega); rw [← hs] at h2 hh ⊢
  generalize w.getLast h1 = c at *
  generalize w.dropLast = v at *
  rw [List.all_append, List.all_cons, List.all_nil, Bool.and_true, Bool.and_eq_true, qeR] at h2; rw [qkX hne] at hh ⊢; obtain ⟨i1, i2⟩ := qnK k v hl ⟨hne, h2.1, .inr hh⟩; have i2 := i2 hh; rw [qg5]; simp only [qeH, qg6]; rw [qlI _ _ i2 (by omega), i1, show 48 + (c.toNat - 48) = c.toNat by omega, UInt8.ofNat_toNat]; exact ⟨rfl, fun _ => by omega⟩
theorem qrc {w : List UInt8} (h : qsm w) : decDigits (qko 0 w) = w := by
 have : w.length ≠ 0 := fun e => h.1 (List.length_eq_zero_iff.mp e)
 exact (qnK (w.length - 1) w (by omega) h).1
theorem qml : ∀ (l : List UInt8) (acc : Nat), l.all qnR = true → qko acc l < 9223372036854775808 → parseUint10 acc l = .ok (qko acc l)
 | [], acc, _, _ => rfl
 | c :: l, acc, h, hl => by
  rw [List.all_cons, Bool.and_eq_true, qeR] at h; simp only [qeH] at hl ⊢; have hm := qiW l (10 * acc + (c.toNat - 48)); have hp : 1 ≤ 10 ^ l.length := Nat.one_le_pow _ _ (by omega); have h3 : (10 * acc + (c.toNat - 48)) * 1 ≤ (10 * acc + (c.toNat - 48)) * 10 ^ l.length := Nat.mul_le_mul_left _ hp; simp only [parseUint10]; rw [if_pos h.1, if_neg (by omega), if_neg (by omega), Nat.mul_comm acc 10]; exact qml l _ h.2 hl
theorem qmK (n : Nat) (hn : n < 9223372036854775808) : atoiAll (decDigits n) = .ok (n : Int) := by
 obtain ⟨⟨h1, h2, h3⟩, h4, h5⟩ := qdG n
 generalize decDigits n = w at *
 cases w with
 | nil => exact absurd rfl h1
 | cons c r =>
  have hc := h2; rw [List.all_cons, Bool.and_eq_true, qeR] at hc; unfold atoiAll; simp only; rw [if_neg (by omega)]; unfold parseMag; rw [if_neg (by simp), qml _ _ h2 (by omega), h4]; simp only; rw [if_neg (by omega), if_neg (by omega), if_neg (by omega)]
def spells (w : List UInt8) (n : Nat) : Prop := n ≤ 999999 ∧ w = decDigits n
theorem qmx (w : List UInt8) : (∃ n, spells w n) ↔ qsm w ∧ w.length ≤ 6 := by
 constructor
 ·rintro ⟨n, h1, rfl⟩
  obtain ⟨hc, h4, h5⟩ := qdG n; refine ⟨hc, Nat.le_of_not_lt fun hl => ?_⟩; have hm := qiW ((decDigits n).drop 1) (qko 0 ((decDigits n).take 1)); rw [← qg5, List.take_append_drop, h4, List.length_drop] at hm; obtain ⟨g1, g2, g3⟩ := hc; have hh := g3.resolve_left (by omega)
  generalize decDigits n = w at *
  cases w with
  | nil => exact absurd rfl g1
  | cons c r =>
   rw [List.all_cons, Bool.and_eq_true, qeR] at g2
   have : c.toNat ≠ 48 := fun e => hh (by rw [List.head?_cons]; congr 1; exact UInt8.toNat_inj.mp e)
   have e1 : qko 0 ((c :: r).take 1) = c.toNat - 48 := by simp [qeH, qg6]
   rw [e1] at hm; have h2 : 10 ^ 6 ≤ 10 ^ ((c :: r).length - 1) := Nat.pow_le_pow_right (by omega) (by omega); have h3 : 1 * 10 ^ ((c :: r).length - 1) ≤ (c.toNat - 48) * 10 ^ ((c :: r).length - 1) := Nat.mul_le_mul_right _ (by omega); omega
 ·rintro ⟨hc, hl⟩
  refine ⟨qko 0 w, ?_, (qrc hc).symm⟩; have h1 := qsy w 0 hc.2.1; have h2 : 10 ^ w.length ≤ 10 ^ 6 := Nat.pow_le_pow_right (by omega) hl; omega
def rdP (w : List UInt8) : Option Nat := if w ≠ [] ∧ w.length ≤ 6 ∧ (w.length = 1 ∨ w.head? ≠ some 48) ∧ w.all qnR = true then some (qko 0 w) else none
theorem qln (w : List UInt8) (n : Nat) : rdP w = some n ↔ spells w n := by
 unfold rdP; constructor
 ·intro h
  split at h
  ·rename_i c
   obtain rfl := Option.some.inj h
   have hc : qsm w := ⟨c.1, c.2.2.2, c.2.2.1⟩
   obtain ⟨m, hm⟩ := (qmx w).2 ⟨hc, c.2.1⟩
   have : qko 0 w = m := by rw [hm.2]; exact (qdG m).2.1
   rw [this]; exact hm
  ·exact absurd h (by simp)
 ·intro h
  have hc := (qmx w).1 ⟨n, h⟩; rw [if_pos ⟨hc.1.1, hc.2, hc.1.2.2, hc.1.2.1⟩]; rw [h.2, (qdG n).2.1]
theorem qqh (w : List UInt8) (n : Nat) : (atoiAll w = .ok (n : Int) ∧ n ≤ 999999 ∧ itoa (n : Int) = w) ↔ spells w n := by
 have hi : itoa (n : Int) = decDigits n := by unfold itoa; rw [if_neg (by omega)]; simp
 constructor
 ·rintro ⟨-, h2, h3⟩
  exact ⟨h2, by rw [← h3, hi]⟩
 ·rintro ⟨h1, rfl⟩
  exact ⟨qmK n (by omega), h1, hi⟩
theorem qtR (s : ByteArray) (hz : s.size ≤ 6) : ∀ (d i a : Nat), i + d = s.size → a < 10 ^ i → Ev (fun k => qaW.l0 k s (a : Int) (i : Int)) (if (s.data.toList.drop i).all qnR = true then ((qko a (s.data.toList.drop i) : Nat) : Int) else -1)
 | 0, i, a, h, ha => Ev.mk' 0 fun k _ => by
  have hl : s.data.toList.length = s.size := Array.length_toList; simp only [qaW.l0]; rw [if_neg (by omega), List.drop_eq_nil_of_le (by omega)]; rfl
 | d + 1, i, a, h, ha => by
  have hl : s.data.toList.length = s.size := Array.length_toList; have hd : s.data.toList.drop i = s.data.toList[i]'(by omega) :: s.data.toList.drop (i + 1) := List.drop_eq_getElem_cons (by omega); have hb := qmO s i (by omega); have hp : 10 ^ i ≤ 10 ^ 6 := Nat.pow_le_pow_right (by omega) (by omega)
  obtain ⟨c, hc⟩ : ∃ c, c = s.data.toList[i]'(by omega) := ⟨_, rfl⟩
  rw [← hc] at hd hb; rw [hd, List.all_cons]; by_cases c1 : bt s (i : Int) < 48
  ·have e : qnR c = false := by rw [← Bool.not_eq_true, qeR]; omega
   exact Ev.mk' 0 fun k _ => by
    simp only [qaW.l0]; rw [if_pos (by omega), if_pos (by omega), if_pos c1, e]; rfl
  ·by_cases c2 : bt s (i : Int) > 57
   ·have e : qnR c = false := by rw [← Bool.not_eq_true, qeR]; omega
    exact Ev.mk' 0 fun k _ => by
     simp only [qaW.l0]; rw [if_pos (by omega), if_pos (by omega), if_neg c1, if_pos c2, e]; rfl
   ·have e : qnR c = true := (qeR c).2 (by omega)
    obtain ⟨K, ih⟩ := qtR s hz d (i + 1) (10 * a + (c.toNat - 48)) (by omega) (by rw [Nat.pow_succ]; omega); dsimp only at ih
    refine Ev.mk' K fun k hk => ?_
    simp only [qaW.l0]; rw [if_pos (by omega), if_pos (by omega), if_neg c1, if_neg c2, qa8 (n := 10 * (a : Int)) (by omega) (by omega), show (bt s (i : Int) - 48) % 256 = ((c.toNat - 48 : Nat) : Int) by omega, qa8 (n := 10 * (a : Int) + ((c.toNat - 48 : Nat) : Int)) (by omega) (by omega), qa8 (n := (i : Int) + 1) (by omega) (by omega), show ((i : Int) + 1) = ((i + 1 : Nat) : Int) by omega, show 10 * (a : Int) + ((c.toNat - 48 : Nat) : Int) = ((10 * a + (c.toNat - 48) : Nat) : Int) by omega, ih k hk, e, Bool.true_and, qeH]
theorem qpX (s : ByteArray) : Ev (fun k => qaW.f k s) (match rdP s.data.toList with | some n => (n : Int) | none => -1) := by
 have hl : s.data.toList.length = s.size := Array.length_toList; by_cases c1 : 1 ≤ s.size ∧ s.size ≤ 6
 ·have e1 : (decide ((1 : Int) ≤ (s.size : Int)) && decide ((s.size : Int) ≤ 6)) = true := by rw [decide_eq_true (show (1 : Int) ≤ (s.size : Int) by omega), decide_eq_true (show (s.size : Int) ≤ 6 by omega)]; rfl
  have hb := qmO s 0 (by omega); have hb : bt s 0 = _ := hb; obtain ⟨K, h0⟩ := qtR s c1.2 s.size 0 0 (by omega) (by decide); have h0 : ∀ k, K ≤ k → qaW.l0 k s 0 0 = some _ := h0; rw [List.drop_zero] at h0
  cases hL : s.data.toList with
  | nil => rw [hL] at hl; simp at hl; omega
  | cons x r =>
   have hx : s.data.toList[0]'(by omega) = x := by simp [hL]
   rw [hx] at hb; rw [hL] at h0 hl; simp only [List.length_cons] at hl; by_cases c2 : x = 48 ∧ 1 < s.size
   ·have hr : rdP (x :: r) = none := by
     unfold rdP; rw [if_neg]; rintro ⟨-, -, h3 | h3, -⟩
     ·simp at h3; rw [h3] at hl; simp at hl; omega
     ·exact h3 (by rw [c2.1]; rfl)
    rw [hr]
    refine Ev.mk' 0 fun k _ => ?_
    have hd : decide ((s.size : Int) > 1) = true := decide_eq_true (by omega); simp only [qaW.f, qd6, e1, qaC, if_true]; rw [if_pos (by omega), if_pos (by rw [hb, c2.1]; rfl), hd]; simp only [qaW.j0, if_true]
   ·have hr : rdP (x :: r) = if (x :: r).all qnR = true then some (qko 0 (x :: r)) else none := by
     unfold rdP; by_cases c3 : (x :: r).all qnR = true
     ·rw [if_pos c3, if_pos]
      refine ⟨by simp, by simp only [List.length_cons]; omega, ?_, c3⟩; by_cases c4 : 1 < s.size
      ·exact .inr fun e => c2 ⟨Option.some.inj e, c4⟩
      ·exact .inl (by simp only [List.length_cons]; omega)
     ·rw [if_neg c3, if_neg (fun h => c3 h.2.2.2)]
    rw [hr]; refine ⟨K + 1, fun k hk => ?_⟩
    obtain ⟨j, rfl⟩ : ∃ j, k = j + 1 := ⟨k - 1, by omega⟩
    have hj : qaW.f (j + 1) s = qaW.j0 (j + 1) s false := by
     simp only [qaW.f, qd6, e1, qaC, if_true]; rw [if_pos (by omega)]; by_cases c5 : bt s 0 = 48
     ·have : x = 48 := u8_eq (n := 48) (by decide) (by rw [← hb, c5]; rfl)
      rw [if_pos c5, decide_eq_false (by have : ¬ 1 < s.size := fun h => c2 ⟨this, h⟩; omega)]
     ·rw [if_neg c5]
    show qaW.f (j + 1) s = _
    rw [hj]; simp only [qaW.j0, Bool.false_eq_true, if_false]; rw [h0 j (by omega)]
    split <;> rfl
 ·have e1 : (decide ((1 : Int) ≤ (s.size : Int)) && decide ((s.size : Int) ≤ 6)) = false := by
   rw [Bool.and_eq_false_iff]; simp only [decide_eq_false_iff_not]; omega
  have hr : rdP s.data.toList = none := by
   unfold rdP; rw [if_neg]; rintro ⟨h1, h2, -⟩; exact c1 ⟨by cases h : s.data.toList with | nil => exact absurd h h1 | cons a b => rw [h] at hl; simp at hl; omega, by omega⟩
  rw [hr]
  exact Ev.mk' 0 fun k _ => by
   simp only [qaW.f, qd6, e1, qaC, Bool.false_eq_true, if_false, qaW.j0, if_true]
theorem numOf_eq (s : ByteArray) : numOf s = match rdP s.data.toList with | some n => some (n : Int) | none => none := by
 unfold numOf
 cases hr : rdP s.data.toList with
 | some n =>
  obtain ⟨h1, h2, h3⟩ := (qqh _ n).2 ((qln _ n).1 hr); rw [h1]; simp only []; rw [if_pos ⟨by omega, by omega, h3⟩]
 | none =>
  cases ha : atoiAll s.data.toList with
  | ok v =>
   simp only []; rw [if_neg]; rintro ⟨h1, h2, h3⟩; have := (qln _ v.toNat).2 ((qqh _ v.toNat).1 ⟨by rw [ha, show ((v.toNat : Nat) : Int) = v by omega], by omega, by rw [show ((v.toNat : Nat) : Int) = v by omega]; exact h3⟩); rw [hr] at this; cases this
  | _ => rfl
end
section
open Lib
def qfs (c : UInt8) : List (List UInt8) → List UInt8
 | [] => []
 | x :: r => x ++ (r.map (fun y => c :: y)).flatten
theorem qjs (c : UInt8) (ws : List (List UInt8)) (w : List UInt8) (h : ws ≠ []) : qfs c (ws ++ [w]) = qfs c ws ++ c :: w := by
 cases ws with
 | nil => exact absurd rfl h
 | cons x r => simp [qfs]
theorem qoC (c : UInt8) : ∀ (r : List (List UInt8)) (x : List UInt8), c ∉ x → (∀ w ∈ r, c ∉ w) → spl c (qfs c (x :: r)) = x :: r
 | [], x, h, _ => by simp only [qfs, List.map_nil, List.flatten_nil, List.append_nil]; exact qf9 c x h
 | y :: r, x, h, h2 => by
  have ih := qoC c r y (h2 y List.mem_cons_self) (fun w hw => h2 w (List.mem_cons_of_mem _ hw)); simp only [qfs, List.map_cons, List.flatten_cons, List.cons_append] at ih ⊢; rw [qhZ c x _ h, ih]
theorem qsw {w : List UInt8} (h : w.all qnR = true) {c : UInt8} (hc : qnR c = false) : c ∉ w := fun hm => by
 have := List.all_eq_true.1 h c hm; rw [hc] at this; exact absurd this (by decide)
def qjv (r : Nat × Nat) : List UInt8 := decDigits r.1 ++ 58 :: decDigits r.2
theorem qqX (r : Nat × Nat) : (44 : UInt8) ∉ qjv r := by
 unfold qjv; rw [List.mem_append, List.mem_cons]; rintro (h | h | h)
 ·exact qsw (qdG r.1).1.2.1 (c := 44) (by decide) h
 ·exact absurd h (by decide)
 ·exact qsw (qdG r.2).1.2.1 (c := 44) (by decide) h
def qot (L : List (Nat × Nat)) : List UInt8 := if L = [] then [45] else qfs 44 (L.map qjv)
theorem qrG (L : List (Nat × Nat)) (h : L ≠ []) : spl 44 (qot L) = L.map qjv := by
 unfold qot; rw [if_neg h]
 cases L with
 | nil => exact absurd rfl h
 | cons x r =>
  rw [List.map_cons]
  refine qoC 44 _ _ (qqX x) fun w hw => ?_
  obtain ⟨y, -, rfl⟩ := List.mem_map.1 hw; exact qqX y
def spP : List UInt8 → Nat → Nat → List (Nat × Nat)
 | [], n, ev => [(ev, n)]
 | c :: l, n, ev => if c = 44 then (ev, n) :: spP l 0 0 else if c = 58 then spP l 0 n else if qnR c = true then spP l (min 1000 (10 * n + (c.toNat - 48))) ev else spP l n ev
theorem qmw (l : List UInt8) (ev : Nat) : ∀ (w : List UInt8) (n : Nat), w.all qnR = true → qko n w ≤ 1000 → spP (w ++ l) n ev = spP l (qko n w) ev
 | [], n, _, _ => rfl
 | c :: w, n, h, hl => by
  rw [List.all_cons, Bool.and_eq_true] at h; have hc := (qeR c).1 h.1; rw [qeH] at hl ⊢; have hm := qiW w (10 * n + (c.toNat - 48)); have hp : 1 ≤ 10 ^ w.length := Nat.one_le_pow _ _ (by omega); have h3 : (10 * n + (c.toNat - 48)) * 1 ≤ (10 * n + (c.toNat - 48)) * 10 ^ w.length := Nat.mul_le_mul_left _ hp
  have n1 : c ≠ 44 := fun e => by subst e; exact absurd hc (by decide)
  have n2 : c ≠ 58 := fun e => by subst e; exact absurd hc (by decide)
  rw [List.cons_append]; simp only [spP]; rw [if_neg n1, if_neg n2, if_pos h.1, Nat.min_eq_right (by omega)]; exact qmw l ev w _ h.2 hl
theorem qtZ (l : List UInt8) (ev m : Nat) (hm : m ≤ 1000) : spP (decDigits m ++ l) 0 ev = spP l m ev := by
 obtain ⟨h1, h2, -⟩ := qdG m; rw [qmw l ev _ 0 h1.2.1 (by omega), h2]
theorem qqY (l : List UInt8) (r : Nat × Nat) (h1 : r.1 ≤ 1000) (h2 : r.2 ≤ 1000) : spP (qjv r ++ l) 0 0 = spP l r.2 r.1 := by
 unfold qjv; rw [List.append_assoc, qtZ _ _ _ h1, List.cons_append]; simp only [spP]; rw [if_neg (by decide), if_pos trivial, qtZ _ _ _ h2]
theorem qoz : ∀ (r : List (Nat × Nat)) (x : Nat × Nat), x.1 ≤ 1000 → x.2 ≤ 1000 → (∀ y ∈ r, y.1 ≤ 1000 ∧ y.2 ≤ 1000) → spP (qfs 44 ((x :: r).map qjv)) 0 0 = x :: r
 | [], x, h1, h2, _ => by
  have e := qqY [] x h1 h2; simp only [qfs, List.map_cons, List.map_nil, List.flatten_nil]; rw [e]; rfl
 | y :: r, x, h1, h2, h3 => by
  have ih := qoz r y (h3 y List.mem_cons_self).1 (h3 y List.mem_cons_self).2 (fun z hz => h3 z (List.mem_cons_of_mem _ hz)); simp only [qfs, List.map_cons, List.flatten_cons, List.cons_append] at ih ⊢; rw [qqY _ x h1 h2]; simp only [spP]; rw [if_pos trivial, ih]
theorem qnP (n : Nat) : (decDigits n).length ≤ n + 1 := by
 induction n using Nat.strongRecOn with
 | _ n ih =>
  rw [decDigits]; split
  ·simp
  ·rw [List.length_append]
   have := ih (n / 10) (by omega); simp only [List.length_cons, List.length_nil]; omega
theorem qsv {n : Nat} (h : ¬ n < 10) : decDigits n = decDigits (n / 10) ++ [UInt8.ofNat (48 + n % 10)] := by rw [decDigits, dif_neg h]
theorem ql1 {n : Nat} (h : n < 100) : (decDigits n).length ≤ 2 := by
 by_cases c : n < 10
 ·rw [decDigits_one c]; simp
 ·rw [qsv c, decDigits_one (by omega)]; simp
theorem qqO (n : Nat) (hn : n ≤ 4611686018427387904) : Ev (fun k => qbt.f k (n : Int)) (bs (decDigits n)) := by
 induction n using Nat.strongRecOn with
 | _ n ih =>
  by_cases c : n < 10
  ·refine Ev.mk' 0 fun k _ => ?_
   simp only [qbt.f]; rw [if_pos (by omega), qa8 (by omega) (by omega), decDigits_one c, show (48 + (n : Int)) % 256 = ((48 + n : Nat) : Int) by omega]; rfl
  ·obtain ⟨K, ih⟩ := ih (n / 10) (by omega) (by omega)
   refine Ev.mk' K fun k hk => ?_
   have ih := ih k hk; dsimp only at ih; have hl := qnP (n / 10); have h1 : Int.tdiv (n : Int) 10 = ((n / 10 : Nat) : Int) := Int.ofNat_tdiv n 10; have h2 : Int.tmod (n : Int) 10 = ((n % 10 : Nat) : Int) := Int.ofNat_tmod n 10; simp only [qbt.f]
   have e : strOfNums [wrap64 (48 + Int.tmod (n : Int) 10) % 256] = bs [UInt8.ofNat (48 + n % 10)] := by
    rw [h2, qa8 (by omega) (by omega), show (48 + ((n % 10 : Nat) : Int)) % 256 = ((48 + n % 10 : Nat) : Int) by omega]; rfl
   rw [if_neg (by omega), h1, qa8 (by omega) (by omega), ih, qaC, qaC, e, qdb, qdb, if_pos (by simp only [List.length_cons, List.length_nil]; omega), qfT, ← qsv c]
theorem qm2 (n : Nat) (hn : n ≤ 4611686018427387904) : qbm.f (n : Int) = some (bs (decDigits n)) := by
 unfold qbm.f; rw [if_pos (by omega)]
 have : itoa (n : Int) = decDigits n := by unfold itoa; rw [if_neg (by omega)]; simp
 rw [this]; rfl
theorem int_ev (n : Nat) (hn : n ≤ 4611686018427387904) : Ev (fun k => qfo.f k (n : Int)) (bs (decDigits n)) := by
 obtain ⟨K, h⟩ := qqO n hn; refine ⟨K, fun k hk => ?_⟩; have h := h k hk; dsimp only at h
 show qfo.f k (n : Int) = _
 unfold qfo.f; rw [if_neg (by omega), h, qaC]
theorem qof (c : UInt8) (M : Nat) : ∀ ws : List (List UInt8), (∀ w ∈ ws, w.length ≤ M) → (qfs c ws).length ≤ ws.length * (M + 1)
 | [], _ => by simp [qfs]
 | x :: r, h => by
  have h1 := h x List.mem_cons_self
  have h2 : ∀ r : List (List UInt8), (∀ w ∈ r, w.length ≤ M) → ((r.map fun y => c :: y).flatten).length ≤ r.length * (M + 1) := fun r => by
   induction r with
   | nil => simp
   | cons y r ih =>
    intro h; have h1 := h y List.mem_cons_self; have h2 := ih (fun w hw => h w (List.mem_cons_of_mem _ hw)); rw [List.map_cons, List.flatten_cons, List.length_append, List.length_cons, List.length_cons, Nat.add_mul]; omega
  have h3 := h2 r (fun w hw => h w (List.mem_cons_of_mem _ hw)); rw [qfs, List.length_append, List.length_cons, Nat.add_mul]; omega
theorem bas_data (ws : List (List UInt8)) : (bas ws).map (·.data.toList) = ws := by
 unfold bas; rw [List.map_map]; exact List.map_id'' (fun x => qgJ x) ws
theorem qpK (c : UInt8) (ws : List (List UInt8)) (hne : ws ≠ []) (h1 : ws.length ≤ 1000000) (h2 : ∀ w ∈ ws, w.length ≤ 20000000) : strings_Join.f (bas ws) ⟨#[c]⟩ = some (bs (qfs c ws)) := by
 have hl := qof c 20000000 ws h2
 have hj : Lib.join ((bas ws).map (·.data.toList)) (⟨#[c]⟩ : ByteArray).data.toList = qfs c ws := by
  rw [bas_data]
  cases ws with
  | nil => exact absurd rfl hne
  | cons x r => rw [join_cons]; rfl
 have hk : (bas ws).length = ws.length := List.length_map _; have h0 : 0 < ws.length := List.length_pos_iff.2 hne; unfold strings_Join.f; rw [hj, if_pos ⟨by omega, by omega, by omega⟩]; rfl
def rp (r : qac) : Nat × Nat := (r.f0.toNat, r.f1.toNat)
def rT (r : qac) : List UInt8 := qjv (rp r)
def RT (l : List qac) : ByteArray := bs (qot (l.map rp))
theorem qmG {l : List qac} (h : l ≠ []) : RT l = bs (qfs 44 (l.map rT)) := by
 unfold RT qot; rw [if_neg (by simpa using h), List.map_map]; rfl
theorem qmk {r : qac} (h : qbF r = true) : r.f0 = ((rp r).1 : Int) ∧ r.f1 = ((rp r).2 : Int) ∧ 2 ≤ (rp r).1 ∧ (rp r).1 ≤ 60 ∧ (rp r).2 < (rp r).1 := by
 have := (qdi r).1 h; unfold rp; dsimp only; omega
theorem qtQ {r : qac} (h : qbF r = true) : (rT r).length ≤ 5 := by
 obtain ⟨-, -, h1, h2, h3⟩ := qmk h; have e1 := ql1 (n := (rp r).1) (by omega); have e2 := ql1 (n := (rp r).2) (by omega); unfold rT qjv; rw [List.length_append, List.length_cons]; omega
theorem qly (l : List qac) (i : Nat) (h : i < l.length) : l.take (i + 1) = l.take i ++ [qad l i] := by
 rw [List.take_succ_eq_append_getElem h]; have h1 := qlo l i h; rw [List.drop_eq_getElem_cons h] at h1; rw [(List.cons.inj h1).1]
theorem qrx {l : List qac} (hl : l.all qbF = true) (i : Nat) (h : i < l.length) : qbF (qad l i) = true := by
 refine List.all_eq_true.1 hl _ ?_; have h1 := qlo l i h; exact List.mem_of_mem_drop (h1 ▸ List.mem_cons_self)
theorem qlt (l : List qac) (hm : l.length ≤ 12) (hl : l.all qbF = true) : ∀ (d i : Nat) (x : List UInt8), i + d = l.length → x = qfs 44 ((l.take i).map rT) → x.length ≤ 6 * i → Ev (fun k => qbp.l0 k (bs x) l (l.length : Int) (i : Int)) (bs (qfs 44 (l.map rT)))
 | 0, i, x, h, hx, hk => Ev.mk' 0 fun k _ => by
  simp only [qbp.l0]; rw [if_neg (by omega), hx, List.take_of_length_le (by omega)]
 | d + 1, i, x, h, hx, hk => by
  have hr := qrx hl i (by omega); have hw := qtQ hr; obtain ⟨e1, e2, b1, b2, b3⟩ := qmk hr; obtain ⟨K1, n1⟩ := qqO (rp (qad l i)).1 (by omega); obtain ⟨K2, n2⟩ := qqO (rp (qad l i)).2 (by omega); rw [← e1] at n1; rw [← e2] at n2; have l1 := ql1 (n := (rp (qad l i)).1) (by omega); have l2 := ql1 (n := (rp (qad l i)).2) (by omega)
  have hb : bs (decDigits (rp (qad l i)).1) ++ (⟨#[58]⟩ : ByteArray) ++ bs (decDigits (rp (qad l i)).2) = bs (rT (qad l i)) := by
   rw [show (⟨#[58]⟩ : ByteArray) = bs [58] from rfl, qfT, qfT]; unfold rT qjv; simp
  by_cases c : i = 0
  ·subst c
   have hx0 : x = [] := by rw [hx]; rfl
   obtain ⟨K, ih⟩ := qlt l hm hl d (0 + 1) (x ++ rT (qad l (0 : Nat))) (by omega) (by rw [qly l 0 (by omega), hx0]; simp [qfs]) (by rw [hx0, List.nil_append]; omega)
   refine Ev.mk' (K + K1 + K2) fun k hk => ?_
   have ih := ih k (by omega); have n1 := n1 k (by omega); have n2 := n2 k (by omega); dsimp only at ih n1 n2; simp only [qbp.l0]; rw [if_pos (by omega), if_pos (by omega), if_pos (by omega), if_neg (by omega), n1, qaC, if_pos (by rw [qdb]; omega), n2, qaC, if_pos (by rw [show (⟨#[58]⟩ : ByteArray) = bs [58] from rfl, qfT, qdb, qdb, List.length_append]; simp only [List.length_cons, List.length_nil]; omega), hb, if_pos (by rw [qdb, qdb]; omega), qfT, qa8 (by omega) (by omega), show (((0 : Nat) : Int) + 1) = ((0 + 1 : Nat) : Int) by omega, ih]
  ·obtain ⟨K, ih⟩ := qlt l hm hl d (i + 1) (x ++ 44 :: rT (qad l i)) (by omega) (by rw [qly l i (by omega), List.map_append, List.map_cons, List.map_nil, qjs _ _ _ (by simp; exact ⟨c, fun e => by rw [e] at h; simp at h⟩), hx]) (by rw [List.length_append, List.length_cons]; omega)
   refine Ev.mk' (K + K1 + K2) fun k hk => ?_
   have ih := ih k (by omega); have n1 := n1 k (by omega); have n2 := n2 k (by omega); dsimp only at ih n1 n2; simp only [qbp.l0]; rw [if_pos (by omega), if_pos (by omega), if_pos (by omega), if_pos (by omega), if_pos (by rw [qdb]; omega), n1, qaC, if_pos (by rw [qdb]; omega), n2, qaC, if_pos (by rw [show (⟨#[58]⟩ : ByteArray) = bs [58] from rfl, qfT, qdb, qdb, List.length_append]; simp only [List.length_cons, List.length_nil]; omega), hb, show (⟨#[44]⟩ : ByteArray) = bs [44] from rfl, qfT, if_pos (by rw [qdb, qdb, List.length_append]; simp only [List.length_cons, List.length_nil]; omega), qfT, qa8 (by omega) (by omega), show ((i : Int) + 1) = ((i + 1 : Nat) : Int) by omega, show x ++ [44] ++ rT (qad l i) = x ++ 44 :: rT (qad l i) by simp, ih]
theorem qox (l : List qac) (hg : qaJ l = true) : Ev (fun k => qbp.f k l) (RT l) := by
 obtain ⟨hm, hl⟩ := qb5 hg; by_cases c : l = []
 ·subst c; exact ⟨0, fun k _ => rfl⟩
 ·obtain ⟨K, h⟩ := qlt l hm hl l.length 0 [] (by omega) rfl (by simp)
  refine ⟨K, fun k hk => ?_⟩
  have h0 : l.length ≠ 0 := fun e => c (List.length_eq_zero_iff.1 e)
  show qbp.f k l = _
  unfold qbp.f; rw [if_neg (by omega), qmG c]; exact h k hk
theorem qj2 (l : List qac) (hm : l.length ≤ 12) (hl : l.all qbF = true) : ∀ (d i : Nat), i + d = l.length → Ev (fun k => qaH.l0 k (bas ((l.take i).map rT)) l (l.length : Int) (i : Int)) (RT l)
 | 0, i, h => Ev.mk' 0 fun k _ => by
  simp only [qaH.l0]; rw [if_neg (by omega), List.take_of_length_le (by omega)]; by_cases c : l = []
  ·subst c; rfl
  ·have h0 : l.length ≠ 0 := fun e => c (List.length_eq_zero_iff.1 e)
   have hk : (bas (l.map rT)).length = l.length := by unfold bas; simp
   rw [if_neg (by omega), qpK 44 _ (by simpa using c) (by rw [List.length_map]; omega) (fun w hw => by
    obtain ⟨r, hr, rfl⟩ := List.mem_map.1 hw
    have := qtQ (List.all_eq_true.1 hl r hr); omega), qaC, qmG c]
 | d + 1, i, h => by
  have hr := qrx hl i (by omega); obtain ⟨e1, e2, b1, b2, b3⟩ := qmk hr; have l1 := ql1 (n := (rp (qad l i)).1) (by omega); have l2 := ql1 (n := (rp (qad l i)).2) (by omega)
  have hi : ∀ n : Nat, n < 100 → strconv_Itoa.f (n : Int) = some (bs (decDigits n)) := fun n hn => by
   unfold strconv_Itoa.f; rw [if_pos (by omega), Int.toNat_natCast]; rfl
  have n1 : strconv_Itoa.f (qad l (i : Int)).f0 = some (bs (decDigits (rp (qad l i)).1)) := by rw [e1]; exact hi _ (by omega)
  have n2 : strconv_Itoa.f (qad l (i : Int)).f1 = some (bs (decDigits (rp (qad l i)).2)) := by rw [e2]; exact hi _ (by omega)
  have hb : bs (decDigits (rp (qad l i)).1) ++ (⟨#[58]⟩ : ByteArray) ++ bs (decDigits (rp (qad l i)).2) = bs (rT (qad l i)) := by
   rw [show (⟨#[58]⟩ : ByteArray) = bs [58] from rfl, qfT, qfT]; unfold rT qjv; simp
  obtain ⟨K, ih⟩ := qj2 l hm hl d (i + 1) (by omega)
  refine Ev.mk' K fun k hk => ?_
  have ih := ih k hk; dsimp only at ih
  have hk : (bas ((l.take i).map rT)).length ≤ l.length := by unfold bas; rw [List.length_map, List.length_map, List.length_take]; omega
  have hs : bas ((l.take (i + 1)).map rT) = bas ((l.take i).map rT) ++ [bs (rT (qad l i))] := by rw [qly l i (by omega)]; simp [bas]; rfl
  simp only [qaH.l0]; rw [if_pos (by omega), if_pos (by omega), if_pos (by omega), n1, qaC, if_pos (by rw [qdb]; omega), n2, qaC, if_pos (by rw [show (⟨#[58]⟩ : ByteArray) = bs [58] from rfl, qfT, qdb, qdb, List.length_append]; simp only [List.length_cons, List.length_nil]; omega), if_pos (by omega), hb, qa8 (by omega) (by omega), show ((i : Int) + 1) = ((i + 1 : Nat) : Int) by omega, ← hs, ih]
theorem qfY (l : List qac) (hg : qaJ l = true) : Ev (fun k => qaH.f k l) (RT l) := by
 obtain ⟨hm, hl⟩ := qb5 hg; exact qj2 l hm hl l.length 0 (by omega)
theorem qjm (l : List qac) (hg : qaJ l = true) : Ev (fun k => qck.f k l true) (RT l) := by
 obtain ⟨K1, h1⟩ := qfd l; obtain ⟨K2, h2⟩ := qox l hg; refine ⟨K1 + K2, fun k hk => ?_⟩; have h1 := h1 k (by omega); have h2 := h2 k (by omega); dsimp only at h1 h2
 show qck.f k l true = _
 unfold qck.f qeK.f; rw [if_pos rfl, h1, qaC, hg, if_pos rfl, h2, qaC, qaC]
end
section
open Lib
def toR (p : Nat × Nat) : qac := ⟨(p.1 : Int), (p.2 : Int)⟩
theorem toR_rp {r : qac} (h : qbF r = true) : toR (rp r) = r := by
 obtain ⟨e1, e2, -⟩ := qmk h; unfold toR; rw [← e1, ← e2]
theorem map_toR {l : List qac} (h : l.all qbF = true) : (l.map rp).map toR = l := by
 rw [List.map_map]
 conv => rhs; rw [← List.map_id l]
 exact List.map_congr_left fun r hr => toR_rp (List.all_eq_true.1 h r hr)
def fin_ (s : ByteArray) (L : List qac) : List qac × Bool := (L, qaJ L && ((RT L).toList == s.toList))
theorem qp2 (s : ByteArray) (L : List qac) (i : Nat) (h : s.size < i) : Ev (fun k => qaK.l0 k s L 0 0 (i : Int)) (fin_ s L) := by
 obtain ⟨K1, h1⟩ := qfd L; unfold fin_; by_cases hg : qaJ L = true
 ·obtain ⟨K2, h2⟩ := qox L hg
  refine Ev.mk' (K1 + K2) fun k hk => ?_
  have h1 := h1 k (by omega); have h2 := h2 k (by omega); dsimp only at h1 h2; simp only [qaK.l0]; rw [if_neg (by omega), h1, qaC, hg, if_pos rfl, h2, qaC, Bool.true_and]
 ·refine Ev.mk' K1 fun k hk => ?_
  have h1 := h1 k (by omega); dsimp only at h1; simp only [qaK.l0]; rw [if_neg (by omega), h1, qaC, if_neg hg, Bool.eq_false_iff.2 hg, Bool.false_and]
theorem qge (s : ByteArray) (hz : s.size ≤ 72) : ∀ (d i : Nat) (x : List qac) (n ev : Nat), i + d = s.size → n ≤ 1000 → x.length ≤ i → Ev (fun k => qaK.l0 k s x (n : Int) (ev : Int) (i : Int)) (fin_ s (x ++ (spP (s.data.toList.drop i) n ev).map toR))
 | 0, i, x, n, ev, h, hn, hx => by
  have hl : s.data.toList.length = s.size := Array.length_toList; obtain ⟨K, h1⟩ := qp2 s (x ++ [(⟨(ev : Int), (n : Int)⟩ : qac)]) (i + 1) (by omega); refine ⟨K + 2, fun k hk => ?_⟩
  obtain ⟨j, rfl⟩ : ∃ j, k = j + 2 := ⟨k - 2, by omega⟩
  have h1 := h1 j (by omega); dsimp only at h1
  show qaK.l0 (j + 2) s x n ev i = _
  simp only [qaK.l0, qaK.j1]; rw [if_pos (by omega), if_pos (by omega), if_pos trivial, if_pos (by omega), qa8 (by omega) (by omega), show ((i : Int) + 1) = ((i + 1 : Nat) : Int) by omega, h1, List.drop_eq_nil_of_le (by omega)]; rfl
 | d + 1, i, x, n, ev, h, hn, hx => by
  have hl : s.data.toList.length = s.size := Array.length_toList; have hd : s.data.toList.drop i = s.data.toList[i]'(by omega) :: s.data.toList.drop (i + 1) := List.drop_eq_getElem_cons (by omega); have hb := qmO s i (by omega)
  obtain ⟨c, hc⟩ : ∃ c, c = s.data.toList[i]'(by omega) := ⟨_, rfl⟩
  rw [← hc] at hd hb
  have hw : wrap64 ((i : Int) + 1) = ((i + 1 : Nat) : Int) := by rw [qa8 (by omega) (by omega)]; omega
  have hlt : c.toNat < 256 := c.toNat_lt; rw [hd]; simp only [spP]; by_cases c1 : c = 44
  ·obtain ⟨K, ih⟩ := qge s hz d (i + 1) (x ++ [(⟨(ev : Int), (n : Int)⟩ : qac)]) 0 0 (by omega) (by omega) (by simp; omega)
   refine ⟨K + 2, fun k hk => ?_⟩
   obtain ⟨j, rfl⟩ : ∃ j, k = j + 2 := ⟨k - 2, by omega⟩
   have ih := ih j (by omega); dsimp only at ih
   show qaK.l0 (j + 2) s x n ev i = _
   have e : (bt s (i : Int) == 44) = true := beq_iff_eq.2 (by rw [hb, c1]; rfl); simp only [qaK.l0, qaK.j1]; rw [if_pos (by omega), if_neg (by omega), if_pos (by omega), if_pos (by omega), if_pos e, if_pos (by omega), hw, if_pos c1]; refine Eq.trans ih ?_
   simp [toR]
  ·have e : (bt s (i : Int) == 44) = false := beq_eq_false_iff_ne.2 (fun e_ => c1 (u8_eq (n := 44) (by decide) (by rw [← hb, e_]; rfl)))
   rw [if_neg c1]; by_cases c2 : c = 58
   ·obtain ⟨K, ih⟩ := qge s hz d (i + 1) x 0 n (by omega) (by omega) (by omega)
    refine ⟨K + 2, fun k hk => ?_⟩
    obtain ⟨j, rfl⟩ : ∃ j, k = j + 2 := ⟨k - 2, by omega⟩
    have ih := ih j (by omega); dsimp only at ih
    show qaK.l0 (j + 2) s x n ev i = _
    simp only [qaK.l0, qaK.j1]; rw [if_pos (by omega), if_neg (by omega), if_pos (by omega), if_pos (by omega), e, if_neg (by decide), if_pos (by omega), if_pos (by omega), if_pos (by rw [hb, c2]; rfl), hw, if_pos c2]; exact ih
   ·have e2 : ¬ bt s (i : Int) = 58 := fun e_ => c2 (u8_eq (n := 58) (by decide) (by rw [← hb, e_]; rfl))
    rw [if_neg c2]; by_cases c3 : qnR c = true
    ·have c4 := (qeR c).1 c3
     obtain ⟨K, ih⟩ := qge s hz d (i + 1) x (min 1000 (10 * n + (c.toNat - 48))) ev (by omega) (by omega) (by omega); refine ⟨K + 2, fun k hk => ?_⟩
     obtain ⟨j, rfl⟩ : ∃ j, k = j + 2 := ⟨k - 2, by omega⟩
     have ih := ih j (by omega); dsimp only at ih
     show qaK.l0 (j + 2) s x n ev i = _
     have el : qfp.f 1000 (wrap64 (wrap64 (10 * (n : Int)) + (bt s (i : Int) - 48) % 256)) = some ((min 1000 (10 * n + (c.toNat - 48)) : Nat) : Int) := by
      rw [qa8 (n := 10 * (n : Int)) (by omega) (by omega), show (bt s (i : Int) - 48) % 256 = ((c.toNat - 48 : Nat) : Int) by omega, qa8 (by omega) (by omega)]; unfold qfp.f
      split <;> (congr 1; omega)
     simp only [qaK.l0, qaK.j1]; rw [if_pos (by omega), if_neg (by omega), if_pos (by omega), if_pos (by omega), e, if_neg (by decide), if_pos (by omega), if_pos (by omega), if_neg e2, if_pos (by omega), if_pos (by omega), el, qaC, hw, if_pos c3]; exact ih
    ·obtain ⟨K, ih⟩ := qge s hz d (i + 1) x n ev (by omega) (by omega) (by omega)
     refine ⟨K + 2, fun k hk => ?_⟩
     obtain ⟨j, rfl⟩ : ∃ j, k = j + 2 := ⟨k - 2, by omega⟩
     have ih := ih j (by omega); dsimp only at ih; rw [if_neg c3]; rw [qeR] at c3
     show qaK.l0 (j + 2) s x n ev i = _
     simp only [qaK.l0, qaK.j1]; rw [if_pos (by omega), if_neg (by omega), if_pos (by omega), if_pos (by omega), e, if_neg (by decide), if_pos (by omega), if_pos (by omega), if_neg e2, hw]; by_cases c5 : bt s (i : Int) ≥ 48
     ·rw [if_pos c5, if_neg (by omega)]; exact ih
     ·rw [if_neg c5]; exact ih
theorem RT_size {l : List qac} (hg : qaJ l = true) : (RT l).size ≤ 72 := by
 obtain ⟨hm, hl⟩ := qb5 hg; by_cases c : l = []
 ·subst c; decide
 ·rw [qmG c, qdb]
  have := qof 44 5 (l.map rT) (fun w hw => by obtain ⟨r, hr, rfl⟩ := List.mem_map.1 hw; exact qtQ (List.all_eq_true.1 hl r hr)); rw [List.length_map] at this; omega
theorem qqa {r : qac} (h : qbF r = true) : qga (bs (rT r)) = some r := by
 obtain ⟨e1, e2, h1, h2, h3⟩ := qmk h; unfold qga rT qjv; rw [qgJ, qmU 58 _ _ (qsw (qdG _).1.2.1 (by decide)), qmK _ (by omega), qmK _ (by omega)]; simp only []; rw [← e1, ← e2]
theorem qj5 : ∀ l : List qac, l.all qbF = true → qdR (bas (l.map rT)) = some l
 | [], _ => rfl
 | r :: l, h => by
  rw [List.all_cons, Bool.and_eq_true] at h
  show qdR (bs (rT r) :: bas (l.map rT)) = _
  unfold qdR; rw [qqa h.1, qaC, qj5 l h.2, qaC]
theorem spP_RT {l : List qac} (hg : qaJ l = true) (hne : l ≠ []) : (spP (RT l).data.toList 0 0).map toR = l := by
 obtain ⟨hm, hl⟩ := qb5 hg; rw [qmG hne, qgJ]
 have hb : ∀ r ∈ l, (rp r).1 ≤ 1000 ∧ (rp r).2 ≤ 1000 := fun r hr => by
  obtain ⟨-, -, h1, h2, h3⟩ := qmk (List.all_eq_true.1 hl r hr); omega
 cases l with
 | nil => exact absurd rfl hne
 | cons r t =>
  have h1 := qoz (t.map rp) (rp r) (hb r List.mem_cons_self).1 (hb r List.mem_cons_self).2 (fun y hy => by obtain ⟨z, hz, rfl⟩ := List.mem_map.1 hy; exact hb z (List.mem_cons_of_mem _ hz))
  have h2 : (r :: t).map rT = (rp r :: t.map rp).map qjv := by simp [rT]
  rw [h2, h1]; exact map_toR hl
theorem qod (s : ByteArray) {l : List qac} (hg : qaJ l = true) (e : RT l = s) : Ev (fun k => qaV.l0 k s l) (l, true) := by
 obtain ⟨K, h⟩ := qfY l hg; refine ⟨K, fun k hk => ?_⟩; have h := h k hk; dsimp only at h
 show qaV.l0 k s l = _
 unfold qaV.l0; rw [qdv, qaC, hg, if_pos rfl, h, qaC, e, if_pos rfl]
theorem qkD (s : ByteArray) (hz : s.size ≤ 1048576) : ∃ v : List qac × Bool, Ev (fun k => qbB.f k s) v ∧ Ev (fun k => qaV.f k s) v ∧ (v.2 = true → qaJ v.1 = true) := by
 by_cases c0 : s.toList = [45]
 ·have e : RT [] = s := qsd (by rw [c0]; exact qhL [45])
  refine ⟨([], true), ⟨0, fun k _ => ?_⟩, ?_, fun _ => rfl⟩
  ·show qbB.f k s = _
   unfold qbB.f qaK.f; rw [if_pos c0]; rfl
  ·obtain ⟨K, h⟩ := qod s (l := []) rfl e
   refine ⟨K, fun k hk => ?_⟩
   show qaV.f k s = _
   unfold qaV.f; rw [if_pos hz, if_pos c0]; exact h k hk
 ·by_cases c : ∃ l, qaJ l = true ∧ RT l = s
  ·obtain ⟨l, hg, e⟩ := c
   have hne : l ≠ [] := fun h => c0 (by rw [← e, h]; exact qhL [45])
   have hs := RT_size hg; rw [e] at hs; refine ⟨(l, true), ?_, ?_, fun _ => hg⟩
   ·obtain ⟨K, h⟩ := qge s hs s.size 0 [] 0 0 (by omega) (by omega) (by simp)
    rw [List.drop_zero, List.nil_append] at h; have h1 := spP_RT hg hne; rw [e] at h1; rw [h1] at h; refine ⟨K, fun k hk => ?_⟩; have h : qaK.l0 k s [] 0 0 0 = _ := h k hk
    show qbB.f k s = _
    unfold qbB.f qaK.f; rw [if_neg c0, if_neg (by omega), h, qaC]; unfold fin_; rw [e, hg]
    simp
   ·obtain ⟨K, h⟩ := qod s hg e
    refine ⟨K, fun k hk => ?_⟩
    show qaV.f k s = _
    unfold qaV.f
    have h1 : spl 44 s.data.toList = l.map rT := by
     have h2 := qrG (l.map rp) (by simpa using hne); rw [← e]
     show spl 44 (bs (qot (l.map rp))).data.toList = _
     rw [qgJ, h2, List.map_map]; rfl
    rw [if_pos hz, if_neg c0, qiM, h1, qj5 l (qb5 hg).2]; exact h k hk
  ·have hn : ∀ l, qaJ l = true → RT l ≠ s := fun l hg e => c ⟨l, hg, e⟩
   refine ⟨([], false), ?_, ?_, fun h => absurd h (by decide)⟩
   ·by_cases c1 : (s.size : Int) > 72
    ·refine ⟨0, fun k _ => ?_⟩
     show qbB.f k s = _
     unfold qbB.f qaK.f; rw [if_neg c0, if_pos c1]; rfl
    ·obtain ⟨K, h⟩ := qge s (by omega) s.size 0 [] 0 0 (by omega) (by omega) (by simp)
     rw [List.drop_zero, List.nil_append] at h; refine ⟨K, fun k hk => ?_⟩; have h : qaK.l0 k s [] 0 0 0 = _ := h k hk
     show qbB.f k s = _
     unfold qbB.f qaK.f; rw [if_neg c0, if_neg c1, h, qaC]; unfold fin_; rw [if_neg]; intro h2; rw [Bool.and_eq_true, beq_iff_eq] at h2; exact hn _ h2.1 (qsd h2.2)
   ·cases hw : qdR (qgQ 44 s) with
    | none =>
     refine ⟨0, fun k _ => ?_⟩
     show qaV.f k s = _
     unfold qaV.f; rw [if_pos hz, if_neg c0, hw]
    | some l =>
     by_cases hg : qaJ l = true
     ·obtain ⟨K, h⟩ := qfY l hg
      refine ⟨K, fun k hk => ?_⟩; have h := h k hk; dsimp only at h
      show qaV.f k s = _
      unfold qaV.f; rw [if_pos hz, if_neg c0, hw]; simp only []; unfold qaV.l0; rw [qdv, qaC, hg, if_pos rfl, h, qaC, if_neg]; intro h2; exact hn l hg (qsd h2)
     ·refine ⟨0, fun k _ => ?_⟩
      show qaV.f k s = _
      unfold qaV.f; rw [if_pos hz, if_neg c0, hw]; simp only []; unfold qaV.l0; rw [qdv, qaC, if_neg hg]
end
theorem wn {a : Nat} (h : a ≤ 1000000000000) : wrap64 (a : Int) = (a : Int) := qa8 (by omega) (by omega)
theorem qp9 {a : Nat} (h1 : a ≤ 1000000000000) : wrap64 ((a : Int) + 1) = ((a + 1 : Nat) : Int) := by rw [qa8 (by omega) (by omega)]; omega
theorem wsub {a b : Nat} (h1 : a ≤ 1000000000000) (h2 : b ≤ a) : wrap64 ((a : Int) - (b : Int)) = ((a - b : Nat) : Int) := by rw [qa8 (by omega) (by omega)]; omega
theorem wmul {a b : Nat} (h1 : a ≤ 1000000) (h2 : b ≤ 1000000) : wrap64 ((a : Int) * (b : Int)) = ((a * b : Nat) : Int) := by
 have h := Nat.mul_le_mul h1 h2; rw [← Int.natCast_mul, qa8 (by omega) (by omega)]
def qhB (p : Nat × Nat) : List Int := [(p.1 : Int), (p.2 : Int)]
def Prm (p : Nat) : Prop := 2 ≤ p ∧ ∀ d, d ∣ p → d = 1 ∨ d = p
theorem Prm.cop {p : Nat} (h : Prm p) (k : Nat) : Nat.Coprime p k ∨ p ∣ k := by
 rcases h.2 (Nat.gcd p k) (Nat.gcd_dvd_left p k) with e | e
 ·exact .inl e
 ·exact .inr (e ▸ Nat.gcd_dvd_right p k)
theorem qiq {p : Nat} (h : Prm p) : ∀ (e k : Nat), k ∣ p^e → ∃ i, i ≤ e ∧ k = p^i
 | 0, k, hk => ⟨0, Nat.le_refl _, Nat.dvd_one.mp hk⟩
 | e+1, k, hk => by
  rcases h.cop k with c | ⟨q, rfl⟩
  ·have h1 : k ∣ p^e := by
    rw [Nat.pow_succ] at hk; exact c.symm.dvd_of_dvd_mul_right hk
   obtain ⟨i, h2, h3⟩ := qiq h e k h1; exact ⟨i, by omega, h3⟩
  ·rw [Nat.pow_succ, Nat.mul_comm] at hk
   have h1 : q ∣ p^e := by
    have := h.1; exact Nat.dvd_of_mul_dvd_mul_right (by omega : 0 < p) hk
   obtain ⟨i, h2, h3⟩ := qiq h e q h1; exact ⟨i+1, by omega, by rw [h3, Nat.pow_succ, Nat.mul_comm]⟩
def qmm (p : Nat) (acc : List Nat) : Nat → List Nat
 | 0 => []
 | e+1 => qmm p acc e ++ acc.map (fun d => d * p^(e+1))
theorem qkr (p : Nat) (acc : List Nat) : ∀ (e d : Nat), d ∈ qmm p acc e ↔ ∃ i, 1 ≤ i ∧ i ≤ e ∧ ∃ x ∈ acc, d = x * p^i
 | 0, d => by simp [qmm]; omega
 | e+1, d => by
  rw [qmm, List.mem_append, qkr p acc e d, List.mem_map]; constructor
  ·rintro (⟨i, h1, h2, h3⟩ | ⟨x, h1, h2⟩)
   ·exact ⟨i, h1, by omega, h3⟩
   ·exact ⟨e+1, by omega, Nat.le_refl _, x, h1, h2.symm⟩
  ·rintro ⟨i, h1, h2, x, h3, h4⟩
   by_cases c : i = e + 1
   ·subst c; exact .inr ⟨x, h3, h4.symm⟩
   ·exact .inl ⟨i, h1, by omega, x, h3, h4⟩
theorem qqR {p : Nat} (h : Prm p) {x y i j : Nat} (hx : Nat.Coprime p x) (hy : Nat.Coprime p y) (e : x * p^i = y * p^j) : i = j := by
 have hp : 0 < p := by have := h.1; omega
 have key : ∀ (i j x y : Nat), Nat.Coprime p x → x * p^i = y * p^j → j ≤ i := by
  intro i j x y hx e
  refine Nat.le_of_not_lt fun c => ?_
  obtain ⟨d, rfl⟩ : ∃ d, j = i + (d+1) := ⟨j - i - 1, by omega⟩
  rw [Nat.pow_add, ← Nat.mul_assoc, Nat.mul_right_comm] at e; have e2 : x = y * p^(d+1) := Nat.eq_of_mul_eq_mul_right (Nat.pow_pos hp) e
  have h3 : p ∣ x := by rw [e2, Nat.pow_succ, ← Nat.mul_assoc]; exact Nat.dvd_mul_left _ _
  have h4 : p ∣ Nat.gcd p x := Nat.dvd_gcd (Nat.dvd_refl p) h3; rw [hx] at h4; have := Nat.dvd_one.mp h4; have := h.1; omega
 have a := key i j x y hx e; have b := key j i y x hy e.symm; omega
def qid (a : Nat) (acc : List Nat) : Prop := acc.Nodup ∧ ∀ d, d ∈ acc ↔ d ∣ a
theorem qid.one : qid 1 [1] := ⟨by simp, fun d => by simp [Nat.dvd_one]⟩
theorem qmn {p a : Nat} (hp : Prm p) (hc : Nat.Coprime p a) {acc : List Nat} (h : qid a acc) : ∀ e, (qmm p acc e).Nodup
 | 0 => by simp [qmm]
 | e+1 => by
  rw [qmm]
  have hp0 : 0 < p := by have := hp.1; omega
  refine List.nodup_append.2 ⟨qmn hp hc h e, ?_, ?_⟩
  ·refine List.pairwise_map.2 (h.1.imp fun {a b} hab heq => hab (Nat.eq_of_mul_eq_mul_right (Nat.pow_pos hp0) heq))
  ·intro d hd d' hd' heq
   subst heq; obtain ⟨i, h1, h2, x, h3, h4⟩ := (qkr p acc e d).1 hd; obtain ⟨y, h5, h6⟩ := List.mem_map.1 hd'; have cx : Nat.Coprime p x := Nat.Coprime.coprime_dvd_right ((h.2 x).1 h3) hc; have cy : Nat.Coprime p y := Nat.Coprime.coprime_dvd_right ((h.2 y).1 h5) hc; have := qqR hp cx cy (h4.symm.trans h6.symm); omega
theorem qid.step {p a : Nat} (hp : Prm p) (hc : Nat.Coprime p a) {acc : List Nat} (h : qid a acc) (e : Nat) : qid (a * p^e) (acc ++ qmm p acc e) := by
 have hp0 : 0 < p := by have := hp.1; omega
 refine ⟨List.nodup_append.2 ⟨h.1, qmn hp hc h e, ?_⟩, fun d => ?_⟩
 ·intro d hd d' hd' heq
  subst heq; obtain ⟨i, h1, h2, x, h3, h4⟩ := (qkr p acc e d).1 hd'; have cx : Nat.Coprime p x := Nat.Coprime.coprime_dvd_right ((h.2 x).1 h3) hc; have cd : Nat.Coprime p d := Nat.Coprime.coprime_dvd_right ((h.2 d).1 hd) hc; have := qqR hp cd cx (i := 0) (j := i) (by rw [Nat.pow_zero, Nat.mul_one]; exact h4); omega
 ·rw [List.mem_append, qkr, h.2]
  constructor
  ·rintro (h1 | ⟨i, h1, h2, x, h3, rfl⟩)
   ·exact Nat.dvd_trans h1 (Nat.dvd_mul_right _ _)
   ·exact Nat.mul_dvd_mul ((h.2 x).1 h3) (Nat.pow_dvd_pow p h2)
  ·intro hd
   obtain ⟨x, k, h1, h2, rfl⟩ := Nat.dvd_mul.1 hd; obtain ⟨i, h3, rfl⟩ := qiq hp e k h2; by_cases c : i = 0
   ·subst c
    left; rw [Nat.pow_zero, Nat.mul_one]; exact h1
   ·exact .inr ⟨i, by omega, h3, x, (h.2 x).2 h1, rfl⟩
theorem qju : ∀ (A B : List Nat), A.Pairwise (· < ·) → B.Pairwise (· < ·) → (∀ d, d ∈ A ↔ d ∈ B) → A = B
 | [], [], _, _, _ => rfl
 | [], b :: B, _, _, h => absurd ((h b).2 List.mem_cons_self) (by simp)
 | a :: A, [], _, _, h => absurd ((h a).1 List.mem_cons_self) (by simp)
 | a :: A, b :: B, hA, hB, h => by
  obtain ⟨a1, a2⟩ := List.pairwise_cons.1 hA; obtain ⟨b1, b2⟩ := List.pairwise_cons.1 hB
  have e : a = b := by
   rcases List.mem_cons.1 ((h a).1 List.mem_cons_self) with e | e
   ·exact e
   ·rcases List.mem_cons.1 ((h b).2 List.mem_cons_self) with e2 | e2
    ·exact e2.symm
    ·have := b1 a e; have := a1 b e2; omega
  subst e
  congr 1
  refine qju A B a2 b2 fun d => ?_
  have hd := h d; rw [List.mem_cons, List.mem_cons] at hd; constructor
  ·intro hm
   rcases hd.1 (.inr hm) with e | e
   ·subst e; have := a1 d hm; omega
   ·exact e
  ·intro hm
   rcases hd.2 (.inr hm) with e | e
   ·subst e; have := b1 d hm; omega
   ·exact e
def qql (n : Nat) : List Nat := ((List.range n).map (· + 1)).filter (fun d => n % d == 0)
theorem qmV (n d : Nat) (hn : 1 ≤ n) : d ∈ qql n ↔ d ∣ n := by
 unfold qql; rw [List.mem_filter, List.mem_map, beq_iff_eq, ← Nat.dvd_iff_mod_eq_zero]; constructor
 ·exact fun h => h.2
 ·intro h
  have := Nat.le_of_dvd hn h; have := Nat.pos_of_dvd_of_pos h hn; exact ⟨⟨d - 1, List.mem_range.2 (by omega), by omega⟩, h⟩
theorem qkP (n : Nat) : (qql n).Pairwise (· < ·) := by
 unfold qql; refine List.Pairwise.filter _ ?_; rw [List.pairwise_map]
 exact List.pairwise_lt_range.imp fun h => by omega
def qqL (n r : Nat) : List Nat := ((List.range r).map (· + 1)).filter (fun d => n % d == 0)
def qk4 (n r : Nat) : List Nat := (((qqL n r).filter (fun d => d * d < n)).map (fun d => n / d)).reverse
theorem qhi (n r d : Nat) : d ∈ qqL n r ↔ 1 ≤ d ∧ d ≤ r ∧ d ∣ n := by
 unfold qqL; rw [List.mem_filter, List.mem_map, beq_iff_eq, ← Nat.dvd_iff_mod_eq_zero]; constructor
 ·rintro ⟨⟨x, hx, rfl⟩, h⟩
  have := List.mem_range.1 hx; exact ⟨by omega, by omega, h⟩
 ·rintro ⟨h1, h2, h3⟩
  exact ⟨⟨d - 1, List.mem_range.2 (by omega), by omega⟩, h3⟩
theorem qlg (n r : Nat) : (qqL n r).Pairwise (· < ·) := by
 unfold qqL; refine List.Pairwise.filter _ ?_; rw [List.pairwise_map]
 exact List.pairwise_lt_range.imp fun h => by omega
theorem quot_lt {n a b : Nat} (ha : a ∣ n) (hb : b ∣ n) (hn : 1 ≤ n) (h : a < b) : n / b < n / a := by
 obtain ⟨x, rfl⟩ := ha; obtain ⟨y, hy⟩ := hb
 have ha0 : 0 < a := Nat.pos_of_ne_zero fun h0 => by rw [h0, Nat.zero_mul] at hn; omega
 have hx0 : 0 < x := Nat.pos_of_ne_zero fun h0 => by rw [h0, Nat.mul_zero] at hn; omega
 rw [Nat.mul_div_cancel_left _ ha0]; rw [Nat.div_lt_iff_lt_mul (by omega)]; have : x * a < x * b := Nat.mul_lt_mul_of_pos_left h hx0; rw [Nat.mul_comm a x]; exact this
theorem qsx (n r : Nat) (hn : 1 ≤ n) (h1 : r * r ≤ n) (h2 : n < (r+1) * (r+1)) : qqL n r ++ qk4 n r = qql n := by
 have key : ∀ d, d ∣ n → 1 ≤ d ∧ d * (n / d) = n := fun d hd => ⟨Nat.pos_of_dvd_of_pos hd hn, Nat.mul_div_cancel' hd⟩
 refine qju _ _ (List.pairwise_append.2 ⟨qlg n r, ?_, ?_⟩) (qkP n) fun d => ?_
 ·unfold qk4
  rw [List.pairwise_reverse, List.pairwise_map]; refine List.Pairwise.imp_of_mem (R := (· < ·)) (fun {a b} ha hb hab => ?_) ((qlg n r).filter _); exact quot_lt ((qhi n r a).1 (List.mem_filter.1 ha).1).2.2 ((qhi n r b).1 (List.mem_filter.1 hb).1).2.2 hn hab
 ·intro a ha b hb
  unfold qk4 at hb; rw [List.mem_reverse, List.mem_map] at hb; obtain ⟨d, hd, rfl⟩ := hb; obtain ⟨hd1, hd2⟩ := List.mem_filter.1 hd; obtain ⟨d1, d2, d3⟩ := (qhi n r d).1 hd1; obtain ⟨a1, a2, a3⟩ := (qhi n r a).1 ha; have hd2 : d * d < n := of_decide_eq_true hd2; have hq := (key d d3).2
  refine Nat.lt_of_not_le fun hc => ?_
  have hq2 : n / d ≤ r := by omega
  have : d < n / d := Nat.lt_of_not_le fun h => by
   have : d * (n / d) ≤ d * d := Nat.mul_le_mul_left _ h; omega
  have h3 : d * (n / d) ≤ (r - 1) * r := Nat.mul_le_mul (by omega) hq2; have h4 : (r - 1) * r < r * r := Nat.mul_lt_mul_of_pos_right (by omega) (by omega); omega
 ·rw [List.mem_append, qhi, qmV n d hn]
  unfold qk4; rw [List.mem_reverse, List.mem_map]; constructor
  ·rintro (h | ⟨x, hx, rfl⟩)
   ·exact h.2.2
   ·obtain ⟨hx1, -⟩ := List.mem_filter.1 hx
    obtain ⟨x1, x2, x3⟩ := (qhi n r x).1 hx1; exact ⟨x, by have := (key x x3).2; rw [Nat.mul_comm]; omega⟩
  ·intro hd
   obtain ⟨d1, hq⟩ := key d hd; by_cases c : d ≤ r
   ·exact .inl ⟨d1, c, hd⟩
   ·right
    have hqd : n / d ∣ n := ⟨d, by rw [Nat.mul_comm]; omega⟩
    obtain ⟨q1, hq1⟩ := key _ hqd
    have hlt : n / d < d := Nat.lt_of_not_le fun h => by
     have h3 : (r+1) * (r+1) ≤ d * (n / d) := Nat.mul_le_mul (by omega) (by omega); omega
    have hle : n / d ≤ r := Nat.le_of_not_lt fun h => by
     have h3 : (r+1) * (r+1) ≤ d * (n / d) := Nat.mul_le_mul (by omega) (by omega); omega
    refine ⟨n / d, List.mem_filter.2 ⟨(qhi n r _).2 ⟨q1, hle, hqd⟩, decide_eq_true ?_⟩, ?_⟩
    ·have : n / d * (n / d) < d * (n / d) := Nat.mul_lt_mul_of_pos_right hlt q1
     omega
    ·exact Nat.eq_of_mul_eq_mul_left q1 (by rw [hq1, Nat.mul_comm]; exact hq.symm)
theorem qp5 {n : Nat} (hn : 1 ≤ n) {acc s : List Nat} (h : qid n acc) (hp : s.Perm acc) (hs : s.Pairwise (· ≤ ·)) : s = qql n := by
 refine qju _ _ ?_ (qkP n) fun d => by rw [hp.mem_iff, h.2, qmV n d hn]
 have hnd : s.Nodup := hp.nodup_iff.2 h.1; refine List.Pairwise.imp (R := fun a b => a ≤ b ∧ a ≠ b) (fun {a b} h => by omega) ?_; exact List.pairwise_and_iff.2 ⟨hs, hnd⟩
def qr0 (x p : Nat) : Prop := 2 ≤ p ∧ p ∣ x ∧ ∀ d, 2 ≤ d → d < p → ¬ d ∣ x
theorem qr0.prm {x p : Nat} (h : qr0 x p) : Prm p := by
 refine ⟨h.1, fun d hd => ?_⟩
 have hp : 0 < p := by have := h.1; omega
 have h1 := Nat.le_of_dvd hp hd; have h2 := Nat.pos_of_dvd_of_pos hd hp; by_cases c1 : d = 1
 ·exact .inl c1
 by_cases c2 : d = p
 ·exact .inr c2
 exact absurd (Nat.dvd_trans hd h.2.1) (h.2.2 d (by omega) (by omega))
theorem qmi {x d : Nat} (hx : 2 ≤ x) (hd : ∀ q, 2 ≤ q → q < d → ¬ q ∣ x) (h : x < d * d) : qr0 x x := by
 refine ⟨hx, Nat.dvd_refl x, fun q h1 h2 hq => ?_⟩
 have hqd : d ≤ q := Nat.le_of_not_lt fun c => hd q h1 c hq
 obtain ⟨r, hr⟩ := hq
 have hr2 : 2 ≤ r := by
  rcases r with _ | _ | r
  ·simp at hr; omega
  ·simp at hr; omega
  ·omega
 have hrd : r < d := Nat.lt_of_not_le fun c => by
  have := Nat.mul_le_mul hqd c; omega
 exact hd r hr2 hrd ⟨q, by rw [Nat.mul_comm]; exact hr⟩
theorem qh8 (a b : Nat) : Int.tmod (a : Int) (b : Int) = ((a % b : Nat) : Int) := Int.ofNat_tmod a b
theorem qkx (a b : Nat) : Int.tdiv (a : Int) (b : Int) = ((a / b : Nat) : Int) := Int.ofNat_tdiv a b
theorem lf_l0 {x : Nat} (hx : 2 ≤ x) (hn : x ≤ 1000000) : ∀ (s d : Nat), d + s = 1001 → 2 ≤ d → (∀ q, 2 ≤ q → q < d → ¬ q ∣ x) → ∃ p, qr0 x p ∧ Ev (fun k => qbd.l0 k (x : Int) (d : Int)) (p : Int)
 | 0, d, e, h2, hq => by
  have hd : d = 1001 := by omega
  refine ⟨x, qmi hx hq (by rw [hd]; omega), Ev.mk' 0 fun k _ => ?_⟩; simp only [qbd.l0]; rw [wmul (by omega) (by omega), if_neg (by rw [hd]; omega)]
 | s + 1, d, e, h2, hq => by
  by_cases c1 : d * d ≤ x
  ·by_cases c2 : d ∣ x
   ·refine ⟨d, ⟨h2, c2, hq⟩, Ev.mk' 0 fun k _ => ?_⟩
    simp only [qbd.l0]; rw [wmul (by omega) (by omega), if_pos (by omega), if_neg (by omega), qh8, if_pos (by rw [Nat.mod_eq_zero_of_dvd c2]; rfl)]
   ·obtain ⟨p, h3, K, hK⟩ := lf_l0 hx hn s (d + 1) (by omega) (by omega) (fun q h4 h5 => by
     by_cases c3 : q = d
     ·rw [c3]; exact c2
     ·exact hq q h4 (by omega))
    refine ⟨p, h3, Ev.mk' K fun k hk => ?_⟩; have h6 := hK k hk; simp only [qbd.l0]; rw [wmul (by omega) (by omega), if_pos (by omega), if_neg (by omega), qh8, if_neg (by intro h7; exact c2 (Nat.dvd_of_mod_eq_zero (by omega))), qp9 (by omega)]; exact h6
  ·refine ⟨x, qmi hx hq (by omega), Ev.mk' 0 fun k _ => ?_⟩
   simp only [qbd.l0]; rw [wmul (by omega) (by omega), if_neg (by omega)]
theorem qif {x : Nat} (hx : 2 ≤ x) (hn : x ≤ 1000000) : ∃ p, qr0 x p ∧ Ev (fun k => qbd.f k (x : Int)) (p : Int) := lf_l0 hx hn 999 2 rfl (by omega) (fun q h1 h2 => by omega)
inductive Fac : List (Nat × Nat) → Nat → Prop
 | one : Fac [] 1
 | snoc {l : List (Nat × Nat)} {m p e : Nat} : Fac l m → Prm p → 1 ≤ e → Nat.Coprime p m → Fac (l ++ [(p, e)]) (m * p ^ e)
theorem Fac.pos {l : List (Nat × Nat)} {m : Nat} (h : Fac l m) : 1 ≤ m := by
 induction h with
 | one => omega
 | snoc h hp he hc ih =>
  have := hp.1; exact Nat.mul_pos ih (Nat.pow_pos (by omega))
theorem qjC {p e : Nat} (hp : 2 ≤ p) : e < p ^ e := Nat.lt_of_lt_of_le Nat.lt_two_pow_self (Nat.pow_le_pow_left hp e)
theorem Fac.len {l : List (Nat × Nat)} {m : Nat} (h : Fac l m) : l.length < m := by
 induction h with
 | one => simp
 | @snoc l m p e h hp he hc ih =>
  rw [List.length_append, List.length_singleton]; have h1 : 2 ^ 1 ≤ p ^ e := Nat.le_trans (Nat.pow_le_pow_right (by omega) he) (Nat.pow_le_pow_left hp.1 e); have h2 := Nat.mul_le_mul (Nat.le_refl m) h1; omega
theorem qoD {p : Nat} (hp : 2 ≤ p) : ∀ (s x : Nat), x ≤ s → 1 ≤ x → ∃ e y, x = p ^ e * y ∧ ¬ p ∣ y ∧ 1 ≤ y
 | 0, x, h1, h2 => by omega
 | s + 1, x, h1, h2 => by
  by_cases c : p ∣ x
  ·obtain ⟨z, rfl⟩ := c
   have hz : 1 ≤ z := Nat.pos_of_ne_zero fun h => by subst h; simp at h2
   have hlt : z < p * z := by
    have := Nat.mul_le_mul hp (Nat.le_refl z); omega
   obtain ⟨e, y, e1, e2, e3⟩ := qoD hp s z (by omega) hz; exact ⟨e + 1, y, by rw [e1, Nat.pow_succ, Nat.mul_comm (p ^ e) p, Nat.mul_assoc], e2, e3⟩
  ·exact ⟨0, x, by simp, c, h2⟩
theorem fac_l1 {p y : Nat} (hp : 2 ≤ p) (hy : ¬ p ∣ y) (hy1 : 1 ≤ y) (x3 : List (List Int)) (hl : x3.length < 1000000) (r : List (List Int)) : ∀ (j i e : Nat), i + j = e → e ≤ 1000 → p ^ j * y ≤ 1000000 → Ev (fun k => qaX.l0 k (y : Int) (x3 ++ [qhB (p, e)])) r → Ev (fun k => qaX.l1 k ((p ^ j * y : Nat) : Int) x3 (p : Int) (i : Int)) r
 | 0, i, e, he, hb, hx, hr => by
  obtain ⟨K, hK⟩ := hr
  refine Ev.mk' K fun k hk => ?_
  have h1 := hK k hk; simp only [qaX.l1]; rw [Nat.pow_zero, Nat.one_mul, if_neg (by omega), qh8, if_neg (by intro h7; exact hy (Nat.dvd_of_mod_eq_zero (by omega))), if_pos (by omega)]
  have : i = e := by omega
  subst this; exact h1
 | j + 1, i, e, he, hb, hx, hr => by
  have e1 : p ^ (j + 1) * y = p * (p ^ j * y) := by rw [Nat.pow_succ, Nat.mul_comm (p ^ j) p, Nat.mul_assoc]
  have hle : p ^ j * y ≤ p ^ (j + 1) * y := by rw [e1]; exact Nat.le_mul_of_pos_left _ (by omega)
  obtain ⟨K, hK⟩ := fac_l1 hp hy hy1 x3 hl r j (i + 1) e (by omega) hb (by omega) hr
  refine Ev.mk' K fun k hk => ?_
  have h1 := hK k hk; simp only [qaX.l1]; rw [if_neg (by omega), qh8, if_pos (by rw [e1, Nat.mul_mod_right]; rfl), qkx, show p ^ (j + 1) * y / p = p ^ j * y by rw [e1]; exact Nat.mul_div_cancel_left _ (by omega), wn (by omega), qp9 (by omega)]; exact h1
theorem fac_l0 : ∀ (s x m : Nat) (l : List (Nat × Nat)), x ≤ s → 1 ≤ x → m * x ≤ 1000000 → Fac l m → Nat.Coprime m x → ∃ l', Fac l' (m * x) ∧ Ev (fun k => qaX.l0 k (x : Int) (l.map qhB)) (l'.map qhB)
 | 0, x, m, l, h1, h2, _, _, _ => by omega
 | s + 1, x, m, l, h1, h2, hn, hF, hc => by
  by_cases c1 : 2 ≤ x
  ·have hm := hF.pos
   have hxn : x ≤ 1000000 := Nat.le_trans (Nat.le_mul_of_pos_left _ hm) hn; obtain ⟨p, hL, K1, hK1⟩ := qif c1 hxn; obtain ⟨e, y, e1, e2, e3⟩ := qoD hL.1 x x (Nat.le_refl _) h2
   have he : 1 ≤ e := Nat.pos_of_ne_zero fun h => by
    subst h; rw [Nat.pow_zero, Nat.one_mul] at e1; exact e2 (e1 ▸ hL.2.1)
   have hpp := hL.prm
   have hcp : Nat.Coprime p m := by
    rcases hpp.cop m with h | h
    ·exact h
    ·have h4 : p ∣ Nat.gcd m x := Nat.dvd_gcd h hL.2.1
     rw [hc] at h4; have := Nat.dvd_one.1 h4; have := hL.1; omega
   have hF2 : Fac (l ++ [(p, e)]) (m * p ^ e) := .snoc hF hpp he hcp
   have hlt : y < x := by
    have : 2 ^ 1 ≤ p ^ e := Nat.le_trans (Nat.pow_le_pow_right (by omega) he) (Nat.pow_le_pow_left hL.1 e); have := Nat.mul_le_mul this (Nat.le_refl y); omega
   have hcy : Nat.Coprime (m * p ^ e) y := by
    refine Nat.Coprime.mul_left ?_ ?_
    ·exact Nat.Coprime.coprime_dvd_right ⟨p ^ e, by rw [e1, Nat.mul_comm]⟩ hc
    ·refine Nat.Coprime.pow_left e ?_
     rcases hpp.cop y with h | h
     ·exact h
     ·exact absurd h e2
   have hmul : m * p ^ e * y = m * x := by rw [e1, Nat.mul_assoc]
   obtain ⟨l', g1, g2⟩ := fac_l0 s y (m * p ^ e) (l ++ [(p, e)]) (by omega) e3 (by omega) hF2 hcy; rw [hmul] at g1; refine ⟨l', g1, ?_⟩; have hlen := hF.len; have hm2 : m ≤ m * x := Nat.le_mul_of_pos_right _ h2; have hee : e < p ^ e := qjC hL.1; have hpe : p ^ e ≤ p ^ e * y := Nat.le_mul_of_pos_right _ e3
   have e9 : e ≤ 1000 := by
    refine Nat.le_of_not_lt fun h => ?_
    have hp0 : 0 < p := by have := hL.1; omega
    have h5 : 2 ^ 20 ≤ p ^ e := Nat.le_trans (Nat.pow_le_pow_left hL.1 20) (Nat.pow_le_pow_right hp0 (by omega)); omega
   obtain ⟨K2, hK2⟩ := fac_l1 hL.1 e2 e3 (l.map qhB) (by rw [List.length_map]; exact Nat.lt_of_lt_of_le hlen (Nat.le_trans hm2 hn)) (l'.map qhB) e 0 e (by omega) e9 (by omega) (by rw [List.map_append] at g2; exact g2)
   refine Ev.mk' (K1 + K2) fun k hk => ?_
   have h7 := hK1 k (by omega); have h8 := hK2 k (by omega); dsimp only at h7 h8; simp only [qaX.l0]; rw [if_pos (by omega), h7, qaC, e1]; exact h8
  ·have hx : x = 1 := by omega
   subst hx; refine ⟨l, by rw [Nat.mul_one]; exact hF, Ev.mk' 0 fun k _ => ?_⟩; simp only [qaX.l0]; rw [if_neg (by omega)]
theorem qjn {n : Nat} (h1 : 1 ≤ n) (hn : n ≤ 1000000) : ∃ l, Fac l n ∧ Ev (fun k => qaX.f k (n : Int)) (l.map qhB) := by
 obtain ⟨l, h2, h3⟩ := fac_l0 n n 1 [] (Nat.le_refl _) h1 (by omega) .one (Nat.coprime_one_left n); rw [Nat.one_mul] at h2; exact ⟨l, h2, h3⟩
def cz (l : List Nat) : List Int := l.map fun (d : Nat) => (d : Int)
theorem qfU (l : List Nat) : (cz l).length = l.length := List.length_map _
theorem ql0 (a b : List Nat) : cz (a ++ b) = cz a ++ cz b := List.map_append
theorem rd_cz (pre rest : List Nat) (d : Nat) : rd (cz (pre ++ d :: rest)) (pre.length : Int) = (d : Int) := by
 simp [rd, cz, List.getD]
theorem rdI_row (pre rest : List (Nat × Nat)) (p : Nat × Nat) : qbe ((pre ++ p :: rest).map qhB) (pre.length : Int) = qhB p := by
 simp [qbe, List.getD]
theorem dv_l2 {R : List Int} {row : List Int} {x6 x13 x14 x22 : Int} {x12 : List (List Int)} {q j : Nat} (hq : q ≤ 1000000) (hj : j ≤ 1000000) (y : List Nat) (hy : ∀ d ∈ y, d ≤ 1000000) : ∀ (rest pre z : List Nat), y = pre ++ rest → z.length + rest.length ≤ 1000000 → y.length ≤ 1000000 →
  Ev (fun k => qaT.l1 k (cz (z ++ rest.map (fun d => d * q))) row x6 (q : Int) x12 x13 x14 x22 ((j + 1 : Nat) : Int)) R →
  Ev (fun k => qaT.l2 k (cz z) row x6 (q : Int) x12 x13 x14 x22 (j : Int) (cz y) (y.length : Int) (pre.length : Int)) R
 | [], pre, z, e, hz, hyl, hR => by
  obtain ⟨K, hK⟩ := hR
  refine Ev.mk' K fun k hk => ?_
  have h1 := hK k hk; rw [List.append_nil] at e; subst e; simp only [qaT.l2]; rw [if_neg (by omega), qp9 (by omega)]
  simpa using h1
 | d :: rest, pre, z, e, hz, hyl, hR => by
  have hd : d ≤ 1000000 := hy d (by rw [e]; simp)
  obtain ⟨K, hK⟩ := dv_l2 hq hj y hy rest (pre ++ [d]) (z ++ [d * q]) (by rw [e]; simp) (by simp only [List.length_append, List.length_singleton, List.length_cons, List.length_nil] at *; omega) hyl (by
   rw [List.append_assoc]; exact hR)
  refine Ev.mk' K fun k hk => ?_
  have h1 := hK k hk
  have hl : pre.length < y.length := by rw [e]; simp
  have hz2 : z.length ≤ 1000000 := by simp only [List.length_cons] at hz; omega
  simp only [qaT.l2]; rw [if_pos (by omega), if_pos (by omega), if_pos (by rw [qfU]; omega), if_pos (by rw [qfU]; omega), qp9 (by omega)]; rw [e, rd_cz, wmul hd hq, ← e]; rw [List.length_append, List.length_singleton] at h1; rw [ql0] at h1; exact h1
theorem dv_l1 {R : List Int} {x13 : Int} {x12 : List (List Int)} {p e i : Nat} (acc : List Nat) (he : e ≤ 1000) (hi : i ≤ 1000000) (hp : 1 ≤ p) (hpe : p ^ e ≤ 1000000) (ha : ∀ d ∈ acc, d ≤ 1000000) (hl : acc.length * (e + 1) ≤ 1000000) : ∀ (s j : Nat), j + s = e →
  Ev (fun k => qaT.l0 k (cz (acc ++ qmm p acc e)) x12 x13 ((i + 1 : Nat) : Int)) R →
  Ev (fun k => qaT.l1 k (cz (acc ++ qmm p acc j)) (qhB (p, e)) (acc.length : Int) ((p ^ j : Nat) : Int) x12 x13 (i : Int) (e : Int) (j : Int)) R
 | 0, j, ej, hR => by
  have : j = e := by omega
  subst this; obtain ⟨K, hK⟩ := hR
  refine Ev.mk' K fun k hk => ?_
  have h1 := hK k hk; simp only [qaT.l1]; rw [if_neg (by omega), qp9 (by omega)]; exact h1
 | s + 1, j, ej, hR => by
  have hlen : ∀ j, (qmm p acc j).length = acc.length * j := by
   intro j
   induction j with
   | zero => rfl
   | succ j ih => rw [qmm, List.length_append, List.length_map, ih, Nat.mul_succ]
  have hpj : p ^ (j + 1) ≤ 1000000 := Nat.le_trans (Nat.pow_le_pow_right hp (by omega)) hpe; have hpj0 : p ^ j ≤ 1000000 := Nat.le_trans (Nat.pow_le_pow_right hp (by omega)) hpe
  have hp1 : p ≤ 1000000 := by
   have := Nat.pow_le_pow_right hp (show 1 ≤ e by omega); rw [Nat.pow_one] at this; omega
  have hm : acc.length * (j + 2) ≤ acc.length * (e + 1) := Nat.mul_le_mul_left _ (by omega)
  have hm2 : acc.length * (j + 2) = acc.length * j + acc.length + acc.length := by rw [Nat.mul_add]; omega
  have h2 := dv_l1 acc he hi hp hpe ha hl s (j + 1) (by omega) hR; rw [qmm, ← List.append_assoc] at h2; obtain ⟨K, hK⟩ := dv_l2 (R := R) (row := qhB (p, e)) (x6 := (acc.length : Int)) (x13 := x13) (x14 := (i : Int)) (x22 := (e : Int)) (x12 := x12) (q := p ^ (j + 1)) (j := j) (by omega) (by omega) acc ha acc [] (acc ++ qmm p acc j) rfl (by rw [List.length_append, hlen]; omega) (by omega) h2
  refine Ev.mk' K fun k hk => ?_
  have h1 := hK k hk; simp only [qaT.l1]; rw [if_pos (by omega), if_pos (by simp [qhB]), if_pos (by omega), if_pos (by rw [qfU, List.length_append]; omega), qaC]
  have e1 : List.take ((acc.length : Int)).toNat (cz (acc ++ qmm p acc j)) = cz acc := by
   rw [Int.toNat_natCast, ql0, List.take_append_of_le_length (by rw [qfU]; exact Nat.le_refl _), List.take_of_length_le (by rw [qfU]; exact Nat.le_refl _)]
  rw [e1, qfU, show rd (qhB (p, e)) 0 = (p : Int) from rfl, wmul (by omega) (by omega), ← Nat.pow_succ]; exact h1
def qgH : Nat → List (Nat × Nat) → Nat → Prop
 | m, [], n => m = n
 | m, (p, e) :: l, n => Prm p ∧ 1 ≤ e ∧ Nat.Coprime p m ∧ qgH (m * p ^ e) l n
theorem qgH.dvd : ∀ (l : List (Nat × Nat)) (m n : Nat), qgH m l n → m ∣ n
 | [], m, n, h => by
  have h : m = n := h; exact h ▸ Nat.dvd_refl m
 | (p, e) :: l, m, n, h => Nat.dvd_trans (Nat.dvd_mul_right m (p ^ e)) (qgH.dvd l _ n h.2.2.2)
theorem Fac.from_ {l : List (Nat × Nat)} {m : Nat} (h : Fac l m) : ∀ (r : List (Nat × Nat)) (n : Nat), qgH m r n → qgH 1 (l ++ r) n := by
 induction h with
 | one => intro r n hr; exact hr
 | snoc h hp he hc ih =>
  intro r n hr; rw [List.append_assoc]; exact ih _ n ⟨hp, he, hc, hr⟩
theorem Fac.all {l : List (Nat × Nat)} {n : Nat} (h : Fac l n) : qgH 1 l n := by
 have := h.from_ [] n rfl; rwa [List.append_nil] at this
theorem sortI_cz {n : Nat} (hn : 1 ≤ n) {acc : List Nat} (h : qid n acc) : qhY (cz acc) = cz (qql n) := by
 have hp : (qhY (cz acc)).Perm (cz acc) := List.mergeSort_perm _ _; have hs : (qhY (cz acc)).Pairwise (fun a b => decide (a ≤ b) = true) := List.pairwise_mergeSort (fun a b c h1 h2 => by simp at *; omega) (fun a b => by simp; omega) _
 have hnn : ∀ x ∈ qhY (cz acc), 0 ≤ x := fun x hx => by
  have := hp.mem_iff.1 hx; obtain ⟨d, -, rfl⟩ := List.mem_map.1 this; exact Int.natCast_nonneg d
 have e1 : cz ((qhY (cz acc)).map Int.toNat) = qhY (cz acc) := by
  unfold cz; rw [List.map_map]; refine (List.map_congr_left fun x hx => ?_).trans (List.map_id _); have := hnn x hx
  show ((x.toNat : Nat) : Int) = x
  omega
 have h2 : ((qhY (cz acc)).map Int.toNat).Perm acc := by
  have := hp.map Int.toNat
  have e2 : (cz acc).map Int.toNat = acc := by
   unfold cz; rw [List.map_map]; exact (List.map_congr_left fun x _ => rfl).trans (List.map_id _)
  rwa [e2] at this
 have h3 : ((qhY (cz acc)).map Int.toNat).Pairwise (· ≤ ·) := by
  rw [List.pairwise_map]
  exact hs.imp fun h => by have := of_decide_eq_true h; omega
 rw [← e1, qp5 hn h h2 h3]
theorem dv_l0 {n : Nat} (h1 : 1 ≤ n) (hn : n ≤ 1000000) (L : List (Nat × Nat)) (hL : L.length ≤ 1000000) : ∀ (rest pre : List (Nat × Nat)) (acc : List Nat) (m : Nat), L = pre ++ rest → qgH m rest n → qid m acc → acc.length ≤ m →
  Ev (fun k => qaT.l0 k (cz acc) (L.map qhB) (L.length : Int) (pre.length : Int)) (cz (qql n))
 | [], pre, acc, m, e, hF, hA, hal => by
  have hF : m = n := hF; subst hF; rw [List.append_nil] at e; subst e
  have hpos : 0 < acc.length := by
   have : 1 ∈ acc := (hA.2 1).2 (Nat.one_dvd _); exact List.length_pos_of_mem this
  refine Ev.mk' 0 fun k _ => ?_
  simp only [qaT.l0]; rw [if_neg (by omega), if_pos ⟨by rw [qfU]; exact hpos, by rw [qfU]; omega⟩, sortI_cz h1 hA]
 | (p, e) :: rest, pre, acc, m, eL, hF, hA, hal => by
  obtain ⟨hp, he, hc, hF2⟩ := hF; have hd := Nat.le_of_dvd h1 (qgH.dvd rest _ n hF2)
  have hm : 1 ≤ m := by
   have h3 : 1 ≤ m * p ^ e := Nat.pos_of_dvd_of_pos (qgH.dvd rest _ n hF2) h1
   exact Nat.pos_of_ne_zero fun h => by subst h; simp at h3
  have hp2 := hp.1; have hee : e < p ^ e := qjC hp2; have hpe : p ^ e ≤ m * p ^ e := Nat.le_mul_of_pos_left _ hm; have hme : m ≤ m * p ^ e := Nat.le_mul_of_pos_right _ (Nat.pow_pos (by omega))
  have e9 : e ≤ 1000 := by
   refine Nat.le_of_not_lt fun h => ?_
   have hp0 : 0 < p := by omega
   have h5 : 2 ^ 20 ≤ p ^ e := Nat.le_trans (Nat.pow_le_pow_left hp2 20) (Nat.pow_le_pow_right hp0 (by omega)); omega
  have hlm : acc.length * (e + 1) ≤ m * p ^ e := Nat.mul_le_mul hal (by omega)
  have hlen : (acc ++ qmm p acc e).length ≤ m * p ^ e := by
   have hlen2 : ∀ j, (qmm p acc j).length = acc.length * j := by
    intro j
    induction j with
    | zero => rfl
    | succ j ih => rw [qmm, List.length_append, List.length_map, ih, Nat.mul_succ]
   rw [List.length_append, hlen2]; have : acc.length * (e + 1) = acc.length * e + acc.length := Nat.mul_succ _ _; omega
  have hacc : ∀ d ∈ acc, d ≤ 1000000 := fun d hd' => by
   have := Nat.le_of_dvd hm ((hA.2 d).1 hd'); omega
  have h4 := dv_l0 h1 hn L hL rest (pre ++ [(p, e)]) (acc ++ qmm p acc e) (m * p ^ e) (by rw [eL]; simp) hF2 (hA.step hp hc e) hlen; rw [List.length_append, List.length_singleton] at h4
  have hpl : pre.length < L.length := by rw [eL]; simp
  obtain ⟨K, hK⟩ := dv_l1 (R := cz (qql n)) (x13 := (L.length : Int)) (x12 := L.map qhB) (p := p) (e := e) (i := pre.length) acc e9 (by omega) (by omega) (by omega) hacc (by omega) e 0 (by omega) h4
  refine Ev.mk' K fun k hk => ?_
  have h5 := hK k hk; simp only [qaT.l0]
  have er : qbe (L.map qhB) (pre.length : Int) = qhB (p, e) := by rw [eL]; exact rdI_row pre rest (p, e)
  rw [if_pos (by omega), if_pos (by omega), if_pos (by rw [List.length_map]; omega), er, if_pos (by simp [qhB]), qfU, show rd (qhB (p, e)) 1 = (e : Int) from rfl]; simp only [qmm, List.append_nil, Nat.pow_zero] at h5; exact h5
theorem qpg {n : Nat} (h1 : 1 ≤ n) (hn : n ≤ 1000000) : Ev (fun k => qaT.f k (n : Int)) (cz (qql n)) := by
 obtain ⟨l, hF, K1, hK1⟩ := qjn h1 hn; have hlen := hF.len; obtain ⟨K2, hK2⟩ := dv_l0 h1 hn l (by omega) l [] [1] 1 rfl hF.all qid.one (Nat.le_refl _); refine ⟨K1 + K2, fun k hk => ?_⟩; have h3 := hK1 k (by omega); have h4 := hK2 k (by omega); dsimp only at h3 h4; simp only [qaT.f]; rw [h3, qaC, List.length_map]; exact h4
section
open Lib
theorem rdz (l : List Nat) (i : Nat) (h : i < l.length) : rd (cz l) (i : Int) = ((l[i] : Nat) : Int) := by
 unfold rd cz; rw [Int.toNat_natCast, List.getD_eq_getElem?_getD, List.getElem?_map, List.getElem?_eq_getElem h]; rfl
theorem qqi {α : Type} (f : α → List UInt8) (l : List α) (i : Nat) (h : i < l.length) : bas ((l.take (i + 1)).map f) = bas ((l.take i).map f) ++ [bs (f l[i])] := by
 rw [List.take_succ_eq_append_getElem h, List.map_append]; unfold bas; rw [List.map_append]; rfl
def LT (l : List Nat) : ByteArray := if l = [] then bs [45] else bs (qfs 44 (l.map decDigits))
structure Sm (l : List Nat) : Prop where
 len : l.length ≤ 1000000
 all : ∀ n ∈ l, n ≤ 10000000
theorem Sm.get {l : List Nat} (h : Sm l) (i : Nat) (hi : i < l.length) : l[i] ≤ 10000000 := h.all _ (List.getElem_mem _)
theorem Sm.word {l : List Nat} (h : Sm l) : ∀ w ∈ l.map decDigits, w.length ≤ 20000000 := fun w hw => by
 obtain ⟨n, hn, rfl⟩ := List.mem_map.1 hw; have := h.all n hn; have := qnP n; omega
theorem qkM (l : List Nat) (hs : Sm l) : ∀ (d i : Nat) (x : List UInt8), i + d = l.length → x = qfs 44 ((l.take i).map decDigits) → x.length ≤ 20000000 * i → Ev (fun k => qb0.l0 k (bs x) (cz l) ((cz l).length : Int) (i : Int)) (bs (qfs 44 (l.map decDigits)))
 | 0, i, x, h, hx, hk => Ev.mk' 0 fun k _ => by
  simp only [qb0.l0]; rw [qfU, if_neg (by omega), hx, List.take_of_length_le (by omega)]
 | d + 1, i, x, h, hx, hk => by
  have hm := hs.len; have hn := hs.get i (by omega); obtain ⟨K1, n1⟩ := qqO l[i] (by omega); have l1 := qnP l[i]; have hr := rdz l i (by omega); by_cases c : i = 0
  ·obtain ⟨K, ih⟩ := qkM l hs d (i + 1) (x ++ decDigits l[i]) (by omega) (by rw [List.take_succ_eq_append_getElem (by omega), hx]; subst c; simp [qfs]) (by rw [List.length_append]; omega)
   refine Ev.mk' (K + K1) fun k hk => ?_
   have ih := ih k (by omega); have n1 := n1 k (by omega); dsimp only at ih n1; simp only [qb0.l0]; rw [qfU] at ih ⊢; rw [if_pos (by omega), if_pos (by omega), if_pos (by omega), if_neg (by omega), hr, n1, qaC, if_pos (by rw [qdb, qdb]; omega), qfT, qa8 (by omega) (by omega), show ((i : Int) + 1) = ((i + 1 : Nat) : Int) by omega, ih]
  ·obtain ⟨K, ih⟩ := qkM l hs d (i + 1) (x ++ 44 :: decDigits l[i]) (by omega) (by rw [List.take_succ_eq_append_getElem (by omega), List.map_append, List.map_cons, List.map_nil, qjs _ _ _ (by simp; exact ⟨c, fun e => by rw [e] at h; simp at h⟩), hx]) (by rw [List.length_append, List.length_cons]; omega)
   refine Ev.mk' (K + K1) fun k hk => ?_
   have ih := ih k (by omega); have n1 := n1 k (by omega); dsimp only at ih n1; simp only [qb0.l0]; rw [qfU] at ih ⊢; rw [if_pos (by omega), if_pos (by omega), if_pos (by omega), if_pos (by omega), if_pos (by rw [qdb]; omega), hr, n1, qaC, show (⟨#[44]⟩ : ByteArray) = bs [44] from rfl, qfT, if_pos (by rw [qdb, qdb, List.length_append]; simp only [List.length_cons, List.length_nil]; omega), qfT, qa8 (by omega) (by omega), show ((i : Int) + 1) = ((i + 1 : Nat) : Int) by omega, show x ++ [44] ++ decDigits l[i] = x ++ 44 :: decDigits l[i] by simp, ih]
theorem qnN (l : List Nat) (hs : Sm l) : Ev (fun k => qb0.f k (cz l)) (LT l) := by
 unfold LT; by_cases c : l = []
 ·subst c; exact ⟨0, fun k _ => rfl⟩
 ·obtain ⟨K, h⟩ := qkM l hs l.length 0 [] (by omega) rfl (by simp)
  have h0 : l.length ≠ 0 := fun e => c (List.length_eq_zero_iff.1 e)
  refine ⟨K, fun k hk => ?_⟩
  show qb0.f k (cz l) = _
  unfold qb0.f; rw [if_neg (by rw [qfU]; omega), if_neg c]; exact h k hk
theorem qlf (l : List Nat) (hs : Sm l) : ∀ (d i : Nat), i + d = l.length → Ev (fun k => qbq.l0 k (bas ((l.take i).map decDigits)) (cz l) ((cz l).length : Int) (i : Int)) (LT l)
 | 0, i, h => Ev.mk' 0 fun k _ => by
  simp only [qbq.l0]; unfold LT; rw [qfU, if_neg (by omega), List.take_of_length_le (by omega)]; by_cases c : l = []
  ·subst c; rfl
  ·have h0 : l.length ≠ 0 := fun e => c (List.length_eq_zero_iff.1 e)
   have hk : (bas (l.map decDigits)).length = l.length := by unfold bas; simp
   have hm := hs.len; rw [if_neg (by omega), qpK 44 _ (by simpa using c) (by rw [List.length_map]; omega) hs.word, qaC, if_neg c]
 | d + 1, i, h => by
  have hm := hs.len; have hn := hs.get i (by omega); have hr := rdz l i (by omega); obtain ⟨K, ih⟩ := qlf l hs d (i + 1) (by omega)
  refine Ev.mk' K fun k hk => ?_
  have ih := ih k hk; dsimp only at ih
  have hk : (bas ((l.take i).map decDigits)).length ≤ l.length := by unfold bas; rw [List.length_map, List.length_map, List.length_take]; omega
  have hs := qqi decDigits l i (by omega); simp only [qbq.l0]; rw [qfU] at ih ⊢; rw [if_pos (by omega), if_pos (by omega), if_pos (by omega), hr, qm2 _ (by omega), qaC, if_pos (by omega), qa8 (by omega) (by omega), show ((i : Int) + 1) = ((i + 1 : Nat) : Int) by omega, ← hs, ih]
theorem qle (l : List Nat) (hs : Sm l) : Ev (fun k => qbq.f k (cz l)) (LT l) := qlf l hs l.length 0 (by omega)
def qpZ (p : Nat × Nat) : List UInt8 := qfs 44 [decDigits p.1, decDigits p.2]
theorem qp0 (p : Nat × Nat) : qhB p = cz [p.1, p.2] := rfl
theorem qrZ (p : Nat × Nat) : LT [p.1, p.2] = bs (qpZ p) := by unfold LT; rw [if_neg (by simp)]; rfl
structure Sms (L : List (Nat × Nat)) : Prop where
 len : L.length ≤ 1000000
 all : ∀ p ∈ L, p.1 ≤ 1000000 ∧ p.2 ≤ 1000000
theorem Sms.row {L : List (Nat × Nat)} (h : Sms L) {p : Nat × Nat} (hp : p ∈ L) : Sm [p.1, p.2] := ⟨by simp, fun n hn => by
 have := h.all p hp
 simp at hn; omega⟩
theorem qnd {p : Nat × Nat} (h1 : p.1 ≤ 1000000) (h2 : p.2 ≤ 1000000) : 1 ≤ (qpZ p).length ∧ (qpZ p).length ≤ 20000000 := by
 have l1 := qnP p.1; have l2 := qnP p.2; simp only [qpZ, qfs, List.map_cons, List.map_nil, List.flatten_cons, List.flatten_nil, List.append_nil, List.length_append, List.length_cons]; omega
def ST (L : List (Nat × Nat)) : ByteArray := if L = [] then bs [45] else bs (qfs 47 (L.map qpZ))
theorem rdr (L : List (Nat × Nat)) (i : Nat) (h : i < L.length) : qbe (L.map qhB) (i : Int) = qhB L[i] := by
 unfold qbe; rw [Int.toNat_natCast, List.getD_eq_getElem?_getD, List.getElem?_map, List.getElem?_eq_getElem h]; rfl
theorem qkL (L : List (Nat × Nat)) (hs : Sms L) : ∀ (d i : Nat) (x : List UInt8), i + d = L.length → x = qfs 47 ((L.take i).map qpZ) → x.length ≤ 20000001 * i → Ev (fun k => qcn.l0 k (bs x) (L.map qhB) ((L.map qhB).length : Int) (i : Int)) (ST L)
 | 0, i, x, h, hx, hk => Ev.mk' 0 fun k _ => by
  simp only [qcn.l0]; unfold ST; rw [List.length_map, if_neg (by omega), hx, List.take_of_length_le (by omega), qhL]
  cases L with
  | nil => rw [if_pos (show qfs 47 (List.map qpZ []) = [] from rfl), if_pos rfl]; rfl
  | cons p r =>
   have := (hs.all p List.mem_cons_self)
   have := (qnd this.1 this.2).1; rw [if_neg, if_neg (by simp)]; intro e; rw [List.map_cons, qfs] at e; have := congrArg List.length e; rw [List.length_append, List.length_nil] at this; omega
 | d + 1, i, x, h, hx, hk => by
  have hm := hs.len; have hmem : L[i] ∈ L := List.getElem_mem _; have hw := qnd (hs.all _ hmem).1 (hs.all _ hmem).2; obtain ⟨K1, n1⟩ := qnN _ (hs.row hmem); have hr := rdr L i (by omega); by_cases c : i = 0
  ·obtain ⟨K, ih⟩ := qkL L hs d (i + 1) (x ++ qpZ L[i]) (by omega) (by rw [List.take_succ_eq_append_getElem (by omega), hx]; subst c; simp [qfs]) (by rw [List.length_append]; omega)
   refine Ev.mk' (K + K1) fun k hk => ?_
   have ih := ih k (by omega); have n1 := n1 k (by omega); dsimp only at ih n1; rw [qrZ, ← qp0] at n1; simp only [qcn.l0]; rw [List.length_map] at ih ⊢; rw [if_pos (by omega), if_pos (by omega), if_pos (by omega), if_neg (by omega), hr, n1, qaC, if_pos (by rw [qdb, qdb]; omega), qfT, qa8 (by omega) (by omega), show ((i : Int) + 1) = ((i + 1 : Nat) : Int) by omega, ih]
  ·obtain ⟨K, ih⟩ := qkL L hs d (i + 1) (x ++ 47 :: qpZ L[i]) (by omega) (by rw [List.take_succ_eq_append_getElem (by omega), List.map_append, List.map_cons, List.map_nil, qjs _ _ _ (by simp; exact ⟨c, fun e => by rw [e] at h; simp at h⟩), hx]) (by rw [List.length_append, List.length_cons]; omega)
   refine Ev.mk' (K + K1) fun k hk => ?_
   have ih := ih k (by omega); have n1 := n1 k (by omega); dsimp only at ih n1; rw [qrZ, ← qp0] at n1; simp only [qcn.l0]; rw [List.length_map] at ih ⊢; rw [if_pos (by omega), if_pos (by omega), if_pos (by omega), if_pos (by omega), if_pos (by rw [qdb]; omega), hr, n1, qaC, show (⟨#[47]⟩ : ByteArray) = bs [47] from rfl, qfT, if_pos (by rw [qdb, qdb, List.length_append]; simp only [List.length_cons, List.length_nil]; omega), qfT, qa8 (by omega) (by omega), show ((i : Int) + 1) = ((i + 1 : Nat) : Int) by omega, show x ++ [47] ++ qpZ L[i] = x ++ 47 :: qpZ L[i] by simp, ih]
theorem qsp (L : List (Nat × Nat)) (hs : Sms L) : Ev (fun k => qcn.f k (L.map qhB) true) (ST L) := by
 obtain ⟨K, h⟩ := qkL L hs L.length 0 [] (by omega) rfl (by simp); refine ⟨K, fun k hk => ?_⟩
 show qcn.f k (L.map qhB) true = _
 unfold qcn.f; rw [if_pos rfl]; exact h k hk
theorem qjY (L : List (Nat × Nat)) (hs : Sms L) : ∀ (d i : Nat), i + d = L.length → Ev (fun k => qbT.l0 k (bas ((L.take i).map qpZ)) (L.map qhB) ((L.map qhB).length : Int) (i : Int)) (ST L)
 | 0, i, h => Ev.mk' 0 fun k _ => by
  simp only [qbT.l0]; unfold ST; rw [List.length_map, if_neg (by omega), List.take_of_length_le (by omega)]; by_cases c : L = []
  ·subst c; rfl
  ·have h0 : L.length ≠ 0 := fun e => c (List.length_eq_zero_iff.1 e)
   have hk : (bas (L.map qpZ)).length = L.length := by unfold bas; simp
   have hm := hs.len
   rw [if_neg (by omega), qpK 47 _ (by simpa using c) (by rw [List.length_map]; omega) (fun w hw => by
    obtain ⟨p, hp, rfl⟩ := List.mem_map.1 hw
    exact (qnd (hs.all p hp).1 (hs.all p hp).2).2), qaC, if_neg c]
 | d + 1, i, h => by
  have hm := hs.len; have hmem : L[i] ∈ L := List.getElem_mem _; obtain ⟨K1, n1⟩ := qle _ (hs.row hmem); have hr := rdr L i (by omega); obtain ⟨K, ih⟩ := qjY L hs d (i + 1) (by omega)
  refine Ev.mk' (K + K1) fun k hk => ?_
  have ih := ih k (by omega); have n1 := n1 k (by omega); dsimp only at ih n1; rw [qrZ, ← qp0] at n1
  have hk : (bas ((L.take i).map qpZ)).length ≤ L.length := by unfold bas; rw [List.length_map, List.length_map, List.length_take]; omega
  have hs := qqi qpZ L i (by omega); simp only [qbT.l0]; rw [List.length_map] at ih ⊢; rw [if_pos (by omega), if_pos (by omega), if_pos (by omega), hr, n1, qaC, if_pos (by omega), qa8 (by omega) (by omega), show ((i : Int) + 1) = ((i + 1 : Nat) : Int) by omega, ← hs, ih]
theorem qoh (L : List (Nat × Nat)) (hs : Sms L) : Ev (fun k => qbT.f k (L.map qhB)) (ST L) := qjY L hs L.length 0 (by omega)
end
theorem gcd_l0 : ∀ (n m : Nat), Ev (fun k => qde.l0 k (m : Int) (n : Int)) ((Nat.gcd m n : Nat) : Int) := by
 intro n
 induction n using Nat.strongRecOn with
 | _ n ih =>
  intro m; by_cases h : n = 0
  ·subst h
   refine Ev.mk' 0 fun k _ => ?_
   simp only [qde.l0]; rw [if_neg (by omega)]; simp
  ·obtain ⟨K, h2⟩ := ih (m % n) (Nat.mod_lt _ (by omega)) n
   dsimp only at h2
   refine Ev.mk' K fun k hk => ?_
   simp only [qde.l0]; rw [if_pos (by omega), if_neg (by omega), show Int.tmod (m : Int) (n : Int) = ((m % n : Nat) : Int) from rfl, h2 k hk]; rw [Nat.gcd_comm m n, Nat.gcd_rec n m, Nat.gcd_comm]
theorem qiH : ∀ (k : Nat) (a b : Int), qbS.l0 k a b = qde.l0 k a b
 | 0, _, _ => rfl
 | k + 1, a, b => by simp only [qbS.l0, qde.l0, qiH k]
def qtM : Nat → List qac → Option Nat
 | p, [] => some p
 | p, x :: t => if Nat.lcm p x.f0.toNat > 100000 then none else qtM (Nat.lcm p x.f0.toNat) t
theorem qqK (p e : Nat) : p / Nat.gcd p e * e = Nat.lcm p e := by
 rw [Nat.lcm, Nat.mul_comm p e, Nat.mul_div_assoc _ (Nat.gcd_dvd_left p e), Nat.mul_comm]
theorem qqJ {p e : Nat} (h : 0 < p) (h2 : 0 < e) : 0 < Nat.lcm p e := Nat.lcm_pos h h2
theorem step_val (p : Nat) (e : Int) (hp : 0 < p) (hp2 : p ≤ 100000) (h1 : 2 ≤ e) (h2 : e ≤ 60) :
  wrap64 (wrap64 (Int.tdiv (p : Int) ((Nat.gcd p e.toNat : Nat) : Int)) * e) = ((Nat.lcm p e.toNat : Nat) : Int) := by
 have hd : Int.tdiv (p : Int) ((Nat.gcd p e.toNat : Nat) : Int) = ((p / Nat.gcd p e.toNat : Nat) : Int) := rfl; have hq : p / Nat.gcd p e.toNat ≤ 100000 := Nat.le_trans (Nat.div_le_self _ _) hp2; rw [hd, show wrap64 ((p / Nat.gcd p e.toNat : Nat) : Int) = ((p / Nat.gcd p e.toNat : Nat) : Int) from by generalize p / Nat.gcd p e.toNat = q at hq ⊢; exact qa8 (by omega) (by omega)]
 have hm : ((p / Nat.gcd p e.toNat : Nat) : Int) * e = ((Nat.lcm p e.toNat : Nat) : Int) := by
  rw [← qqK p e.toNat, Int.natCast_mul, Int.toNat_of_nonneg (by omega)]
 rw [hm]
 have hl : Nat.lcm p e.toNat ≤ 100000 * 60 := by
  rw [← qqK]; exact Nat.mul_le_mul hq (by omega)
 exact qa8 (by omega) (by omega)
theorem qm4 (l : List qac) (hm : l.length ≤ 12) (hl : l.all qbF = true) : ∀ (d i p : Nat), i + d = l.length → 0 < p → p ≤ 100000 →
  Ev (fun k => qcW.l0 k p l l.length i) (match qtM p (l.drop i) with | some q => ((q : Int), true) | none => (0, false)) ∧
  Ev (fun k => qbg.l0 k p l l.length i) (match qtM p (l.drop i) with | some q => (q : Int) | none => 0)
 | 0, i, p, h, h1, h2 => by
  rw [List.drop_eq_nil_of_le (by omega)]; constructor
  ·refine Ev.mk' 0 fun k _ => ?_
   simp only [qcW.l0]; rw [if_neg (by omega)]; rfl
  ·refine Ev.mk' 0 fun k _ => ?_
   simp only [qbg.l0]; rw [if_neg (by omega)]; rfl
 | d + 1, i, p, h, h1, h2 => by
  have ho := (qdi _).1 (List.all_eq_true.mp hl _ (qor l i (by omega))); have he : ((qad l i).f0.toNat : Int) = (qad l i).f0 := Int.toNat_of_nonneg (by omega); obtain ⟨Kg, hg⟩ := gcd_l0 (qad l i).f0.toNat p; dsimp only at hg; rw [he] at hg; have hs := step_val p (qad l i).f0 h1 h2 ho.1 ho.2.1
  have hg0 : ((Nat.gcd p (qad l i).f0.toNat : Nat) : Int) ≠ 0 := by
   have := Nat.gcd_pos_of_pos_left (qad l i).f0.toNat h1; omega
  have hpos := qqJ (e := (qad l i).f0.toNat) h1 (by omega); rw [qlo l i (by omega), qtM]; by_cases hc : Nat.lcm p (qad l i).f0.toNat > 100000
  ·rw [if_pos hc]
   constructor
   ·refine Ev.mk' Kg fun k hk => ?_
    simp only [qcW.l0, qde.f, hg k hk, Option.bind_some, hs]; rw [if_pos (by omega), if_pos (by omega), if_pos (by omega), if_neg hg0, if_pos (by omega)]
   ·refine Ev.mk' Kg fun k hk => ?_
    simp only [qbg.l0, qbS.f, qiH, hg k hk, Option.bind_some, hs]; rw [if_pos (by omega), if_pos (by omega), if_pos (by omega), if_neg hg0, if_pos (by omega)]
  ·rw [if_neg hc]
   obtain ⟨⟨K1, i1⟩, ⟨K2, i2⟩⟩ := qm4 l hm hl d (i + 1) (Nat.lcm p (qad l i).f0.toNat) (by omega) hpos (by omega); dsimp only at i1 i2; constructor
   ·refine Ev.mk' (Kg + K1) fun k hk => ?_
    simp only [qcW.l0, qde.f, hg k (by omega), Option.bind_some, hs]; rw [if_pos (by omega), if_pos (by omega), if_pos (by omega), if_neg hg0, if_neg (by omega), show wrap64 ((i : Int) + 1) = ((i + 1 : Nat) : Int) from qa8 (by omega) (by omega), i1 k (by omega)]
   ·refine Ev.mk' (Kg + K2) fun k hk => ?_
    simp only [qbg.l0, qbS.f, qiH, hg k (by omega), Option.bind_some, hs]; rw [if_pos (by omega), if_pos (by omega), if_pos (by omega), if_neg hg0, if_neg (by omega), show wrap64 ((i : Int) + 1) = ((i + 1 : Nat) : Int) from qa8 (by omega) (by omega), i2 k (by omega)]
theorem qqQ : ∀ (l : List qac) (p q : Nat), l.all qbF = true → 0 < p → p ≤ 100000 → qtM p l = some q → 0 < q ∧ q ≤ 100000
 | [], p, q, _, h, h2, he => by simp [qtM] at he; omega
 | x :: t, p, q, ha, h, h2, he => by
  rw [qtM] at he; simp only [List.all_cons, Bool.and_eq_true] at ha; have hx := (qdi x).1 ha.1; split at he
  ·simp at he
  ·exact qqQ t _ q ha.2 (qqJ h (by omega)) (by omega) he
def period (l : List qac) : Option Nat := if qaJ l = true then qtM 1 l else none
theorem qfP {l : List qac} {p : Nat} (h : period l = some p) : qaJ l = true ∧ 0 < p ∧ p ≤ 100000 := by
 unfold period at h; split at h
 ·next hg => exact ⟨hg, qqQ l 1 p (qb5 hg).2 (by omega) (by omega) h⟩
 ·simp at h
theorem qiG (l : List qac) : Ev (fun k => qcf.f k l) (match period l with | some q => ((q : Int), true) | none => (0, false)) := by
 unfold period; by_cases hg : qaJ l = true
 ·rw [if_pos hg]
  obtain ⟨⟨K1, i1⟩, -⟩ := qm4 l (qb5 hg).1 (qb5 hg).2 l.length 0 1 (by omega) (by omega) (by omega); refine ⟨K1, fun k hk => ?_⟩; have i1 : qcW.l0 k 1 l l.length 0 = _ := i1 k hk; simp only [qcf.f, qdv, hg, Option.bind_some, if_true, qcW.f, i1, List.drop_zero]
 ·rw [if_neg hg]
  refine ⟨0, fun k _ => ?_⟩; simp only [qcf.f, qdv, Option.bind_some]; rw [if_neg hg]
theorem qiI (l : List qac) (hg : qaJ l = true) : Ev (fun k => qbg.f k l) (match period l with | some q => (q : Int) | none => 0) := by
 unfold period; rw [if_pos hg]; obtain ⟨-, ⟨K1, i1⟩⟩ := qm4 l (qb5 hg).1 (qb5 hg).2 l.length 0 1 (by omega) (by omega) (by omega); exact ⟨K1, fun k hk => i1 k hk⟩
def patB (l : List qac) (i : Int) : Nat → ByteArray → ByteArray
 | 0, acc => acc
 | m + 1, acc => patB l (i + 1) m (acc ++ (if left l i = true then (⟨#[111]⟩ : ByteArray) else ⟨#[120]⟩))
def pat (l : List qac) (n : Int) : ByteArray := patB l 1 n.toNat (⟨#[]⟩ : ByteArray)
theorem sz_o (a : ByteArray) : (a ++ (⟨#[111]⟩ : ByteArray)).size = a.size + 1 := by rw [ByteArray.size_append]; rfl
theorem sz_x (a : ByteArray) : (a ++ (⟨#[120]⟩ : ByteArray)).size = a.size + 1 := by rw [ByteArray.size_append]; rfl
theorem qpU (l : List qac) (hm : l.length ≤ 12) (hl : l.all qbF = true) (hi : Int) (h2 : hi ≤ 48) : ∀ (m : Nat) (i : Int) (acc : ByteArray), i + m = hi + 1 → 1 ≤ i → acc.size + m ≤ 1000 → Ev (fun k => qa0.l0 k l hi acc i) (patB l i m acc, true)
 | 0, i, acc, h, h0, h1 => Ev.mk' 0 fun k _ => by
  simp only [qa0.l0]; rw [if_neg (by omega)]; rfl
 | m + 1, i, acc, h, h0, h1 => by
  obtain ⟨K1, h3⟩ := qhX i l (by omega) hl; dsimp only at h3; simp only [patB]; by_cases hc : left l i = true
  ·obtain ⟨K, ih⟩ := qpU l hm hl hi h2 m (i + 1) (acc ++ (⟨#[111]⟩ : ByteArray)) (by omega) (by omega) (by rw [sz_o]; omega)
   dsimp only at ih
   refine Ev.mk' (K + K1) fun k hk => ?_
   simp only [qa0.l0, h3 k (by omega), qaC]; rw [if_pos (by omega), if_pos hc, if_pos (by omega), qa8 (by omega) (by omega), ih k (by omega), if_pos hc]
  ·obtain ⟨K, ih⟩ := qpU l hm hl hi h2 m (i + 1) (acc ++ (⟨#[120]⟩ : ByteArray)) (by omega) (by omega) (by rw [sz_x]; omega)
   dsimp only at ih
   refine Ev.mk' (K + K1) fun k hk => ?_
   simp only [qa0.l0, h3 k (by omega), qaC]; rw [if_pos (by omega), if_neg hc, if_pos (by omega), qa8 (by omega) (by omega), ih k (by omega), if_neg hc]
theorem qpT (l : List qac) (hl : l.all qbF = true) (hi : Int) (h2 : hi ≤ 48) : ∀ (m : Nat) (i : Int) (acc : ByteArray), i + m = hi + 1 → 1 ≤ i → acc.size + m ≤ 1000 → Ev (fun k => qbU.l0 k l hi acc i) (patB l i m acc)
 | 0, i, acc, h, h0, h1 => Ev.mk' 0 fun k _ => by
  simp only [qbU.l0]; rw [if_neg (by omega)]; rfl
 | m + 1, i, acc, h, h0, h1 => by
  simp only [patB]; by_cases hc : left l i = true
  ·obtain ⟨K, ih⟩ := qpT l hl hi h2 m (i + 1) (acc ++ (⟨#[111]⟩ : ByteArray)) (by omega) (by omega) (by rw [sz_o]; omega)
   dsimp only at ih
   refine Ev.mk' K fun k hk => ?_
   simp only [qbU.l0, qgr i l hl, qaC]; rw [if_pos (by omega), if_pos hc, if_pos (by omega), qa8 (by omega) (by omega), ih k (by omega), if_pos hc]
  ·obtain ⟨K, ih⟩ := qpT l hl hi h2 m (i + 1) (acc ++ (⟨#[120]⟩ : ByteArray)) (by omega) (by omega) (by rw [sz_x]; omega)
   dsimp only at ih
   refine Ev.mk' K fun k hk => ?_
   simp only [qbU.l0, qgr i l hl, qaC]; rw [if_pos (by omega), if_neg hc, if_pos (by omega), qa8 (by omega) (by omega), ih k (by omega), if_neg hc]
theorem qom (l : List qac) (hl : l.all qbF = true) (n : Int) (h0 : 1 ≤ n) (h1 : n ≤ 48) : Ev (fun k => qbU.f k l n) (pat l n) := by
 obtain ⟨K, h⟩ := qpT l hl n h1 n.toNat 1 (⟨#[]⟩ : ByteArray) (by omega) (by omega) (by show (0 : Nat) + _ ≤ _; omega); exact ⟨K, fun k hk => h k hk⟩
theorem qlO (l : List qac) (hg : qaJ l = true) (n : Int) (h0 : 1 ≤ n) (h1 : n ≤ 48) : Ev (fun k => qa0.f k l n) (pat l n, true) := by
 obtain ⟨K1, h2⟩ := qfd l; dsimp only at h2; obtain ⟨K2, h3⟩ := qpU l (qb5 hg).1 (qb5 hg).2 n h1 n.toNat 1 (⟨#[]⟩ : ByteArray) (by omega) (by omega) (by show (0 : Nat) + _ ≤ _; omega); have h3 : ∀ k, K2 ≤ k → qa0.l0 k l n (⟨#[]⟩ : ByteArray) 1 = _ := h3
 have e : (decide (1 ≤ n) && decide (n ≤ 48)) = true := by simp [h0, h1]
 refine Ev.mk' (K1 + K2) fun k hk => ?_
 simp (disch := omega) only [qa0.f, h2, qaC, hg, if_true, qd6, e]
 simp (disch := omega) only [qa0.j0, h3, Bool.not_true, Bool.false_eq_true, if_false]
 rfl
def qqP (l : List qac) (n : Int) : ByteArray × Bool := if qaJ l = true ∧ 1 ≤ n ∧ n ≤ 48 then (pat l n, true) else ((⟨#[]⟩ : ByteArray), false)
theorem qlF (l : List qac) (n : Int) : Ev (fun k => qa0.f k l n) (qqP l n) ∧ Ev (fun k => qdA.f k l n) (qqP l n) := by
 unfold qqP; obtain ⟨K1, h1⟩ := qfd l; dsimp only at h1; by_cases hc : qaJ l = true ∧ 1 ≤ n ∧ n ≤ 48
 ·obtain ⟨K2, h2⟩ := qom l (qb5 hc.1).2 n hc.2.1 hc.2.2
  dsimp only at h2; rw [if_pos hc]; refine ⟨qlO l hc.1 n hc.2.1 hc.2.2, ⟨K2, fun k hk => ?_⟩⟩; simp only [qdA.f, qdv, qaC, hc.1, if_true, h2 k hk]; rw [if_neg (by omega), if_neg (by omega)]
 ·rw [if_neg hc]
  constructor
  ·refine Ev.mk' K1 fun k hk => ?_
   simp (disch := omega) only [qa0.f, h1, qaC, qd6]
   by_cases hg : qaJ l = true
   ·have e : (decide (1 ≤ n) && decide (n ≤ 48)) = false := by
     rw [Bool.and_eq_false_iff]; simp only [decide_eq_false_iff_not]; by_cases h : 1 ≤ n
     ·right; intro h'; exact hc ⟨hg, h, h'⟩
     ·left; exact h
    rw [if_pos hg, e]
    simp [qa0.j0]
   ·rw [if_neg hg]; simp [qa0.j0]
  ·refine ⟨0, fun k _ => ?_⟩
   simp only [qdA.f, qdv, qaC]; by_cases hg : qaJ l = true
   ·rw [if_pos hg]
    by_cases h : n < 1
    ·rw [if_pos h]
    ·rw [if_neg h, if_pos (by apply Decidable.byContradiction; intro h'; exact hc ⟨hg, by omega, by omega⟩)]
   ·rw [if_neg hg]
theorem qmv (a b : Int) : qcB.f a b = qfA.f a b := rfl
theorem qqv {f : qac → qac} (hf : ∀ r, qbF r = true → qbF (f r) = true) {l : List qac} (h : qaJ l = true) : qaJ (l.map f) = true := by
 obtain ⟨h1, h2⟩ := qb5 h; unfold qaJ; rw [Bool.and_eq_true, decide_eq_true_eq, List.length_map, List.all_map]; exact ⟨h1, List.all_eq_true.2 fun r hr => hf r (List.all_eq_true.1 h2 r hr)⟩
def turned (z : qac → Int) (r : qac) : qac := ⟨r.f0, z r % r.f0⟩
theorem qoE (z : qac → Int) {r : qac} (h : qbF r = true) : qbF (turned z r) = true := by
 have h1 := (qdi r).1 h; refine (qdi _).2 ⟨h1.1, h1.2.1, Int.emod_nonneg _ (by omega), Int.emod_lt_of_pos _ (by omega)⟩
theorem qqN (n : Int) {r : qac} (h : qbF r = true) : qfA.f n r.f0 = some (n % r.f0) := qtH n r.f0 ((qdi r).1 h).1 ((qdi r).1 h).2.1
def qpQ (n : Int) : qac → qac := turned fun r => r.f1 + n
theorem qtI (n : Int) (hn : -600 ≤ n ∧ n ≤ 600) (l : List qac) (hm : l.length ≤ 12) (hl : l.all qbF = true) : ∀ (d i : Nat), i + d = l.length → Ev (fun k => qaF.l0 k n ((l.take i).map (qpQ n)) l (l.length : Int) (i : Int)) (l.map (qpQ n), true)
 | 0, i, h => Ev.mk' 0 fun k _ => by
  simp only [qaF.l0]; rw [if_neg (by omega), List.take_of_length_le (by omega)]
 | d + 1, i, h => by
  have hr := qrx hl i (by omega); have ho := (qdi _).1 hr; obtain ⟨K, ih⟩ := qtI n hn l hm hl d (i + 1) (by omega)
  refine Ev.mk' K fun k hk => ?_
  have ih := ih k hk; dsimp only at ih; rw [qly l i (by omega), List.map_append] at ih; simp only [qaF.l0]; rw [if_pos (by omega), if_pos (by omega), if_pos (by omega), qa8 (n := (qad l (i : Int)).f1 + n) (by omega) (by omega), qqN _ hr, qaC, if_pos (by rw [List.length_map, List.length_take]; omega), qa8 (by omega) (by omega), show ((i : Int) + 1) = ((i + 1 : Nat) : Int) by omega]; exact ih
theorem qok : ∀ (k : Nat) (n : Int) (x l : List qac) (a i : Int), qaO.l0 k n x l a i = qaF.l0 k n x l a i
 | 0, _, _, _, _, _ => rfl
 | k + 1, n, x, l, a, i => by simp only [qaO.l0, qaF.l0, qmv, qok k]
def vMove (l : List qac) (n : Int) : List qac × Bool := if qaJ l = true ∧ -600 ≤ n ∧ n ≤ 600 then (l.map (qpQ n), true) else ([], false)
theorem qr2 (l : List qac) (n : Int) : Ev (fun k => qaF.f k l n) (vMove l n) ∧ Ev (fun k => qaO.f k l n) (vMove l n) := by
 unfold vMove; obtain ⟨K1, h1⟩ := qfd l
 have hN : qez.f n = some (decide (-600 ≤ n) && decide (n ≤ 600)) := by
  unfold qez.f; by_cases c : -600 ≤ n
  ·rw [if_pos c, decide_eq_true c, Bool.true_and]
  ·rw [if_neg c, decide_eq_false c, Bool.false_and]
 have hS : qeF.f n = some (decide (-600 ≤ n) && decide (n ≤ 600)) := by
  unfold qeF.f; rw [qd6, qaC]
 by_cases hg : qaJ l = true
 ·by_cases hn : -600 ≤ n ∧ n ≤ 600
  ·rw [if_pos ⟨hg, hn⟩]
   obtain ⟨K2, h2⟩ := qtI n hn l (qb5 hg).1 (qb5 hg).2 l.length 0 (by omega); have h2 : ∀ k, K2 ≤ k → qaF.l0 k n [] l l.length 0 = _ := h2
   have e : (decide (-600 ≤ n) && decide (n ≤ 600)) = true := by rw [decide_eq_true hn.1, decide_eq_true hn.2]; rfl
   refine ⟨⟨K2 + 1, fun k hk => ?_⟩, ⟨K1 + K2 + 1, fun k hk => ?_⟩⟩ <;> obtain ⟨j, rfl⟩ : ∃ j, k = j + 1 := ⟨k - 1, by omega⟩
   ·show qaF.f (j + 1) l n = _
    unfold qaF.f; rw [qdv, qaC, hg, if_pos rfl, hN, qaC, e]; simp only [qaF.j0, Bool.not_true, Bool.false_eq_true, if_false]; exact h2 j (by omega)
   ·have h1 := h1 (j + 1) (by omega)
    dsimp only at h1
    show qaO.f (j + 1) l n = _
    unfold qaO.f; rw [h1, qaC, hg, if_pos rfl, hS, qaC, e]; simp only [qaO.j0, Bool.not_true, Bool.false_eq_true, if_false, qok]; exact h2 j (by omega)
  ·rw [if_neg (fun h => hn h.2)]
   have e : (decide (-600 ≤ n) && decide (n ≤ 600)) = false := by rw [← Bool.not_eq_true, Bool.and_eq_true, decide_eq_true_eq, decide_eq_true_eq]; exact hn
   refine ⟨Ev.mk' 0 fun k hk => ?_, Ev.mk' K1 fun k hk => ?_⟩
   ·unfold qaF.f
    rw [qdv, qaC, hg, if_pos rfl, hN, qaC, e]; simp only [qaF.j0, Bool.not_false, if_true]
   ·have h1 := h1 (k + 1) (by omega)
    dsimp only at h1; unfold qaO.f; rw [h1, qaC, hg, if_pos rfl, hS, qaC, e]; simp only [qaO.j0, Bool.not_false, if_true]
 ·rw [if_neg (fun h => hg h.1)]
  refine ⟨Ev.mk' 0 fun k hk => ?_, Ev.mk' K1 fun k hk => ?_⟩
  ·unfold qaF.f
   rw [qdv, qaC, if_neg hg]; simp only [qaF.j0, if_true]
  ·have h1 := h1 (k + 1) (by omega)
   dsimp only at h1; unfold qaO.f; rw [h1, qaC, if_neg hg]; simp only [qaO.j0, if_true]
def qks : qac → qac := turned fun r => -r.f1
theorem qoj (l : List qac) (hm : l.length ≤ 12) (hl : l.all qbF = true) : ∀ (d i : Nat), i + d = l.length → Ev (fun k => qaS.l0 k ((l.take i).map qks) l (l.length : Int) (i : Int)) (l.map qks, true)
 | 0, i, h => Ev.mk' 0 fun k _ => by
  simp only [qaS.l0]; rw [if_neg (by omega), List.take_of_length_le (by omega)]
 | d + 1, i, h => by
  have hr := qrx hl i (by omega); have ho := (qdi _).1 hr; obtain ⟨K, ih⟩ := qoj l hm hl d (i + 1) (by omega)
  refine Ev.mk' K fun k hk => ?_
  have ih := ih k hk; dsimp only at ih; rw [qly l i (by omega), List.map_append] at ih; simp only [qaS.l0]; rw [if_pos (by omega), if_pos (by omega), if_pos (by omega), qa8 (n := -(qad l (i : Int)).f1) (by omega) (by omega), qqN _ hr, qaC, if_pos (by rw [List.length_map, List.length_take]; omega), qa8 (by omega) (by omega), show ((i : Int) + 1) = ((i + 1 : Nat) : Int) by omega]; exact ih
theorem qlj : ∀ (k : Nat) (x l : List qac) (a i : Int), qa3.l0 k x l a i = qaS.l0 k x l a i
 | 0, _, _, _, _ => rfl
 | k + 1, x, l, a, i => by simp only [qa3.l0, qaS.l0, qmv, qlj k]
theorem qoW (l : List qac) (hg : qaJ l = true) : Ev (fun k => qaS.f k l) (l.map qks, true) ∧ Ev (fun k => qa3.f k l) (l.map qks, true) := by
 obtain ⟨K1, h1⟩ := qfd l; obtain ⟨K2, h2⟩ := qoj l (qb5 hg).1 (qb5 hg).2 l.length 0 (by omega); have h2 : ∀ k, K2 ≤ k → qaS.l0 k [] l l.length 0 = _ := h2; refine ⟨⟨K2, fun k hk => ?_⟩, ⟨K1 + K2, fun k hk => ?_⟩⟩
 ·show qaS.f k l = _
  unfold qaS.f; rw [qdv, qaC, hg, if_pos rfl]; exact h2 k hk
 ·have h1 := h1 k (by omega)
  dsimp only at h1
  show qa3.f k l = _
  unfold qa3.f; rw [h1, qaC, hg, if_pos rfl, qlj]; exact h2 k (by omega)
theorem qjq {l : List qac} (h : qaJ l = true) (i : Nat) : qaJ (l.eraseIdx i) = true := by
 obtain ⟨h1, h2⟩ := qb5 h; unfold qaJ; rw [Bool.and_eq_true, decide_eq_true_eq]; exact ⟨Nat.le_trans (List.length_eraseIdx_le l i) h1, List.all_eq_true.2 fun r hr => List.all_eq_true.1 h2 r (List.mem_of_mem_eraseIdx hr)⟩
theorem qjF {l : List qac} (hm : l.length ≤ 12) (i : Nat) (h : i < l.length) : qbG.f l (i : Int) = some (l.eraseIdx i) := by
 unfold qbG.f
 have hw : wrap64 ((i : Int) + 1) = ((i + 1 : Nat) : Int) := by rw [qa8 (by omega) (by omega)]; omega
 have h1 : ((i : Int)).toNat = i := by omega
 have h2 : (((i + 1 : Nat) : Int)).toNat = i + 1 := by omega
 rw [qaC, if_pos (by omega), if_pos (by omega), qaC, if_pos (by simp; omega), qaC, hw, if_pos (by omega), if_pos (by omega), qaC, h1, h2, List.nil_append, if_pos (by simp; omega), List.eraseIdx_eq_take_drop_succ]
theorem qkO (l : List qac) (i : Nat) (h : i < l.length) (hm : l.length ≤ 12) : qcC.f l (i : Int) (wrap64 ((i : Int) + 1)) = some (l.eraseIdx i) := by
 unfold qcC.f; rw [qa8 (by omega) (by omega), if_pos ⟨by omega, by omega, rfl⟩]; rfl
theorem qlk (l t : List qac) (i : Nat) (hi : i < l.length) (hl : l.all qbF = true) (hm : l.length ≤ 12) (ht : t.all qbF = true) (htm : t.length ≤ 12) (p : Int) (hp : p ≤ 100000) : ∀ (d : Nat) (n : Int), 0 ≤ n → p - n ≤ d → ∃ b, Ev (fun k => qbo.l0 k l (i : Int) p t n) b ∧ Ev (fun k => qbw.l0 k l (i : Int) p t n) b
 | 0, n, h0, h => ⟨true, Ev.mk' 0 fun k _ => by simp only [qbo.l0]; rw [if_neg (by omega)], Ev.mk' 0 fun k _ => by simp only [qbw.l0]; rw [if_neg (by omega)]⟩
 | d + 1, n, h0, h => by
  by_cases c : n < p
  ·obtain ⟨K1, h1⟩ := qhX n t (by omega) ht
   cases hb : left t n with
   | true =>
    rw [hb] at h1; refine ⟨false, Ev.mk' 0 fun k _ => ?_, Ev.mk' K1 fun k hk => ?_⟩
    ·simp only [qbo.l0]
     rw [if_pos c, qgr n t ht, hb, qaC, if_pos rfl]
    ·have h1 := h1 k (by omega)
     dsimp only at h1; simp only [qbw.l0]; rw [if_pos c, h1, qaC, if_pos rfl]
   | false =>
    rw [hb] at h1; have ho := (qdi _).1 (qrx hl i hi); obtain ⟨b, ⟨K2, h2⟩, ⟨K3, h3⟩⟩ := qlk l t i hi hl hm ht htm p hp d (n + (qad l (i : Int)).f0) (by omega) (by omega); refine ⟨b, Ev.mk' K2 fun k hk => ?_, Ev.mk' (K1 + K3) fun k hk => ?_⟩
    ·simp only [qbo.l0]
     rw [if_pos c, qgr n t ht, hb, qaC, if_neg (by decide), if_pos (by omega), if_pos (by omega), qa8 (by omega) (by omega)]; exact h2 k hk
    ·have h1 := h1 k (by omega)
     dsimp only at h1; simp only [qbw.l0]; rw [if_pos c, h1, qaC, if_neg (by decide), if_pos (by omega), if_pos (by omega), qa8 (by omega) (by omega)]; exact h3 k (by omega)
  ·exact ⟨true, Ev.mk' 0 fun k _ => by simp only [qbo.l0]; rw [if_neg c], Ev.mk' 0 fun k _ => by simp only [qbw.l0]; rw [if_neg c]⟩
theorem qpS {l : List qac} (hg : qaJ l = true) (i : Nat) (hi : i < l.length) (p : Nat) (hp : p ≤ 100000) : ∃ b, Ev (fun k => qbo.f k l (i : Int) (p : Int)) b ∧ Ev (fun k => qbw.f k l (i : Int) (p : Int)) b := by
 obtain ⟨hm, hl⟩ := qb5 hg; obtain ⟨hm2, hl2⟩ := qb5 (qjq hg i); have ho := (qdi _).1 (qrx hl i hi); obtain ⟨b, ⟨K2, h2⟩, ⟨K3, h3⟩⟩ := qlk l (l.eraseIdx i) i hi hl hm hl2 hm2 (p : Int) (by omega) p (qad l (i : Int)).f1 (by omega) (by omega); refine ⟨b, ⟨K2, fun k hk => ?_⟩, ⟨K3, fun k hk => ?_⟩⟩
 ·show qbo.f k l i p = _
  unfold qbo.f; rw [qaC, if_pos (by simp; omega), List.nil_append, qkO l i hi hm, qaC, if_pos (by omega), if_pos (by omega)]; exact h2 k hk
 ·show qbw.f k l i p = _
  unfold qbw.f; rw [qjF hm i hi, qaC, if_pos (by omega), if_pos (by omega)]; exact h3 k hk
theorem qph (p : Nat) (hp : p ≤ 100000) : ∀ (d : Nat) (l : List qac), qaJ l = true → d ≤ l.length → ∃ r, qaJ r = true ∧ Ev (fun k => qa7.l0 k (p : Int) l ((d : Int) - 1)) (r, true) ∧ Ev (fun k => qaM.l0 k (p : Int) l ((d : Int) - 1)) (r, true)
 | 0, l, hg, h => ⟨l, hg, Ev.mk' 0 fun k _ => by simp only [qa7.l0]; rw [if_neg (by omega)], Ev.mk' 0 fun k _ => by simp only [qaM.l0]; rw [if_neg (by omega)]⟩
 | d + 1, l, hg, h => by
  have hm := (qb5 hg).1
  have e1 : ((d + 1 : Nat) : Int) - 1 = (d : Int) := by omega
  have e2 : wrap64 ((d : Int) - 1) = (d : Int) - 1 := qa8 (by omega) (by omega); rw [e1]; obtain ⟨b, ⟨K1, h1⟩, ⟨K2, h2⟩⟩ := qpS hg d (by omega) p hp
  cases b with
  | true =>
   obtain ⟨r, hr, ⟨K3, h3⟩, ⟨K4, h4⟩⟩ := qph p hp d (l.eraseIdx d) (qjq hg d) (by rw [List.length_eraseIdx_of_lt (by omega)]; omega); refine ⟨r, hr, Ev.mk' (K1 + K3) fun k hk => ?_, Ev.mk' (K2 + K4) fun k hk => ?_⟩
   ·have h1 := h1 k (by omega)
    dsimp only at h1; simp only [qa7.l0]; rw [if_pos (by omega), h1, qaC, if_pos rfl, qkO l d (by omega) hm, qaC, e2]; exact h3 k (by omega)
   ·have h2 := h2 k (by omega)
    dsimp only at h2; simp only [qaM.l0]; rw [if_pos (by omega), h2, qaC, if_pos rfl, qjF hm d (by omega), qaC, e2]; exact h4 k (by omega)
  | false =>
   obtain ⟨r, hr, ⟨K3, h3⟩, ⟨K4, h4⟩⟩ := qph p hp d l hg (by omega); refine ⟨r, hr, Ev.mk' (K1 + K3) fun k hk => ?_, Ev.mk' (K2 + K4) fun k hk => ?_⟩
   ·have h1 := h1 k (by omega)
    dsimp only at h1; simp only [qa7.l0]; rw [if_pos (by omega), h1, qaC, if_neg (by decide), e2]; exact h3 k (by omega)
   ·have h2 := h2 k (by omega)
    dsimp only at h2; simp only [qaM.l0]; rw [if_pos (by omega), h2, qaC, if_neg (by decide), e2]; exact h4 k (by omega)
theorem qrW (l : List qac) (hg : qaJ l = true) : ∃ v : List qac × Bool, (v.2 = true → qaJ v.1 = true) ∧ Ev (fun k => qa7.f k l) v ∧ Ev (fun k => qaM.f k l) v := by
 obtain ⟨K1, h1⟩ := qiG l; obtain ⟨K2, h2⟩ := qiI l hg; obtain ⟨K3, h3⟩ := qfd l; have hm := (qb5 hg).1
 cases hp : period l with
 | none =>
  rw [hp] at h1 h2; refine ⟨([], false), fun h => absurd h (by decide), ⟨K1, fun k hk => ?_⟩, Ev.mk' (K2 + K3) fun k hk => ?_⟩
  ·have h1 := h1 k (by omega)
   dsimp only at h1
   show qa7.f k l = _
   unfold qa7.f; rw [h1, qaC, if_neg (by decide)]
  ·have h2 := h2 (k + 1) (by omega)
   have h3 := h3 (k + 1) (by omega); dsimp only at h2 h3; unfold qaM.f; rw [h3, qaC, hg, if_pos rfl, h2, qaC]; simp only [qaM.j0]; rfl
 | some q =>
  rw [hp] at h1 h2; obtain ⟨-, q0, q1⟩ := qfP hp; obtain ⟨r, hr, ⟨K4, h4⟩, ⟨K5, h5⟩⟩ := qph q q1 l.length l hg (Nat.le_refl _); refine ⟨(r, true), fun _ => hr, ⟨K1 + K4, fun k hk => ?_⟩, Ev.mk' (K2 + K3 + K5) fun k hk => ?_⟩
  ·have h1 := h1 k (by omega)
   have h4 := h4 k (by omega); dsimp only at h1 h4
   show qa7.f k l = _
   unfold qa7.f; rw [h1, qaC, if_pos rfl, qaC, if_pos (by simp; omega), qaC, List.nil_append, qa8 (by omega) (by omega)]; exact h4
  ·have h2a := h2 (k + 1) (by omega)
   have h2b := h2 k (by omega); have h3 := h3 (k + 1) (by omega); have h5 := h5 k (by omega); dsimp only at h2a h2b h3 h5; unfold qaM.f; rw [h3, qaC, hg, if_pos rfl, h2a, qaC]; simp only [qaM.j0]; rw [if_neg (by simp; omega), h2b, qaC, qaC, if_pos (by simp; omega), qaC, List.nil_append, qa8 (by omega) (by omega)]; exact h5
theorem qmh : ∀ (k : Nat) (x d : Int), qcs.l0 k x d = qbd.l0 k x d
 | 0, _, _ => rfl
 | k + 1, x, d => by simp only [qcs.l0, qbd.l0, qmh k]
theorem qld (k : Nat) (x : Int) : qcs.f k x = qbd.f k x := qmh k x 2
theorem qrB (k : Nat) (x : Int) : qfe.f k x = qdj.f k x := by unfold qfe.f qdj.f; rw [qld]
theorem qjJ : ∀ (k : Nat) (h : Int) (x : List Int) (i : Int), qb3.l0 k h x i = qaR.l0 k h x i
 | 0, _, _, _ => rfl
 | k + 1, h, x, i => by simp only [qb3.l0, qaR.l0, qrB, qjJ k]
theorem qjL : ∀ k : Nat, (∀ x l, qa6.l0 k x l = qaX.l0 k x l) ∧ ∀ x l p e, qa6.l1 k x l p e = qaX.l1 k x l p e
 | 0 => ⟨fun _ _ => rfl, fun _ _ _ _ => rfl⟩
 | k + 1 => by
  have ih := qjL k; exact ⟨fun x l => by simp only [qa6.l0, qaX.l0, qld, ih.2], fun x l p e => by simp only [qa6.l1, qaX.l1, ih.1, ih.2]⟩
theorem qiX (k : Nat) (x : Int) : qa6.f k x = qaX.f k x := (qjL k).1 x []
theorem qj4 : ∀ (k : Nat) (x : Int) (l : List (List Int)) (n i : Int), qci.l0 k x l n i = qcg.l0 k x l n i
 | 0, _, _, _, _ => rfl
 | k + 1, x, l, n, i => by simp only [qci.l0, qcg.l0, qj4 k]
theorem qrp {x : Nat} (hx : x ≤ 1000000) : ∃ b, Ev (fun k => qdj.f k (x : Int)) b := by
 by_cases c : 2 ≤ x
 ·obtain ⟨p, -, K, h⟩ := qif c hx
  refine ⟨((p : Int) == (x : Int)), K, fun k hk => ?_⟩; have h := h k hk; dsimp only at h
  show qdj.f k x = _
  unfold qdj.f; rw [if_pos (by omega), h, qaC]
 ·refine ⟨false, 0, fun k hk => ?_⟩
  show qdj.f k x = _
  unfold qdj.f; rw [if_neg (by omega)]
theorem qjl {n : Nat} (hn : n ≤ 100000) : ∀ (d i : Nat) (x : List Int), i + d = n + 1 → x.length ≤ i → ∃ L : List Int, L.length ≤ n + 1 ∧ Ev (fun k => qaR.l0 k (n : Int) x (i : Int)) L
 | 0, i, x, h, hx => ⟨x, by omega, Ev.mk' 0 fun k _ => by simp only [qaR.l0]; rw [if_neg (by omega)]⟩
 | d + 1, i, x, h, hx => by
  obtain ⟨b, K1, h1⟩ := qrp (x := i) (by omega)
  have hw : wrap64 ((i : Int) + 1) = ((i + 1 : Nat) : Int) := by rw [qa8 (by omega) (by omega)]; omega
  cases b with
  | true =>
   obtain ⟨L, hL, K2, h2⟩ := qjl hn d (i + 1) (x ++ [(i : Int)]) (by omega) (by simp; omega); refine ⟨L, hL, Ev.mk' (K1 + K2) fun k hk => ?_⟩; have h1 := h1 k (by omega); dsimp only at h1; simp only [qaR.l0]; rw [if_pos (by omega), h1, qaC, if_pos rfl, if_pos (by omega), hw]; exact h2 k (by omega)
  | false =>
   obtain ⟨L, hL, K2, h2⟩ := qjl hn d (i + 1) x (by omega) (by omega); refine ⟨L, hL, Ev.mk' (K1 + K2) fun k hk => ?_⟩; have h1 := h1 k (by omega); dsimp only at h1; simp only [qaR.l0]; rw [if_pos (by omega), h1, qaC, if_neg (by decide), hw]; exact h2 k (by omega)
def Num2 (f g : Nat → Option (Int × Bool)) : Prop := ∃ (v : Nat) (ok : Bool), v ≤ 4611686018427387904 ∧ Ev f ((v : Int), ok) ∧ Ev g ((v : Int), ok)
theorem qq3 (n : Nat) (hn : n ≤ 999999) : Num2 (fun k => qc1.f k (n : Int)) (fun k => qc4.f k (n : Int)) := by
 by_cases c : n ≤ 10000
 ·obtain ⟨L, hL, K, h⟩ := qjl (n := n) (by omega) (n + 1) 0 [] (by omega) (by simp)
  have h : ∀ k, K ≤ k → qaR.l0 k (n : Int) [] 0 = some L := h; refine ⟨L.length, true, by omega, ⟨K, fun k hk => ?_⟩, ⟨K, fun k hk => ?_⟩⟩
  ·show qc1.f k n = _
   unfold qc1.f qaR.f; rw [if_neg (by omega), if_neg (by omega), h k hk, qaC]
  ·show qc4.f k n = _
   unfold qc4.f qdY.f qb3.f; rw [qd6, qaC, qaC, decide_eq_true (show (0 : Int) ≤ n by omega), decide_eq_true (show (n : Int) ≤ 10000 by omega), qjJ, h k hk]; rfl
 ·refine ⟨0, false, by omega, ⟨0, fun k hk => ?_⟩, ⟨0, fun k hk => ?_⟩⟩
  ·show qc1.f k n = _
   unfold qc1.f; rw [if_neg (by omega), if_pos (by omega)]; rfl
  ·show qc4.f k n = _
   unfold qc4.f qdY.f; rw [qd6, qaC, qaC, decide_eq_true (show (0 : Int) ≤ n by omega), decide_eq_false (show ¬ (n : Int) ≤ 10000 by omega)]; rfl
theorem Fac.sm {l : List (Nat × Nat)} {n : Nat} (h : Fac l n) : ∀ p ∈ l, 2 ≤ p.1 ∧ p.1 ≤ n ∧ p.2 ≤ n := by
 induction h with
 | one => simp
 | @snoc l m p e hF hp he hc ih =>
  have hm := hF.pos; have h1 : p ^ 1 ≤ p ^ e := Nat.pow_le_pow_right (by have := hp.1; omega) he; have h2 := qjC (e := e) hp.1; have h3 : 1 * p ^ e ≤ m * p ^ e := Nat.mul_le_mul_right _ hm; have h4 : m * 1 ≤ m * p ^ e := Nat.mul_le_mul_left _ (by omega); intro q hq
  rcases List.mem_append.1 hq with hq | hq
  ·have := ih q hq; omega
  ·obtain rfl := List.mem_singleton.1 hq
   have := hp.1; simp only [Nat.pow_one] at h1; omega
theorem Fac.sms {l : List (Nat × Nat)} {n : Nat} (h : Fac l n) (hn : n ≤ 1000000) : Sms l := ⟨by have := h.len; omega, fun p hp => by have := h.sm p hp; omega⟩
theorem qnt (n : Nat) (hn : n ≤ 999999) : ∃ (L : List (Nat × Nat)) (ok : Bool), Sms L ∧ Ev (fun k => qcL.f k (n : Int)) (L.map qhB, ok) ∧ Ev (fun k => qcN.f k (n : Int)) (L.map qhB, ok) := by
 by_cases c : 1 ≤ n
 ·obtain ⟨L, hF, K, h⟩ := qjn c (by omega)
  refine ⟨L, true, hF.sms (by omega), ⟨K, fun k hk => ?_⟩, ⟨K, fun k hk => ?_⟩⟩ <;> have h := h k hk <;> dsimp only at h
  ·show qcL.f k n = _
   unfold qcL.f qdH.f; rw [if_pos (by omega), qaC, if_pos (decide_eq_true (by omega)), h, qaC]
  ·show qcN.f k n = _
   unfold qcN.f qdI.f; rw [qd6, qaC, qaC, decide_eq_true (show (1 : Int) ≤ n by omega), decide_eq_true (show (n : Int) ≤ 1000000000 by omega), qiX, h]; rfl
 ·refine ⟨[], false, ⟨by simp, by simp⟩, ⟨0, fun k hk => ?_⟩, ⟨0, fun k hk => ?_⟩⟩
  ·show qcL.f k n = _
   unfold qcL.f qdH.f; rw [if_neg (by omega), qaC]; rfl
  ·show qcN.f k n = _
   unfold qcN.f qdI.f; rw [qd6, qaC, qaC, decide_eq_false (show ¬ (1 : Int) ≤ n by omega)]; rfl
theorem qmA (L : List (Nat × Nat)) (hs : ∀ p ∈ L, 2 ≤ p.1 ∧ p.1 ≤ 1000000) (hl : L.length ≤ 1000000) : ∀ (d i x : Nat), i + d = L.length → x ≤ 1000000 → ∃ y : Nat, y ≤ 1000000 ∧ Ev (fun k => qcg.l0 k (x : Int) (L.map qhB) ((L.map qhB).length : Int) (i : Int)) (y : Int)
 | 0, i, x, h, hx => ⟨x, hx, Ev.mk' 0 fun k _ => by simp only [qcg.l0]; rw [List.length_map, if_neg (by omega)]⟩
 | d + 1, i, x, h, hx => by
  have hp := hs _ (List.getElem_mem (show i < L.length by omega)); have hr := rdr L i (by omega); have hr0 : rd (qhB L[i]) 0 = ((L[i].1 : Nat) : Int) := rfl; have hlen : (qhB L[i]).length = 2 := rfl
  generalize L[i].1 = p at hp hr0
  have hm : x / p * (p - 1) ≤ x := Nat.le_trans (Nat.mul_le_mul_left _ (by omega)) (Nat.div_mul_le_self x p); have hq : x / p ≤ x := Nat.div_le_self _ _; obtain ⟨y, hy, K, ih⟩ := qmA L hs hl d (i + 1) (x / p * (p - 1)) (by omega) (by omega); refine ⟨y, hy, Ev.mk' K fun k hk => ?_⟩; have ih := ih k hk; dsimp only at ih; simp only [qcg.l0]; rw [List.length_map] at ih ⊢; rw [if_pos (by omega), if_pos (by omega), if_pos (by omega), hr, hlen, if_pos (by omega), hr0, if_neg (by omega), qkx, wn (by omega), show wrap64 ((p : Int) - 1) = ((p - 1 : Nat) : Int) from wsub (b := 1) (by omega) (by omega), wmul (by omega) (by omega), qp9 (by omega)]; exact ih
theorem qnC (n : Nat) (hn : n ≤ 999999) : Num2 (fun k => qdB.f k (n : Int)) (fun k => qdD.f k (n : Int)) := by
 by_cases c : 1 ≤ n
 ·obtain ⟨L, hF, K, h⟩ := qjn c (by omega)
  obtain ⟨y, hy, K2, h2⟩ := qmA L (fun p hp => by have := hF.sm p hp; omega) (by have := hF.len; omega) L.length 0 n (by omega) (by omega)
  refine ⟨y, true, by omega, ⟨K + K2, fun k hk => ?_⟩, ⟨K + K2, fun k hk => ?_⟩⟩ <;> have h := h k (by omega) <;> have h2 : qcg.l0 k (n : Int) (L.map qhB) ((L.map qhB).length : Int) 0 = some (y : Int) := h2 k (by omega) <;> dsimp only at h
  ·show qdB.f k n = _
   unfold qdB.f qcp.f qcg.f; rw [if_pos (by omega), qaC, if_pos (decide_eq_true (by omega)), h, qaC, h2, qaC]
  ·show qdD.f k n = _
   unfold qdD.f qdg.f qci.f; rw [qd6, qaC, qaC, decide_eq_true (show (1 : Int) ≤ n by omega), decide_eq_true (show (n : Int) ≤ 1000000 by omega), qiX, h, qaC, qj4, h2]; rfl
 ·refine ⟨0, false, by omega, ⟨0, fun k hk => ?_⟩, ⟨0, fun k hk => ?_⟩⟩
  ·show qdB.f k n = _
   unfold qdB.f qcp.f; rw [if_neg (by omega), qaC]; rfl
  ·show qdD.f k n = _
   unfold qdD.f qdg.f; rw [qd6, qaC, qaC, decide_eq_false (show ¬ (1 : Int) ≤ n by omega)]; rfl
theorem qlh (n r : Nat) : qqL n (r + 1) = qqL n r ++ if n % (r + 1) = 0 then [r + 1] else [] := by
 unfold qqL; rw [List.range_succ, List.map_append, List.filter_append]
 by_cases c : n % (r + 1) = 0 <;> simp [c]
theorem qma (n r : Nat) : qk4 n (r + 1) = (if n % (r + 1) = 0 ∧ (r + 1) * (r + 1) < n then [n / (r + 1)] else []) ++ qk4 n r := by
 unfold qk4; rw [qlh, List.filter_append, List.map_append, List.reverse_append]
 by_cases c : n % (r + 1) = 0 <;> by_cases c2 : (r + 1) * (r + 1) < n <;> simp [c, c2]
theorem qqM (n : Nat) : ∀ r, (qqL n r).length ≤ r
 | 0 => by simp [qqL]
 | r + 1 => by
  have := qqM n r
  rw [qlh, List.length_append]; split <;> simp <;> omega
theorem qn9 (n : Nat) : ∀ r, (qk4 n r).length ≤ r
 | 0 => by simp [qk4, qqL]
 | r + 1 => by
  have := qn9 n r
  rw [qma, List.length_append]; split <;> simp <;> omega
theorem qnS {n : Nat} (h1 : 1 ≤ n) (hn : n ≤ 1000000) : ∀ (s r : Nat), r + s = 1001 → r * r ≤ n → Ev (fun k => qb7.l0 k (n : Int) (cz (qqL n r)) (cz (qk4 n r)) ((r + 1 : Nat) : Int)) (cz (qql n))
 | 0, r, h, hr => by
  obtain rfl : r = 1001 := by omega
  omega
 | s + 1, r, h, hr => by
  have l1 := qqM n r; have l2 := qn9 n r; have e1 := qfU (qqL n r); have e2 := qfU (qk4 n r); by_cases c : (r + 1) * (r + 1) ≤ n
  ·obtain ⟨K, ih⟩ := qnS h1 hn s (r + 1) (by omega) c
   refine Ev.mk' K fun k hk => ?_
   have ih := ih k hk; dsimp only at ih; rw [qlh, qma] at ih; simp only [qb7.l0]; rw [wmul (by omega) (by omega), if_pos (by omega), if_neg (by omega), qh8, qp9 (by omega)]; by_cases c2 : n % (r + 1) = 0
   ·rw [if_pos (by omega), if_pos (by omega), qaC]
    rw [if_pos c2] at ih; by_cases c3 : (r + 1) * (r + 1) < n
    ·have hq : n / (r + 1) ≤ n := Nat.div_le_self _ _
     rw [if_pos ⟨c2, c3⟩] at ih; rw [if_pos (by omega), qaC, if_pos (by simp only [List.length_cons, List.length_nil]; omega), qkx, wn (by omega)]; rw [ql0, ql0] at ih; exact ih
    ·rw [if_neg (fun h => c3 h.2), List.nil_append, ql0] at ih
     rw [if_neg (by omega)]; exact ih
   ·rw [if_neg c2, if_neg (fun h => c2 h.1), List.append_nil, List.nil_append] at ih
    rw [if_neg (by omega)]; exact ih
  ·refine Ev.mk' 0 fun k hk => ?_
   simp only [qb7.l0]; rw [wmul (by omega) (by omega), if_neg (by omega), if_pos (by omega), ← ql0, qsx n r h1 hr (by omega)]
theorem divs_sm {n : Nat} (h1 : 1 ≤ n) (hn : n ≤ 1000000) : Sm (qql n) := by
 refine ⟨?_, fun d hd => ?_⟩
 ·unfold qql
  exact Nat.le_trans (List.length_filter_le _ _) (by simp; omega)
 ·have := Nat.le_of_dvd (by omega) ((qmV n d h1).1 hd); omega
theorem qmC (n : Nat) (hn : n ≤ 999999) : ∃ (L : List Nat) (ok : Bool), Sm L ∧ Ev (fun k => qdd.f k (n : Int)) (cz L, ok) ∧ Ev (fun k => qdf.f k (n : Int)) (cz L, ok) := by
 by_cases c : 1 ≤ n
 ·obtain ⟨K, h⟩ := qpg c (by omega)
  obtain ⟨K2, h2⟩ := qnS c (by omega) 1001 0 rfl (by omega); refine ⟨qql n, true, divs_sm c (by omega), ⟨K, fun k hk => ?_⟩, ⟨K2, fun k hk => ?_⟩⟩
  ·have h := h k hk
   dsimp only at h
   show qdd.f k n = _
   unfold qdd.f qcp.f; rw [if_pos (by omega), qaC, if_pos (decide_eq_true (by omega)), h, qaC]
  ·have h2 : qb7.l0 k (n : Int) [] [] 1 = _ := h2 k hk
   show qdf.f k n = _
   unfold qdf.f qdg.f qb7.f; rw [qd6, qaC, qaC, decide_eq_true (show (1 : Int) ≤ n by omega), decide_eq_true (show (n : Int) ≤ 1000000 by omega), h2]; rfl
 ·refine ⟨[], false, ⟨by simp, by simp⟩, ⟨0, fun k hk => ?_⟩, ⟨0, fun k hk => ?_⟩⟩
  ·show qdd.f k n = _
   unfold qdd.f qcp.f; rw [if_neg (by omega), qaC]; rfl
  ·show qdf.f k n = _
   unfold qdf.f qdg.f; rw [qd6, qaC, qaC, decide_eq_false (show ¬ (1 : Int) ≤ n by omega)]; rfl
theorem qoo : ∀ (l : List qac) (p q : Nat), qtM p l = some q → p ∣ q ∧ ∀ r ∈ l, r.f0.toNat ∣ q
 | [], p, q, h => by
  simp only [qtM, Option.some.injEq] at h; subst h; exact ⟨Nat.dvd_refl _, by simp⟩
 | x :: t, p, q, h => by
  simp only [qtM] at h; split at h
  ·cases h
  ·obtain ⟨h1, h2⟩ := qoo t _ q h
   exact ⟨Nat.dvd_trans (Nat.dvd_lcm_left _ _) h1, fun r hr => by
    rcases List.mem_cons.1 hr with rfl | hr
    ·exact Nat.dvd_trans (Nat.dvd_lcm_right _ _) h1
    ·exact h2 r hr⟩
theorem qpV {l : List qac} {p : Nat} (h : period l = some p) (z : Int) : left l (z + p) = left l z := by
 have hg := (qfP h).1
 have hd : ∀ r ∈ l, r.f0.toNat ∣ p := by
  unfold period at h; rw [if_pos hg] at h; exact (qoo l 1 p h).2
 have hok := (qb5 hg).2; unfold left
 congr 1
 rw [Bool.eq_iff_iff, List.any_eq_true, List.any_eq_true]
 have e : ∀ r ∈ l, (z + p) % r.f0 = z % r.f0 := fun r hr => by
  have h2 := (qdi r).1 (List.all_eq_true.1 hok r hr); obtain ⟨c, hc⟩ := hd r hr
  have e1 : (p : Int) = r.f0 * c := by
   have h3 : ((r.f0.toNat : Nat) : Int) = r.f0 := by omega
   rw [hc, Int.natCast_mul, h3]
  rw [e1, Int.add_mul_emod_self_left]
 exact ⟨fun ⟨r, hr, h1⟩ => ⟨r, hr, by have h2 : ((z + p) % r.f0 == r.f1) = true := h1; rw [e r hr] at h2; exact h2⟩, fun ⟨r, hr, h1⟩ => ⟨r, hr, by show ((z + p) % r.f0 == r.f1) = true; rw [e r hr]; exact h1⟩⟩
theorem qfc (l : List qac) : ∀ (m : Nat) (i x : Int), x ∈ lefts l i m ↔ i ≤ x ∧ x < i + m ∧ left l x = true
 | 0, i, x => by simp [lefts]; omega
 | m + 1, i, x => by
  have ih := qfc l m (i + 1) x
  cases hb : left l i with
  | true =>
   have e : lefts l i (m + 1) = i :: lefts l (i + 1) m := by simp only [lefts, hb]; rfl
   rw [e, List.mem_cons, ih]; constructor
   ·rintro (h | h)
    ·exact ⟨by omega, by omega, by rw [h]; exact hb⟩
    ·exact ⟨by omega, by omega, h.2.2⟩
   ·intro h
    by_cases c : x = i
    ·exact .inl c
    ·exact .inr ⟨by omega, by omega, h.2.2⟩
  | false =>
   have e : lefts l i (m + 1) = lefts l (i + 1) m := by simp only [lefts, hb]; rfl
   rw [e, ih]; constructor
   ·intro h; exact ⟨by omega, by omega, h.2.2⟩
   ·intro h
    have c : x ≠ i := fun e => by rw [e, hb] at h; exact absurd h.2.2 (by decide)
    exact ⟨by omega, by omega, h.2.2⟩
theorem qmj (l : List qac) : ∀ (m : Nat) (i : Int), (lefts l i m).Pairwise (· < ·)
 | 0, i => by simp [lefts]
 | m + 1, i => by
  have ih := qmj l m (i + 1)
  cases hb : left l i with
  | true =>
   have e : lefts l i (m + 1) = i :: lefts l (i + 1) m := by simp only [lefts, hb]; rfl
   rw [e]; exact List.pairwise_cons.2 ⟨fun x hx => by have := (qfc l m (i + 1) x).1 hx; omega, ih⟩
  | false =>
   have e : lefts l i (m + 1) = lefts l (i + 1) m := by simp only [lefts, hb]; rfl
   rw [e]; exact ih
theorem qst (L : List Int) (h : ∀ x ∈ L, 0 ≤ x) : cz (L.map Int.toNat) = L := by
 unfold cz; rw [List.map_map]
 conv => rhs; rw [← List.map_id L]
 exact List.map_congr_left fun x hx => by have := h x hx; show ((x.toNat : Nat) : Int) = x; omega
theorem qtY {L : List Int} (h : ∀ x ∈ L, 0 ≤ x ∧ x ≤ 10000000) (hl : L.length ≤ 1000000) : Sm (L.map Int.toNat) := ⟨by rw [List.length_map]; exact hl, fun n hn => by
 obtain ⟨x, hx, rfl⟩ := List.mem_map.1 hn
 have := h x hx; omega⟩
theorem qlv : ∀ (k : Nat) (l : List qac) (h : Int) (x : List Int) (i : Int), qbr.l0 k l h x i = qb1.l0 k l h x i
 | 0, _, _, _, _ => rfl
 | k + 1, l, h, x, i => by simp only [qbr.l0, qb1.l0, qlv k]
theorem qlw (l : List qac) (hm : l.length ≤ 12) (hl : l.all qbF = true) (q : Nat) (hq : q ≤ 5000) : Ev (fun k => qbr.f k l (q : Int)) (lefts l 1 q) := by
 obtain ⟨K, h⟩ := qi8 l hm hl (q : Int) (by omega) q 1 [] (by omega) (by omega) (by simp; omega); exact ⟨K, fun k hk => by show qbr.l0 k l q [] 1 = _; rw [qlv]; exact h k hk⟩
theorem qiL (l : List qac) (hm : l.length ≤ 12) (hl : l.all qbF = true) (q : Nat) (hq : q ≤ 5000) : ∀ (d i : Nat), i + d = q → Ev (fun k => qaU.l0 k l (q : Int) (i : Int)) (if lefts l i d = [] then 0 else (q : Int))
 | 0, i, h => Ev.mk' 0 fun k _ => by simp only [qaU.l0]; rw [if_neg (by omega)]; rfl
 | d + 1, i, h => by
  obtain ⟨K1, h1⟩ := qhX (i : Int) l (by omega) hl
  cases hb : left l (i : Int) with
  | true =>
   have e : lefts l (i : Int) (d + 1) = (i : Int) :: lefts l ((i : Int) + 1) d := by simp only [lefts, hb]; rfl
   rw [hb] at h1; rw [e, if_neg (by simp)]
   refine Ev.mk' K1 fun k hk => ?_
   have h1 := h1 k hk; dsimp only at h1; simp only [qaU.l0]; rw [if_pos (by omega), h1, qaC, if_pos rfl]
  | false =>
   have e : lefts l (i : Int) (d + 1) = lefts l ((i + 1 : Nat) : Int) d := by simp only [lefts, hb]; rfl
   rw [hb] at h1; rw [e]; obtain ⟨K, ih⟩ := qiL l hm hl q hq d (i + 1) (by omega)
   refine Ev.mk' (K + K1) fun k hk => ?_
   have h1 := h1 k (by omega); have ih := ih k (by omega); dsimp only at h1 ih; simp only [qaU.l0]; rw [if_pos (by omega), h1, qaC, if_neg (by decide), qa8 (by omega) (by omega), show ((i : Int) + 1) = ((i + 1 : Nat) : Int) by omega, ih]
def qlQ (l : List qac) : Option (Nat × List Int) := match period l with
 | none => none
 | some q => if q ≤ 5000 ∧ lefts l 1 q ≠ [] then some (q, lefts l 1 q) else none
theorem qh9 {l : List qac} {q : Nat} {S : List Int} (h : qlQ l = some (q, S)) : 0 < q ∧ q ≤ 5000 ∧ S = lefts l 1 q ∧ S ≠ [] ∧ S.length ≤ 5000 := by
 unfold qlQ at h
 cases hp : period l with
 | none => rw [hp] at h; cases h
 | some p =>
  rw [hp] at h; simp only [] at h; split at h
  ·rename_i c
   simp only [Option.some.injEq, Prod.mk.injEq] at h; obtain ⟨rfl, rfl⟩ := h; have := qjX l p 1; exact ⟨(qfP hp).2.1, c.1, rfl, c.2, by omega⟩
  ·cases h
theorem qjE (l : List qac) : ∃ a b, Ev (fun k => qbW.f k l) (match qlQ l with | some (q, S) => ((q : Int), S, true) | none => (a, b, false)) := by
 obtain ⟨K, h⟩ := qiG l; unfold qlQ
 cases hp : period l with
 | none =>
  rw [hp] at h; refine ⟨0, [], K, fun k hk => ?_⟩; have h := h k hk; dsimp only at h
  show qbW.f k l = _
  unfold qbW.f; rw [h, qaC, if_neg (by decide)]
 | some q =>
  rw [hp] at h; obtain ⟨hg, q0, q1⟩ := qfP hp; by_cases c : q ≤ 5000
  ·obtain ⟨K2, h2⟩ := qig l (qb5 hg).2 1 (q : Int) (by omega) (by omega) (by omega)
   have e : qgO l 1 (q : Int) = lefts l 1 q := by unfold qgO; congr 1; omega
   rw [e] at h2; refine ⟨(q : Int), [], K + K2, fun k hk => ?_⟩; have h := h k (by omega); have h2 := h2 k (by omega); dsimp only at h h2
   show qbW.f k l = _
   unfold qbW.f; rw [h, qaC, if_pos rfl, if_neg (by omega), h2, qaC]; by_cases c2 : lefts l 1 q = []
   ·simp only []
    rw [if_neg (fun h => h.2 c2), c2]; rfl
   ·have : 0 < (lefts l 1 q).length := List.length_pos_iff.2 c2
    simp only []; rw [if_pos ⟨c, c2⟩, decide_eq_true (by omega)]
  ·refine ⟨0, [], K, fun k hk => ?_⟩
   have h := h k (by omega); dsimp only at h
   show qbW.f k l = _
   unfold qbW.f; rw [h, qaC, if_pos rfl, if_pos (by omega)]; simp only []; rw [if_neg (fun h => c h.1)]
theorem qiK (l : List qac) (hg : qaJ l = true) : Ev (fun k => qaU.f k l) (match qlQ l with | some (q, _) => (q : Int) | none => 0) := by
 obtain ⟨K1, h1⟩ := qfd l; obtain ⟨K2, h2⟩ := qiI l hg; obtain ⟨hm, hl⟩ := qb5 hg; unfold qlQ
 cases hp : period l with
 | none =>
  rw [hp] at h2; obtain ⟨K3, h3⟩ := qiL l hm hl 0 (by omega) 0 0 rfl; refine ⟨K1 + K2 + K3, fun k hk => ?_⟩; have h1 := h1 k (by omega); have h2 := h2 k (by omega); dsimp only at h1 h2
  show qaU.f k l = _
  unfold qaU.f; rw [h1, qaC, hg, if_pos rfl, h2, qaC, if_neg (by omega)]; exact h3 k (by omega)
 | some q =>
  rw [hp] at h2; obtain ⟨-, q0, q1⟩ := qfP hp; by_cases c : q ≤ 5000
  ·obtain ⟨K3, h3⟩ := qiL l hm hl q c q 0 (by omega)
   refine ⟨K1 + K2 + K3, fun k hk => ?_⟩; have h1 := h1 k (by omega); have h2 := h2 k (by omega); have h3 : qaU.l0 k l (q : Int) 0 = _ := h3 k (by omega); dsimp only at h1 h2; have hpl := qpV hp 0
   have e : lefts l ((0 : Nat) : Int) q = [] ↔ lefts l 1 q = [] := by
    rw [List.eq_nil_iff_forall_not_mem, List.eq_nil_iff_forall_not_mem]; constructor
    ·intro h x hx
     have hx := (qfc l q 1 x).1 hx; by_cases c : x = q
     ·refine h 0 ((qfc l q _ 0).2 ⟨by omega, by omega, ?_⟩)
      rw [c, show ((q : Nat) : Int) = 0 + (q : Int) by omega, hpl] at hx; exact hx.2.2
     ·exact h x ((qfc l q _ x).2 ⟨by omega, by omega, hx.2.2⟩)
    ·intro h x hx
     have hx := (qfc l q _ x).1 hx; by_cases c : x = 0
     ·refine h q ((qfc l q 1 q).2 ⟨by omega, by omega, ?_⟩)
      rw [show ((q : Nat) : Int) = 0 + (q : Int) by omega, hpl, ← c]; exact hx.2.2
     ·exact h x ((qfc l q 1 x).2 ⟨by omega, by omega, hx.2.2⟩)
   show qaU.f k l = _
   unfold qaU.f; rw [h1, qaC, hg, if_pos rfl, h2, qaC, if_neg (by omega), h3]; simp only []; by_cases c2 : lefts l 1 q = []
   ·rw [if_pos (e.2 c2), if_neg (fun h => h.2 c2)]
   ·rw [if_neg (fun h => c2 (e.1 h)), if_pos ⟨c, c2⟩]
  ·refine ⟨K1 + K2, fun k hk => ?_⟩
   have h1 := h1 k (by omega); have h2 := h2 k (by omega); dsimp only at h1 h2
   show qaU.f k l = _
   unfold qaU.f; rw [h1, qaC, hg, if_pos rfl, h2, qaC, if_pos (by omega)]; simp only []; rw [if_neg (fun h => c h.1)]
def List2 (f g : Nat → Option (List Int × Bool)) : Prop := ∃ (L : List Nat) (ok : Bool), Sm L ∧ Ev f (cz L, ok) ∧ Ev g (cz L, ok)
theorem nil_sm : Sm [] := ⟨by simp, by simp⟩
theorem qiJ {l : List qac} {q : Nat} {S : List Int} (h : qlQ l = some (q, S)) : ∀ x ∈ S, 1 ≤ x ∧ x ≤ (q : Int) := fun x hx => by
 obtain ⟨-, -, rfl, -⟩ := qh9 h; have := (qfc l q 1 x).1 hx; omega
theorem qo3 (l : List qac) (hg : qaJ l = true) : List2 (fun k => qdU.f k l) (fun k => qdV.f k l) := by
 obtain ⟨a, b, K1, h1⟩ := qjE l; obtain ⟨K2, h2⟩ := qiK l hg
 cases hw : qlQ l with
 | none =>
  rw [hw] at h1 h2; refine ⟨[], false, nil_sm, ⟨K1, fun k hk => ?_⟩, ⟨K2, fun k hk => ?_⟩⟩
  ·have h1 := h1 k hk
   dsimp only at h1
   show qdU.f k l = _
   unfold qdU.f; rw [h1, qaC]; rfl
  ·have h2 := h2 k hk
   dsimp only at h2
   show qdV.f k l = _
   unfold qdV.f; rw [h2, qaC]; rfl
 | some v =>
  obtain ⟨q, S⟩ := v; rw [hw] at h1 h2; obtain ⟨q0, q1, e, -, hl⟩ := qh9 hw; have hb := qiJ hw; obtain ⟨K3, h3⟩ := qlw l (qb5 hg).1 (qb5 hg).2 q q1; rw [← e] at h3; have hc := qst S (fun x hx => by have := hb x hx; omega)
  refine ⟨S.map Int.toNat, true, qtY (fun x hx => by have := hb x hx; omega) (by omega), ?_, ?_⟩ <;> rw [hc]
  ·refine ⟨K1, fun k hk => ?_⟩
   have h1 := h1 k hk; dsimp only at h1
   show qdU.f k l = _
   unfold qdU.f; rw [h1, qaC]; rfl
  ·refine ⟨K2 + K3, fun k hk => ?_⟩
   have h2 := h2 k (by omega); have h3 := h3 k (by omega); dsimp only at h2 h3
   show qdV.f k l = _
   unfold qdV.f; rw [h2, qaC, if_neg (by omega), h3, qaC]
theorem rdi (S : List Int) (i : Nat) (h : i < S.length) : rd S (i : Int) = S[i] := by
 unfold rd; rw [Int.toNat_natCast, List.getD_eq_getElem?_getD, List.getElem?_eq_getElem h]; rfl
theorem qnh (q : Nat) (hq : q ≤ 5000) (S : List Int) (hS : S ≠ []) (hl : S.length ≤ 5000) (hb : ∀ x ∈ S, 1 ≤ x ∧ x ≤ (q : Int)) (hr : S.Pairwise (· < ·)) : ∀ (d i : Nat) (x : List Int), i + d = S.length → x.length = i → (∀ y ∈ x, 0 ≤ y ∧ y ≤ 10000) → ∃ L : List Int, (∀ y ∈ L, 0 ≤ y ∧ y ≤ 10000) ∧ L.length = S.length ∧ Ev (fun k => qaN.l0 k x S (S.length : Int) (i : Int) (q : Int) S) L ∧ Ev (fun k => qbX.l0 k (q : Int) S x S (S.length : Int) (i : Int)) L
 | 0, i, x, h, hx, hy => ⟨x, hy, by omega, Ev.mk' 0 fun k _ => by simp only [qaN.l0]; rw [if_neg (by omega)], Ev.mk' 0 fun k _ => by simp only [qbX.l0]; rw [if_neg (by omega)]⟩
 | d + 1, i, x, h, hx, hy => by
  have h0 : 0 < S.length := List.length_pos_iff.2 hS; have bi := hb _ (List.getElem_mem (show i < S.length by omega)); have b0 := hb _ (List.getElem_mem h0); have ri := rdi S i (by omega); have r0 : rd S 0 = S[0] := rdi S 0 h0
  have hw : wrap64 ((i : Int) + 1) = ((i + 1 : Nat) : Int) := by rw [qa8 (by omega) (by omega)]; omega
  by_cases c : i + 1 < S.length
  ·have bn := hb _ (List.getElem_mem c)
   have hlt : S[i] < S[i + 1] := List.pairwise_iff_getElem.1 hr i (i + 1) (by omega) c (by omega); have rn := rdi S (i + 1) c
   obtain ⟨L, g1, g2, ⟨K1, h1⟩, ⟨K2, h2⟩⟩ := qnh q hq S hS hl hb hr d (i + 1) (x ++ [S[i + 1] - S[i]]) (by omega) (by simp; omega) (fun y hy2 => by
    rcases List.mem_append.1 hy2 with h | h
    ·exact hy y h
    ·rw [List.mem_singleton.1 h]; omega)
   refine ⟨L, g1, g2, Ev.mk' K1 fun k hk => ?_, Ev.mk' K2 fun k hk => ?_⟩
   ·simp only [qaN.l0]
    rw [if_pos (by omega), if_pos (by omega), if_pos (by omega), hw, if_pos (by omega), if_pos (by omega), if_pos (by omega), rn, ri, qa8 (n := S[i + 1] - S[i]) (by omega) (by omega)]; exact h1 k hk
   ·simp only [qbX.l0]
    rw [if_pos (by omega), if_pos (by omega), if_pos (by omega), if_pos (by omega), hw, if_pos (by omega), if_pos (by omega), if_pos (by omega), rn, ri, qa8 (n := S[i + 1] - S[i]) (by omega) (by omega)]; exact h2 k hk
  ·obtain ⟨L, g1, g2, ⟨K1, h1⟩, ⟨K2, h2⟩⟩ := qnh q hq S hS hl hb hr d (i + 1) (x ++ [S[0] + q - S[i]]) (by omega) (by simp; omega) (fun y hy2 => by
    rcases List.mem_append.1 hy2 with h | h
    ·exact hy y h
    ·rw [List.mem_singleton.1 h]; omega)
   refine ⟨L, g1, g2, Ev.mk' K1 fun k hk => ?_, Ev.mk' K2 fun k hk => ?_⟩
   ·simp only [qaN.l0]
    rw [if_pos (by omega), if_pos (by omega), if_pos (by omega), hw, if_neg (by omega), if_pos (by omega), if_pos (by omega), r0, ri, qa8 (n := S[0] + (q : Int)) (by omega) (by omega), qa8 (n := S[0] + (q : Int) - S[i]) (by omega) (by omega)]; exact h1 k hk
   ·simp only [qbX.l0]
    rw [if_pos (by omega), if_pos (by omega), if_pos (by omega), if_pos (by omega), hw, if_neg (by omega), if_pos (by omega), r0, ri, qa8 (n := S[0] + (q : Int)) (by omega) (by omega), qa8 (n := S[0] + (q : Int) - S[i]) (by omega) (by omega)]; exact h2 k hk
theorem qq7 (l : List qac) (hg : qaJ l = true) : List2 (fun k => qed.f k l) (fun k => qee.f k l) := by
 obtain ⟨a, b, K1, h1⟩ := qjE l; obtain ⟨K2, h2⟩ := qiK l hg
 cases hw : qlQ l with
 | none =>
  rw [hw] at h1 h2; refine ⟨[], false, nil_sm, ⟨K1, fun k hk => ?_⟩, ⟨K2, fun k hk => ?_⟩⟩
  ·have h1 := h1 k hk
   dsimp only at h1
   show qed.f k l = _
   unfold qed.f; rw [h1, qaC]; rfl
  ·have h2 := h2 k hk
   dsimp only at h2
   show qee.f k l = _
   unfold qee.f; rw [h2, qaC]; rfl
 | some v =>
  obtain ⟨q, S⟩ := v; rw [hw] at h1 h2; obtain ⟨q0, q1, e, hne, hl⟩ := qh9 hw; have hb := qiJ hw; obtain ⟨K3, h3⟩ := qlw l (qb5 hg).1 (qb5 hg).2 q q1; rw [← e] at h3; obtain ⟨L, g1, g2, ⟨K4, h4⟩, ⟨K5, h5⟩⟩ := qnh q q1 S hne hl hb (by rw [e]; exact qmj l q 1) S.length 0 [] (by omega) rfl (by simp); have hc := qst L (fun x hx => (g1 x hx).1)
  refine ⟨L.map Int.toNat, true, qtY (fun x hx => by have := g1 x hx; omega) (by omega), ?_, ?_⟩ <;> rw [hc]
  ·refine ⟨K1 + K4, fun k hk => ?_⟩
   have h1 := h1 k (by omega); have h4 : qaN.l0 k [] S (S.length : Int) 0 (q : Int) S = some L := h4 k (by omega); dsimp only at h1
   show qed.f k l = _
   unfold qed.f qaN.f; rw [h1, qaC, if_pos rfl, h4, qaC]
  ·refine ⟨K2 + K3 + K5, fun k hk => ?_⟩
   have h2 := h2 k (by omega); have h3 := h3 k (by omega); have h5 : qbX.l0 k (q : Int) S [] S (S.length : Int) 0 = some L := h5 k (by omega); dsimp only at h2 h3
   show qee.f k l = _
   unfold qee.f qbX.f; rw [h2, qaC, if_neg (by omega), h3, qaC, h5, qaC]
theorem qr7 (l : List qac) (hg : qaJ l = true) (n : Nat) (hn : n ≤ 999999) : Num2 (fun k => qbE.f k l (n : Int)) (fun k => qc5.f k l (n : Int)) := by
 obtain ⟨a, b, K1, h1⟩ := qjE l; obtain ⟨K2, h2⟩ := qiK l hg
 have hF : qe5.f (n : Int) = some true := by unfold qe5.f; rw [if_pos (by omega), decide_eq_true (by omega)]
 have hG : qd7.f (n : Int) = some true := by unfold qd7.f; rw [qd6, qaC, decide_eq_true (by omega), decide_eq_true (by omega)]; rfl
 cases hw : qlQ l with
 | none =>
  rw [hw] at h1 h2; refine ⟨0, false, by omega, Ev.mk' K1 fun k hk => ?_, ⟨K2, fun k hk => ?_⟩⟩
  ·have h1 := h1 (k + 1) (by omega)
   dsimp only at h1; unfold qbE.f; rw [h1, qaC]; simp only [qbE.j0, Bool.false_eq_true, if_false, if_true]; rfl
  ·have h2 := h2 k hk
   dsimp only at h2
   show qc5.f k l n = _
   unfold qc5.f; rw [h2, qaC]; rfl
 | some v =>
  obtain ⟨q, S⟩ := v; rw [hw] at h1 h2; obtain ⟨q0, q1, e, hne, hl⟩ := qh9 hw; have h0 : 0 < S.length := List.length_pos_iff.2 hne; have hb := qiJ hw; obtain ⟨K3, h3⟩ := qlw l (qb5 hg).1 (qb5 hg).2 q q1; rw [← e] at h3; have hm : n % S.length < S.length := Nat.mod_lt _ h0; have hbm := hb _ (List.getElem_mem hm); have rm := rdi S (n % S.length) hm; have hd : n / S.length ≤ n := Nat.div_le_self _ _; have hmul : n / S.length * q ≤ 999999 * 5000 := Nat.mul_le_mul (by omega) (by omega); have et : Int.tdiv (n : Int) (S.length : Int) = ((n / S.length : Nat) : Int) := qkx _ _; have em : Int.tmod (n : Int) (S.length : Int) = ((n % S.length : Nat) : Int) := qh8 _ _; have ew := qai.mk (show wrap64 (wrap64 (((n / S.length : Nat) : Int)) * (q : Int)) = ((n / S.length * q : Nat) : Int) from by rw [wn (by omega), wmul (by omega) (by omega)])
  generalize n / S.length * q = u at hmul ew
  refine ⟨u + S[n % S.length].toNat, true, by omega, Ev.mk' K1 fun k hk => ?_, ⟨K2 + K3, fun k hk => ?_⟩⟩
  ·have h1 := h1 (k + 1) (by omega)
   dsimp only at h1; unfold qbE.f; rw [h1, qaC, if_pos rfl, hF, qaC]; simp only [qbE.j0, Bool.not_true, Bool.false_eq_true, if_false]; rw [if_neg (by omega), em, if_pos (by omega), if_pos (by omega), et, ew.1, rm, qa8 (by omega) (by omega), if_neg (by omega)]
   congr 2; omega
  ·have h2 := h2 k (by omega)
   have h3 := h3 k (by omega); dsimp only at h2 h3
   show qc5.f k l n = _
   unfold qc5.f; rw [h2, qaC, if_neg (by omega), hG, qaC, if_pos rfl, h3, qaC, if_neg (by omega), em, if_pos (by omega), if_pos (by omega), et, ew.1, rm, qa8 (by omega) (by omega)]
   congr 2; omega
def sign (b : UInt8) : Bool := b == 111 || (b == 120 || b == 63)
def qiv (s : ByteArray) (n : Int) : Bool := decide (1 ≤ s.size) && (decide (s.size ≤ 48) && (s.data.toList.all sign && (decide (0 ≤ n) && decide (n ≤ 3))))
theorem qmI (l : List UInt8) : (l.dropWhile ([111, 120, 63] : List UInt8).contains = []) ↔ l.all sign = true := by
 induction l with
 | nil => simp
 | cons x l ih =>
  have e : ([111, 120, 63] : List UInt8).contains x = sign x := by simp [sign, List.contains_cons]; rfl
  rw [List.dropWhile_cons, e, List.all_cons]
  cases hx : sign x
  ·simp
  ·simpa using ih
theorem qt6 (l : List UInt8) : (Lib.trimS l [111, 120, 63] = []) ↔ l.all sign = true := by
 have e : ∀ m : List UInt8, Lib.trimLeftS m [111, 120, 63] = [] ↔ m.all sign = true := fun m => qmI m
 have e2 : ∀ m : List UInt8, Lib.trimRightS m [111, 120, 63] = (Lib.trimLeftS m.reverse [111, 120, 63]).reverse := fun m => rfl
 unfold Lib.trimS; rw [e, e2, List.all_reverse]; constructor
 ·intro h
  have h2 := (e (Lib.trimLeftS l.reverse [111, 120, 63])).2 h
  have h3 : Lib.trimLeftS l.reverse [111, 120, 63] = [] := by
   cases hd : Lib.trimLeftS l.reverse [111, 120, 63] with
   | nil => rfl
   | cons x m =>
    exfalso
    have hx : ([111, 120, 63] : List UInt8).contains x = false := by
     have := List.head?_dropWhile_not (p := fun b => ([111, 120, 63] : List UInt8).contains b) (l := l.reverse); unfold Lib.trimLeftS at hd; rw [hd] at this
     simpa using this
    rw [hd, List.all_cons] at h
    have e3 : ([111, 120, 63] : List UInt8).contains x = sign x := by simp [sign, List.contains_cons]; rfl
    rw [e3] at hx; rw [hx] at h
    simp at h
  have := (e l.reverse).1 h3
  simpa using this
 ·intro h
  have h3 := (e l.reverse).2 (by simpa using h); rw [h3]; rfl
theorem qhf (s : ByteArray) (n : Int) : qcE.f s n = some (qiv s n) := by
 unfold qcE.f qiv; by_cases h1 : (s.size : Int) ≥ 1
 ·by_cases h2 : (s.size : Int) ≤ 48
  ·have e : qdZ.f s (⟨#[111, 120, 63]⟩ : ByteArray) = some ⟨(Lib.trimS s.data.toList [111, 120, 63]).toArray⟩ := by
    unfold qdZ.f; rw [if_pos ⟨by omega, rfl⟩]
   rw [if_pos h1, if_pos h2, e, qaC]; have d1 : decide (1 ≤ s.size) = true := decide_eq_true (by omega); have d2 : decide (s.size ≤ 48) = true := decide_eq_true (by omega); rw [d1, d2, Bool.true_and, Bool.true_and]
   have e3 : (ByteArray.toList ⟨(Lib.trimS s.data.toList [111, 120, 63]).toArray⟩ = ([] : List UInt8)) ↔ s.data.toList.all sign = true := by
    rw [← qt6, ByteArray.toList_eq]
   by_cases h3 : s.data.toList.all sign = true
   ·rw [if_pos (e3.2 h3), h3, Bool.true_and]
    by_cases h4 : n ≥ 0
    ·rw [if_pos h4, decide_eq_true (show 0 ≤ n by omega), Bool.true_and]
    ·rw [if_neg h4, decide_eq_false (show ¬ 0 ≤ n by omega), Bool.false_and]
   ·rw [if_neg (fun h => h3 (e3.1 h)), Bool.eq_false_iff.2 h3, Bool.false_and]
  ·rw [if_pos h1, if_neg h2, decide_eq_false (show ¬ s.size ≤ 48 by omega), Bool.false_and, Bool.and_false]
 ·rw [if_neg h1, decide_eq_false (show ¬ 1 ≤ s.size by omega), Bool.false_and]
theorem qsi (s : ByteArray) (i : Nat) (h : i < s.size) : (bt s i = 111 ∨ bt s i = 120 ∨ bt s i = 63) ↔ sign (s.data.toList[i]'(by simpa using h)) = true := by
 have e : bt s i = ((s[i]'h).toNat : Int) := (qeu s (i : Int) h).symm
 have e2 : s.data.toList[i]'(by simpa using h) = s[i]'h := by simp; rfl
 rw [e2]
 generalize s[i]'h = b at e
 rw [e]; simp only [sign, Bool.or_eq_true, beq_iff_eq]; constructor
 ·rintro (h | h | h)
  ·left; exact UInt8.toNat_inj.mp (by simpa using (by omega : b.toNat = 111))
  ·right; left; exact UInt8.toNat_inj.mp (by simpa using (by omega : b.toNat = 120))
  ·right; right; exact UInt8.toNat_inj.mp (by simpa using (by omega : b.toNat = 63))
 ·rintro (rfl | rfl | rfl) <;> simp
theorem qj0 (s : ByteArray) (hm : s.size ≤ 48) : ∀ d i : Nat, i + d = s.size → Ev (fun k => qbz.l0 k s i) ((s.data.toList.drop i).all sign)
 | 0, i, h => Ev.mk' 0 fun k _ => by
  simp only [qbz.l0]; rw [if_neg (by omega), List.drop_of_length_le (by simp; omega)]; rfl
 | d + 1, i, h => by
  obtain ⟨K, ih⟩ := qj0 s hm d (i + 1) (by omega); dsimp only at ih
  have hi : i < s.data.toList.length := by simp; show i < s.size; omega
  have hb := qsi s i (by omega)
  refine Ev.mk' K fun k hk => ?_
  rw [List.drop_eq_getElem_cons hi, List.all_cons]; simp only [qbz.l0]; rw [if_pos (by omega), if_pos (by omega), qa8 (by omega) (by omega), show ((i : Int) + 1) = ((i + 1 : Nat) : Int) by omega, ih k hk]; by_cases h1 : bt s i = 111
  ·rw [if_pos h1, hb.1 (.inl h1), Bool.true_and]
  ·by_cases h2 : bt s i = 120
   ·rw [if_neg h1, if_pos h2, hb.1 (.inr (.inl h2)), Bool.true_and]
   ·by_cases h3 : bt s i = 63
    ·rw [if_neg h1, if_neg h2, if_pos h3, hb.1 (.inr (.inr h3)), Bool.true_and]
    ·have hn : sign (s.data.toList[i]'hi) = false := Bool.eq_false_iff.2 (fun h => by rcases hb.2 h with h | h | h <;> contradiction)
     rw [if_neg h1, if_neg h2, if_neg h3, hn, Bool.false_and]
theorem qlm (s : ByteArray) (n : Int) : Ev (fun k => qdy.f k s n) (qiv s n) := by
 unfold qiv; by_cases h : 1 ≤ s.size ∧ s.size ≤ 48
 ·obtain ⟨K, h3⟩ := qj0 s h.2 s.size 0 (by omega)
  have h3 : ∀ k, K ≤ k → qbz.l0 k s 0 = some (s.data.toList.all sign) := fun k hk => by have := h3 k hk; rwa [List.drop_zero] at this
  refine ⟨K, fun k hk => ?_⟩
  have d1 : (decide ((1 : Int) ≤ (s.size : Int)) && decide ((s.size : Int) ≤ 48)) = true := by simp; omega
  simp only [qdy.f, qbz.f, qd6, qaC, d1, if_true, h3 k hk]; rw [decide_eq_true h.1, decide_eq_true h.2, Bool.true_and, Bool.true_and]
  cases s.data.toList.all sign <;> simp
 ·refine ⟨0, fun k hk => ?_⟩
  have d1 : (decide ((1 : Int) ≤ (s.size : Int)) && decide ((s.size : Int) ≤ 48)) = false := by
   rw [Bool.and_eq_false_iff]; simp only [decide_eq_false_iff_not]; omega
  have d2 : (decide (1 ≤ s.size) && (decide (s.size ≤ 48) && (s.data.toList.all sign && (decide (0 ≤ n) && decide (n ≤ 3))))) = false := by
   rw [← Bool.and_assoc, Bool.and_eq_false_iff]; left; rw [Bool.and_eq_false_iff]; simp only [decide_eq_false_iff_not]; omega
  simp only [qdy.f, qbz.f, qd6, qaC, d1, Bool.false_eq_true, if_false, d2]
def qkp (s : ByteArray) (e t : Int) (pos : Nat) : Nat → Bool
 | 0 => true
 | d + 1 => !(bt s pos == 111 && (((pos : Int) + 1) % e == t)) && qkp s e t (pos + 1) d
def qf4 (s : ByteArray) (e t : Int) : Nat → List qac
 | 0 => []
 | d + 1 => (cond (qkp s e t 0 s.size) [(⟨e, t⟩ : qac)] []) ++ qf4 s e (t + 1) d
def allFit (s : ByteArray) (e : Int) : Nat → List qac
 | 0 => []
 | d + 1 => qf4 s e 0 e.toNat ++ allFit s (e + 1) d
def qhy (s : ByteArray) : List qac := allFit s 2 9
theorem qf8 (s : ByteArray) (e : Int) : ∀ d t, (qf4 s e t d).length ≤ d
 | 0, t => by simp [qf4]
 | d + 1, t => by
  have := qf8 s e d (t + 1); simp only [qf4, List.length_append]
  cases qkp s e t 0 s.size <;> simp <;> omega
theorem qiR (s : ByteArray) : ∀ (d : Nat) (e : Int), e + d = 11 → (allFit s e d).length ≤ 11 * d
 | 0, e, h => by simp [allFit]
 | d + 1, e, h => by
  have := qiR s d (e + 1) (by omega); have h2 := qf8 s e e.toNat 0; simp only [allFit, List.length_append]; omega
theorem qjM (s : ByteArray) : (qhy s).length ≤ 99 := qiR s 9 2 (by omega)
theorem qp3 {s : ByteArray} (hs : s.data.toList.all sign = true) (i : Nat) (h : i < s.size) : bt s i = 111 ∨ bt s i = 120 ∨ bt s i = 63 :=
 (qsi s i h).2 (List.all_eq_true.1 hs _ (List.getElem_mem _))
theorem qoq (s : ByteArray) (hs : s.data.toList.all sign = true) (hz : s.size ≤ 48) (e t : Int) (h0 : 2 ≤ e) (h1 : e ≤ 10) (h2 : 0 ≤ t) (h3 : t < e) : ∀ d pos : Nat, pos + d = s.size → Ev (fun k => qcK.l0 k s e t pos) (qkp s e t pos d)
 | 0, pos, h => Ev.mk' 0 fun k _ => by
  simp only [qcK.l0, qkp]; rw [if_neg (by omega)]
 | d + 1, pos, h => by
  obtain ⟨K, ih⟩ := qoq s hs hz e t h0 h1 h2 h3 d (pos + 1) (by omega); dsimp only at ih; have hb := qp3 hs pos (by omega); have hr := qow ((pos : Int) + 1) ⟨e, t⟩ ((qdi _).2 ⟨h0, by show e ≤ 60; omega, h2, h3⟩); have hr : qcB.f ((pos : Int) + 1) e = some (((pos : Int) + 1) % e) := hr
  refine Ev.mk' K fun k hk => ?_
  simp only [qcK.l0, qkp]; rw [if_pos (by omega), if_pos (by omega), qa8 (by omega) (by omega), hr, qaC, ih k hk]; by_cases c : bt s pos = 111
  ·rw [if_pos c, beq_iff_eq.2 c, Bool.true_and]
   by_cases c2 : ((pos : Int) + 1) % e = t
   ·rw [if_pos c2, beq_iff_eq.2 c2]; rfl
   ·rw [if_neg c2, beq_eq_false_iff_ne.2 c2]; simp
  ·rw [if_neg c, beq_eq_false_iff_ne.2 c]; simp
theorem qtN (s : ByteArray) (hs : s.data.toList.all sign = true) (hz : s.size ≤ 48) (e t : Int) (h0 : 2 ≤ e) (h1 : e ≤ 10) (h2 : 0 ≤ t) (h3 : t < e) : Ev (fun k => qcK.f k s e t) (qkp s e t 0 s.size) :=
 qoq s hs hz e t h0 h1 h2 h3 s.size 0 (by omega)
theorem qnb (s : ByteArray) (hs : s.data.toList.all sign = true) (hz : s.size ≤ 48) (e : Int) (h0 : 2 ≤ e) (h1 : e ≤ 10) (r : List qac) : ∀ (d : Nat) (t : Int) (acc : List qac), t + d = e → 0 ≤ t → acc.length + d ≤ 300 → Ev (fun k => qbO.l0 k s (acc ++ qf4 s e t d) (e + 1)) r → Ev (fun k => qbO.l1 k s acc e t) r
 | 0, t, acc, h, h2, h3, ⟨K, hk⟩ => Ev.mk' K fun k hk' => by
  simp only [qf4, List.append_nil] at hk; simp only [qbO.l1]; rw [if_neg (by omega), qa8 (by omega) (by omega), hk k hk']
 | d + 1, t, acc, h, h2, h3, hc => by
  obtain ⟨K1, hf⟩ := qtN s hs hz e t h0 h1 h2 (by omega); dsimp only at hf; simp only [qf4] at hc
  cases c : qkp s e t 0 s.size with
  | true =>
   rw [c, cond_true, ← List.append_assoc] at hc; rw [c] at hf; obtain ⟨K, ih⟩ := qnb s hs hz e h0 h1 r d (t + 1) (acc ++ [⟨e, t⟩]) (by omega) (by omega) (by simp; omega) hc; dsimp only at ih
   refine Ev.mk' (K + K1) fun k hk => ?_
   simp only [qbO.l1, hf k (by omega), qaC]; rw [if_pos (by omega), if_pos trivial, if_pos (by omega), qa8 (by omega) (by omega), ih k (by omega)]
  | false =>
   rw [c, cond_false, List.nil_append] at hc; rw [c] at hf; obtain ⟨K, ih⟩ := qnb s hs hz e h0 h1 r d (t + 1) acc (by omega) (by omega) (by omega) hc; dsimp only at ih
   refine Ev.mk' (K + K1) fun k hk => ?_
   simp only [qbO.l1, hf k (by omega), qaC]; rw [if_pos (by omega), if_neg (by decide), qa8 (by omega) (by omega), ih k (by omega)]
theorem qqS (s : ByteArray) (hs : s.data.toList.all sign = true) (hz : s.size ≤ 48) : ∀ (d : Nat) (e : Int) (acc : List qac), e + d = 11 → 2 ≤ e → acc.length + 11 * d ≤ 200 → Ev (fun k => qbO.l0 k s acc e) (acc ++ allFit s e d)
 | 0, e, acc, h, h2, h3 => Ev.mk' 0 fun k _ => by
  simp only [qbO.l0, allFit, List.append_nil]; rw [if_neg (by omega)]
 | d + 1, e, acc, h, h2, h3 => by
  have hl := qf8 s e e.toNat 0; have ih := qqS s hs hz d (e + 1) (acc ++ qf4 s e 0 e.toNat) (by omega) (by omega) (by rw [List.length_append]; omega); obtain ⟨K, h4⟩ := qnb s hs hz e h2 (by omega) _ e.toNat 0 acc (by omega) (by omega) (by omega) ih; dsimp only at h4
  refine Ev.mk' K fun k hk => ?_
  simp only [qbO.l0, allFit]; rw [if_pos (by omega), h4 k hk, List.append_assoc]
theorem pzFit_ev (s : ByteArray) (hs : s.data.toList.all sign = true) (hz : s.size ≤ 48) : Ev (fun k => qbO.f k s) (qhy s) := by
 obtain ⟨K, h⟩ := qqS s hs hz 9 2 [] (by omega) (by omega) (by simp); exact ⟨K, fun k hk => h k hk⟩
theorem qh3 (s : ByteArray) (hz : s.size ≤ 48) (e t : Int) (h0 : 2 ≤ e) (h1 : e ≤ 10) (acc : List qac) (hl : acc.length ≤ 300) (r : List qac) : ∀ (d pos : Nat) (b : Bool), pos + d = s.size → Ev (fun k => qaY.l1 k s (acc ++ cond (b && qkp s e t pos d) [(⟨e, t⟩ : qac)] []) e e (wrap64 (t + 1))) r → Ev (fun k => qaY.l2 k s acc e t b e t (s.size : Int) pos) r
 | 0, pos, b, h, ⟨K, hk⟩ => Ev.mk' K fun k hk' => by
  have hk := hk k hk'; simp only [qkp, Bool.and_true] at hk; simp only [qaY.l2]; rw [if_neg (by omega)]
  cases b with
  | true => rw [cond_true] at hk; rw [if_pos rfl, if_pos (by omega)]; exact hk
  | false => rw [cond_false, List.append_nil] at hk; rw [if_neg (by decide)]; exact hk
 | d + 1, pos, b, h, hc => by
  simp only [qkp] at hc
  cases b with
  | false =>
   obtain ⟨K, ih⟩ := qh3 s hz e t h0 h1 acc hl r d (pos + 1) false (by omega) hc; dsimp only at ih
   refine Ev.mk' K fun k hk => ?_
   simp only [qaY.l2]; rw [if_pos (by omega), if_neg (by decide), qa8 (by omega) (by omega)]; exact ih k hk
  | true =>
   have hm : Int.tmod ((pos : Int) + 1) e = ((pos : Int) + 1) % e := Int.tmod_eq_emod_of_nonneg (by omega); rw [Bool.true_and] at hc; by_cases c : bt s pos = 111
   ·rw [beq_iff_eq.2 c, Bool.true_and] at hc
    obtain ⟨K, ih⟩ := qh3 s hz e t h0 h1 acc hl r d (pos + 1) (((pos : Int) + 1) % e != t) (by omega) hc; dsimp only at ih
    refine Ev.mk' K fun k hk => ?_
    simp only [qaY.l2]; rw [if_pos (by omega), if_pos (by first | rfl | trivial), if_pos (by omega), if_pos (by omega), if_pos c, if_neg (by omega), qa8 (n := (pos : Int) + 1) (by omega) (by omega), hm]; exact ih k hk
   ·rw [beq_eq_false_iff_ne.2 c, Bool.false_and] at hc
    obtain ⟨K, ih⟩ := qh3 s hz e t h0 h1 acc hl r d (pos + 1) true (by omega) hc; dsimp only at ih
    refine Ev.mk' K fun k hk => ?_
    simp only [qaY.l2]; rw [if_pos (by omega), if_pos (by first | rfl | trivial), if_pos (by omega), if_pos (by omega), if_neg c, qa8 (n := (pos : Int) + 1) (by omega) (by omega)]; exact ih k hk
theorem ql7 (s : ByteArray) (hz : s.size ≤ 48) (e : Int) (h0 : 2 ≤ e) (h1 : e ≤ 10) (r : List qac) : ∀ (d : Nat) (t : Int) (acc : List qac), t + d = e → 0 ≤ t → acc.length + d ≤ 300 → Ev (fun k => qaY.l0 k s (acc ++ qf4 s e t d) (e + 1)) r → Ev (fun k => qaY.l1 k s acc e e t) r
 | 0, t, acc, h, h2, h3, ⟨K, hk⟩ => Ev.mk' K fun k hk' => by
  simp only [qf4, List.append_nil] at hk; simp only [qaY.l1]; rw [if_neg (by omega), qa8 (by omega) (by omega), hk k hk']
 | d + 1, t, acc, h, h2, h3, hc => by
  simp only [qf4] at hc; rw [← List.append_assoc] at hc; have ih := ql7 s hz e h0 h1 r d (t + 1) (acc ++ cond (qkp s e t 0 s.size) [(⟨e, t⟩ : qac)] []) (by omega) (by omega) (by rw [List.length_append]; cases qkp s e t 0 s.size <;> simp <;> omega) hc; obtain ⟨K, h4⟩ := qh3 s hz e t h0 h1 acc (by omega) r s.size 0 true (by omega) (by rw [Bool.true_and, qa8 (by omega) (by omega)]; exact ih); dsimp only at h4
  refine Ev.mk' K fun k hk => ?_
  simp only [qaY.l1]; rw [if_pos (by omega)]; exact h4 k hk
theorem ql6 (s : ByteArray) (hz : s.size ≤ 48) : ∀ (d : Nat) (e : Int) (acc : List qac), e + d = 11 → 2 ≤ e → acc.length + 11 * d ≤ 200 → Ev (fun k => qaY.l0 k s acc e) (acc ++ allFit s e d)
 | 0, e, acc, h, h2, h3 => Ev.mk' 0 fun k _ => by
  simp only [qaY.l0, allFit, List.append_nil]; rw [if_neg (by omega)]
 | d + 1, e, acc, h, h2, h3 => by
  have hl := qf8 s e e.toNat 0; have ih := ql6 s hz d (e + 1) (acc ++ qf4 s e 0 e.toNat) (by omega) (by omega) (by rw [List.length_append]; omega); obtain ⟨K, h4⟩ := ql7 s hz e h2 (by omega) _ e.toNat 0 acc (by omega) (by omega) (by omega) ih; dsimp only at h4
  refine Ev.mk' K fun k hk => ?_
  simp only [qaY.l0, allFit]; rw [if_pos (by omega), h4 k hk, List.append_assoc]
theorem qrf (s : ByteArray) (hz : s.size ≤ 48) : Ev (fun k => qaY.f k s) (qhy s) := by
 obtain ⟨K, h⟩ := ql6 s hz 9 2 [] (by omega) (by omega) (by simp); exact ⟨K, fun k hk => h k hk⟩
def qss (s : ByteArray) (l : List qac) (pos : Nat) : Nat → Bool
 | 0 => true
 | d + 1 => !(bt s pos == 120 && left l ((pos : Int) + 1)) && qss s l (pos + 1) d
def agD (s : ByteArray) (l : List qac) (pos : Nat) : Nat → Bool
 | 0 => true
 | d + 1 => !(bt s pos != 63 && (left l ((pos : Int) + 1) != (bt s pos == 111))) && agD s l (pos + 1) d
theorem qsc {α : Type} (p q : α → Bool) : ∀ l : List α, l.all (fun x => p x && q x) = (l.all p && l.all q)
 | [] => rfl
 | x :: l => by
  simp only [List.all_cons, qsc p q l]
  cases p x <;> cases q x <;> cases l.all p <;> cases l.all q <;> rfl
theorem left_all (l : List qac) (n : Int) : left l n = l.all (fun r => !qfy n r) := by
 unfold left
 induction l with
 | nil => rfl
 | cons x l ih => rw [List.any_cons, List.all_cons, ← ih]; cases qfy n x <;> simp
theorem agD_eq (s : ByteArray) (hs : s.data.toList.all sign = true) (l : List qac) : ∀ d pos : Nat, pos + d = s.size → agD s l pos d = (l.all (fun r => qkp s r.f0 r.f1 pos d) && qss s l pos d)
 | 0, pos, h => by
  have e : (fun r : qac => qkp s r.f0 r.f1 pos 0) = fun _ => true := rfl
  rw [e]; simp [agD, qss]
 | d + 1, pos, h => by
  have ih := agD_eq s hs l d (pos + 1) (by omega); simp only [agD, qss, qkp]; rw [qsc (fun r : qac => !(bt s pos == 111 && ((pos : Int) + 1) % r.f0 == r.f1)) (fun r => qkp s r.f0 r.f1 (pos + 1) d), ih]
  rcases qp3 hs pos (by omega) with hb | hb | hb <;> rw [hb]
  ·have e : l.all (fun r : qac => !((111 : Int) == 111 && ((pos : Int) + 1) % r.f0 == r.f1)) = left l ((pos : Int) + 1) := (left_all l _).symm
   rw [e]
   generalize left l ((pos : Int) + 1) = x
   generalize l.all (fun r => qkp s r.f0 r.f1 (pos + 1) d) = y
   generalize qss s l (pos + 1) d = z
   cases x <;> cases y <;> cases z <;> rfl
  ·have e : l.all (fun r : qac => !((120 : Int) == 111 && ((pos : Int) + 1) % r.f0 == r.f1)) = true := List.all_eq_true.2 fun _ _ => rfl
   rw [e]
   generalize left l ((pos : Int) + 1) = x
   generalize l.all (fun r => qkp s r.f0 r.f1 (pos + 1) d) = y
   generalize qss s l (pos + 1) d = z
   cases x <;> cases y <;> cases z <;> rfl
  ·have e : l.all (fun r : qac => !((63 : Int) == 111 && ((pos : Int) + 1) % r.f0 == r.f1)) = true := List.all_eq_true.2 fun _ _ => rfl
   rw [e]
   generalize left l ((pos : Int) + 1) = x
   generalize l.all (fun r => qkp s r.f0 r.f1 (pos + 1) d) = y
   generalize qss s l (pos + 1) d = z
   cases x <;> cases y <;> cases z <;> rfl
theorem qnD (s : ByteArray) (hs : s.data.toList.all sign = true) (hz : s.size ≤ 48) (l : List qac) (hl : l.all qbF = true) : ∀ d pos : Nat, pos + d = s.size → Ev (fun k => qbu.l0 k s l (s.size : Int) pos) (agD s l pos d)
 | 0, pos, h => Ev.mk' 0 fun k _ => by
  simp only [qbu.l0, agD]; rw [if_neg (by omega)]
 | d + 1, pos, h => by
  obtain ⟨K, ih⟩ := qnD s hs hz l hl d (pos + 1) (by omega); dsimp only at ih
  refine Ev.mk' K fun k hk => ?_
  have ih : qbu.l0 k s l (s.size : Int) ((pos : Int) + 1) = some (agD s l (pos + 1) d) := ih k hk; simp only [qbu.l0, agD, qgr _ l hl, qaC]; rw [if_pos (by omega), if_pos (by omega), if_pos (by omega), qa8 (by omega) (by omega), ih]; by_cases c : bt s pos = 63
  ·rw [if_pos c, c]; rfl
  ·rw [if_neg c, bne_iff_ne.2 c, Bool.true_and]
   cases (left l ((pos : Int) + 1) != (bt s pos == 111)) <;> simp
theorem qll (s : ByteArray) (hs : s.data.toList.all sign = true) (hz : s.size ≤ 48) (l : List qac) (hm : l.length ≤ 12) (hl : l.all qbF = true) : ∀ d pos : Nat, pos + d = s.size → Ev (fun k => qch.l0 k s l pos) (qss s l pos d)
 | 0, pos, h => Ev.mk' 0 fun k _ => by
  simp only [qch.l0, qss]; rw [if_neg (by omega)]
 | d + 1, pos, h => by
  obtain ⟨K, ih⟩ := qll s hs hz l hm hl d (pos + 1) (by omega); dsimp only at ih; obtain ⟨K1, h3⟩ := qhX ((pos : Int) + 1) l (by omega) hl; dsimp only at h3; have hb := qp3 hs pos (by omega)
  refine Ev.mk' (K + K1) fun k hk => ?_
  simp only [qch.l0, qss]; rw [if_pos (by omega), if_pos (by omega), qa8 (by omega) (by omega), h3 k (by omega), qaC, ih k (by omega)]; by_cases c : bt s pos = 120
  ·rw [if_pos c, c]
   cases left l ((pos : Int) + 1) <;> simp
  ·rw [if_neg c, beq_eq_false_iff_ne.2 c, Bool.false_and]; rfl
def qrN : Nat → List qac → List (List qac)
 | 0, _ => [[]]
 | _ + 1, [] => []
 | n + 1, r :: t => (qrN n t).map (fun l => r :: l) ++ qrN (n + 1) t
theorem qkm : ∀ (n : Nat) (fit l : List qac), l ∈ qrN n fit → l.length = n ∧ ∀ r ∈ l, r ∈ fit
 | 0, fit, l, h => by
  simp only [qrN, List.mem_singleton] at h; subst h; simp
 | n + 1, [], l, h => by simp [qrN] at h
 | n + 1, x :: t, l, h => by
  simp only [qrN, List.mem_append, List.mem_map] at h
  rcases h with ⟨l', h', rfl⟩ | h
  ·have ih := qkm n t l' h'
   refine ⟨by simp [ih.1], fun r hr => ?_⟩
   rcases List.mem_cons.1 hr with hr | hr
   ·rw [hr]; exact List.mem_cons_self
   ·exact List.mem_cons_of_mem _ (ih.2 r hr)
  ·have ih := qkm (n + 1) t l h
   exact ⟨ih.1, fun r hr => List.mem_cons_of_mem _ (ih.2 r hr)⟩
def res (P : List qac → Bool) (n : Nat) (out : List (List qac)) (list : List qac) (m : Nat) (fit : List qac) : List (List qac) := (out ++ (((qrN m fit).map (fun l => list ++ l)).filter P)).take n
theorem take_app {α : Type} (A B : List α) (n : Nat) : (A.take n ++ B).take n = (A ++ B).take n := by
 rw [List.take_append, List.take_append, List.take_take, Nat.min_self, List.length_take]
 congr 2
 omega
theorem qqU (P : List qac → Bool) (n : Nat) (out : List (List qac)) (list : List qac) (m : Nat) (fit : List qac) (h : out.length = n) : res P n out list m fit = out := by
 unfold res; rw [List.take_append, List.take_of_length_le (by omega)]
 simp [h]
theorem qtT (P : List qac → Bool) (n : Nat) (out : List (List qac)) (list : List qac) (m : Nat) (h : out.length ≤ n) : res P n out list (m + 1) [] = out := by
 unfold res
 simp [qrN, List.take_of_length_le h]
theorem qqV (P : List qac → Bool) (n : Nat) (out : List (List qac)) (list : List qac) (m : Nat) (r : qac) (t : List qac) : res P n (res P n out (list ++ [r]) m t) list (m + 1) t = res P n out list (m + 1) (r :: t) := by
 unfold res; rw [take_app]; simp only [qrN, List.map_append, List.filter_append, List.map_map, List.append_assoc]
 congr 4
theorem qms (P : List qac → Bool) (n : Nat) (out : List (List qac)) (list : List qac) (m : Nat) (fit : List qac) : (res P n out list m fit).length ≤ n := by
 unfold res; rw [List.length_take]; omega
theorem qqW (P : List qac → Bool) (n : Nat) (out : List (List qac)) (list fit : List qac) (h : out.length < n) : res P n out list 0 fit = if P list = true then out ++ [list] else out := by
 unfold res; simp only [qrN, List.map_cons, List.map_nil, List.append_nil]; by_cases c : P list = true
 ·rw [if_pos c, List.filter_cons, if_pos c, List.filter_nil, List.take_of_length_le (by simp; omega)]
 ·rw [if_neg c, List.filter_cons, if_neg c, List.filter_nil, List.append_nil, List.take_of_length_le (by omega)]
def agB (s : ByteArray) (l : List qac) : Bool := agD s l 0 s.size
def cvB (s : ByteArray) (l : List qac) : Bool := qss s l 0 s.size
theorem qqf (l : List qac) (r : qac) (h : l.all qbF = true) (hr : qbF r = true) : (l ++ [r]).all qbF = true := by simp [h, hr]
theorem qqG (s : ByteArray) (hs : s.data.toList.all sign = true) (hz : s.size ≤ 48) (F : List qac) (R most : Nat) (hR : R ≤ 3) (hM : most ≤ 301) (i : Nat)
  (hl0 : ∀ (m : Nat) (list : List qac) (out : List (List qac)), list.length + (m + 1) = R → list.all qbF = true → out.length ≤ most → Ev (fun k => qa4.l0 k s R most F list out (i : Int)) (res (agB s) most out list (m + 1) (F.drop i))) :
  ∀ (m : Nat) (list : List qac) (out : List (List qac)), list.length + m = R → list.all qbF = true → out.length ≤ most → Ev (fun k => qa4.f k s R most F list (i : Int) out) (res (agB s) most out list m (F.drop i)) := by
 intro m list out h1 h2 h3; by_cases c : out.length = most
 ·rw [qqU _ _ _ _ _ _ c]
  refine Ev.mk' 0 fun k hk => ?_
  simp only [qa4.f]; rw [if_pos (by omega)]
 ·cases m with
  | zero =>
   obtain ⟨K, ha⟩ := qnD s hs hz list h2 s.size 0 (by omega); have ha : ∀ k, K ≤ k → qbu.f k s list = some (agB s list) := ha; rw [qqW _ _ _ _ _ (by omega)]
   refine Ev.mk' K fun k hk => ?_
   simp only [qa4.f, ha k hk, qaC]; rw [if_neg (by omega), if_pos (by omega)]; by_cases c2 : agB s list = true
   ·rw [if_pos c2, if_pos c2, if_pos (by omega)]
   ·rw [if_neg c2, if_neg c2]
  | succ m =>
   obtain ⟨K, hk⟩ := hl0 m list out h1 h2 h3
   refine Ev.mk' K fun k hk' => ?_
   simp only [qa4.f]; rw [if_neg (by omega), if_neg (by omega)]; exact hk k hk'
theorem qoc (s : ByteArray) (hs : s.data.toList.all sign = true) (hz : s.size ≤ 48) (F : List qac) (hF : F.all qbF = true) (hL : F.length ≤ 99) (R most : Nat) (hR : R ≤ 3) (hM : most ≤ 301) :
  ∀ (d i : Nat), i + d = F.length → ∀ (m : Nat) (list : List qac) (out : List (List qac)), list.length + (m + 1) = R → list.all qbF = true → out.length ≤ most → Ev (fun k => qa4.l0 k s R most F list out (i : Int)) (res (agB s) most out list (m + 1) (F.drop i))
 | 0, i, h, m, list, out, h1, h2, h3 => by
  rw [List.drop_of_length_le (by omega), qtT _ _ _ _ _ h3]
  refine Ev.mk' 0 fun k hk => ?_
  simp only [qa4.l0]; rw [if_neg (by omega)]
 | d + 1, i, h, m, list, out, h1, h2, h3 => by
  have IH := qoc s hs hz F hF hL R most hR hM d (i + 1) (by omega); have hr : qbF (qad F i) = true := List.all_eq_true.1 hF _ (qor F i (by omega)); obtain ⟨K1, e1⟩ := qqG s hs hz F R most hR hM (i + 1) IH m (list ++ [qad F i]) out (by simp; omega) (qqf _ _ h2 hr) h3; obtain ⟨K2, e2⟩ := IH m list (res (agB s) most out (list ++ [qad F i]) m (F.drop (i + 1))) h1 h2 (qms _ _ _ _ _ _); dsimp only at e1 e2; rw [qkQ F i (by omega), ← qqV]
  refine Ev.mk' (K1 + K2) fun k hk => ?_
  simp only [qa4.l0]; rw [if_pos (by omega), if_pos (by omega), if_pos (by omega), show wrap64 ((i : Int) + 1) = ((i + 1 : Nat) : Int) from qa8 (by omega) (by omega), e1 k (by omega), qaC, e2 k (by omega)]
theorem qoA (s : ByteArray) (hs : s.data.toList.all sign = true) (hz : s.size ≤ 48) (fit : List qac)
  (hl0 : ∀ (m : Nat) (rules : List qac) (out : List (List qac)), rules.length + (m + 1) ≤ 3 → rules.all qbF = true → out.length ≤ 301 → Ev (fun k => qb4.l0 k s fit rules ((m + 1 : Nat) : Int) out 0) (res (cvB s) 301 out rules (m + 1) fit)) :
  ∀ (m : Nat) (rules : List qac) (out : List (List qac)), rules.length + m ≤ 3 → rules.all qbF = true → out.length ≤ 300 → Ev (fun k => qb4.f k s fit rules (m : Int) out) (res (cvB s) 301 out rules m fit) := by
 intro m rules out h1 h2 h3
 cases m with
 | zero =>
  obtain ⟨K, ha⟩ := qll s hs hz rules (by omega) h2 s.size 0 (by omega); have ha : ∀ k, K ≤ k → qch.f k s rules = some (cvB s rules) := ha; rw [qqW _ _ _ _ _ (by omega)]
  refine Ev.mk' K fun k hk => ?_
  simp only [qb4.f, ha k hk, qaC]; rw [if_pos (by omega)]; by_cases c2 : cvB s rules = true
  ·rw [if_pos c2, if_pos c2, if_pos (by omega), if_pos (by omega)]
  ·rw [if_neg c2, if_neg c2]
 | succ m =>
  obtain ⟨K, hk⟩ := hl0 m rules out h1 h2 (by omega)
  refine Ev.mk' K fun k hk' => ?_
  simp only [qb4.f]; rw [if_neg (by omega)]; exact hk k hk'
theorem qjy (s : ByteArray) (hs : s.data.toList.all sign = true) (hz : s.size ≤ 48) :
  ∀ (d : Nat) (fit : List qac) (i : Nat), fit.all qbF = true → fit.length ≤ 99 → i + d = fit.length → ∀ (m : Nat) (rules : List qac) (out : List (List qac)), rules.length + (m + 1) ≤ 3 → rules.all qbF = true → out.length ≤ 301 → Ev (fun k => qb4.l0 k s fit rules ((m + 1 : Nat) : Int) out i) (res (cvB s) 301 out rules (m + 1) (fit.drop i))
 | 0, fit, i, hF, hL, h, m, rules, out, h1, h2, h3 => by
  rw [List.drop_of_length_le (by omega), qtT _ _ _ _ _ h3]
  refine Ev.mk' 0 fun k hk => ?_
  simp only [qb4.l0]; rw [if_neg (by omega)]
 | d + 1, fit, i, hF, hL, h, m, rules, out, h1, h2, h3 => by
  by_cases c : 300 < out.length
  ·rw [qqU _ _ _ _ _ _ (by omega)]
   refine Ev.mk' 0 fun k hk => ?_
   simp only [qb4.l0]; rw [if_pos (by omega), if_pos c]
  ·have hr : qbF (qad fit i) = true := List.all_eq_true.1 hF _ (qor fit i (by omega))
   have hFd : (fit.drop (i + 1)).all qbF = true := List.all_eq_true.2 fun x hx => List.all_eq_true.1 hF x (List.mem_of_mem_drop hx)
   have hdl : (fit.drop (i + 1)).length = d := by rw [List.length_drop]; omega
   obtain ⟨K1, e1⟩ := qoA s hs hz (fit.drop (i + 1)) (fun m' rules' out' g1 g2 g3 => by have := qjy s hs hz d (fit.drop (i + 1)) 0 hFd (by omega) (by omega) m' rules' out' g1 g2 g3; rwa [List.drop_zero] at this) m (rules ++ [qad fit i]) out (by simp; omega) (qqf _ _ h2 hr) (by omega); obtain ⟨K2, e2⟩ := qjy s hs hz d fit (i + 1) hF hL (by omega) m rules (res (cvB s) 301 out (rules ++ [qad fit i]) m (fit.drop (i + 1))) h1 h2 (qms _ _ _ _ _ _); dsimp only at e1 e2; rw [qkQ fit i (by omega), ← qqV]
   refine Ev.mk' (K1 + K2) fun k hk => ?_
   simp only [qb4.l0]; rw [if_pos (by omega), if_neg c, if_pos (by omega), show wrap64 (((m + 1 : Nat) : Int) - 1) = (m : Int) by rw [qa8 (by omega) (by omega)]; omega, e1 k (by omega), qaC, e2 k (by omega)]
theorem qmt (s : ByteArray) (e : Int) (h0 : 2 ≤ e) (h1 : e ≤ 10) : ∀ (d : Nat) (t : Int), 0 ≤ t → t + d = e → ∀ r ∈ qf4 s e t d, qbF r = true ∧ qkp s r.f0 r.f1 0 s.size = true
 | 0, t, _, _, r, h => by simp [qf4] at h
 | d + 1, t, ht, hd, r, h => by
  simp only [qf4, List.mem_append] at h
  rcases h with h | h
  ·cases c : qkp s e t 0 s.size with
   | true =>
    rw [c, cond_true, List.mem_singleton] at h; subst h; exact ⟨(qdi _).2 ⟨h0, by show e ≤ 60; omega, ht, by show t < e; omega⟩, c⟩
   | false => rw [c] at h; simp at h
  ·exact qmt s e h0 h1 d (t + 1) (by omega) (by omega) r h
theorem qlV (s : ByteArray) : ∀ (d : Nat) (e : Int), 2 ≤ e → e + d = 11 → ∀ r ∈ allFit s e d, qbF r = true ∧ qkp s r.f0 r.f1 0 s.size = true
 | 0, e, _, _, r, h => by simp [allFit] at h
 | d + 1, e, h0, hd, r, h => by
  simp only [allFit, List.mem_append] at h
  rcases h with h | h
  ·exact qmt s e h0 (by omega) e.toNat 0 (by omega) (by omega) r h
  ·exact qlV s d (e + 1) (by omega) (by omega) r h
theorem qkS (s : ByteArray) : ∀ r ∈ qhy s, qbF r = true ∧ qkp s r.f0 r.f1 0 s.size = true := qlV s 9 2 (by omega) (by omega)
theorem qqu (s : ByteArray) : (qhy s).all qbF = true := List.all_eq_true.2 fun r h => (qkS s r h).1
def answers (s : ByteArray) (R : Nat) : List (List qac) := (qrN R (qhy s)).filter (agB s)
theorem qli (L : List (List qac)) : L.map (fun l => ([] : List qac) ++ l) = L := by
 induction L with
 | nil => rfl
 | cons x t ih => rw [List.map_cons, ih]; rfl
theorem qo6 (s : ByteArray) (hs : s.data.toList.all sign = true) (R : Nat) : (qrN R (qhy s)).filter (cvB s) = answers s R := by
 unfold answers
 refine List.filter_congr fun l hl => ?_
 have hm := qkm R (qhy s) l hl; unfold agB cvB; rw [agD_eq s hs l s.size 0 (by omega), List.all_eq_true.2 (fun r hr => (qkS s r (hm.2 r hr)).2), Bool.true_and]
theorem qlN (s : ByteArray) (hs : s.data.toList.all sign = true) (hz : s.size ≤ 48) (R most : Nat) (hR : R ≤ 3) (hM : most ≤ 301) : Ev (fun k => qcM.f k s R most) ((answers s R).take most) := by
 obtain ⟨K1, h1⟩ := qrf s hz; obtain ⟨K2, h2⟩ := qqG s hs hz (qhy s) R most hR hM 0 (qoc s hs hz (qhy s) (qqu s) (qjM s) R most hR hM (qhy s).length 0 (by omega)) R [] [] (by simp) rfl (by simp); dsimp only at h1 h2; refine ⟨K1 + K2, fun k hk => ?_⟩; have h2 : qa4.f k s R most (qhy s) [] 0 [] = _ := h2 k (by omega); simp only [qcM.f, h1 k (by omega), qaC, h2]; unfold res answers; rw [List.drop_zero, qli]; rfl
theorem pzAll_ev (s : ByteArray) (hs : s.data.toList.all sign = true) (hz : s.size ≤ 48) (R : Nat) (hR : R ≤ 3) : Ev (fun k => qb4.f k s (qhy s) [] (R : Int) []) ((answers s R).take 301) := by
 have h := qoA s hs hz (qhy s) (fun m rules out g1 g2 g3 => by have := qjy s hs hz (qhy s).length (qhy s) 0 (qqu s) (qjM s) (by omega) m rules out g1 g2 g3; rwa [List.drop_zero] at this) R [] [] (by simp; omega) rfl (by simp); unfold res at h; rw [qli, qo6 s hs] at h; exact h
theorem qjr {s : ByteArray} {n : Int} (h : qiv s n = true) : 1 ≤ s.size ∧ s.size ≤ 48 ∧ s.data.toList.all sign = true ∧ 0 ≤ n ∧ n ≤ 3 := by
 unfold qiv at h; simp only [Bool.and_eq_true, decide_eq_true_eq] at h; exact ⟨h.1, h.2.1, h.2.2.1, h.2.2.2.1, h.2.2.2.2⟩
def ansV (s : ByteArray) (n : Int) : List (List qac) × Bool := if qiv s n = true ∧ (answers s n.toNat).length ≤ 300 then (answers s n.toNat, true) else ([], false)
theorem qo7 (s : ByteArray) (R : Nat) : ∀ l ∈ answers s R, l.length = R ∧ ∀ r ∈ l, r ∈ qhy s := fun l hl => qkm R (qhy s) l ((List.mem_filter.1 hl).1)
theorem qni {α : Type} (L : List α) : (((L.take 301).length : Int) > 300) ↔ ¬ L.length ≤ 300 := by rw [List.length_take]; omega
theorem qqZ {α : Type} (L : List α) (h : L.length ≤ 300) : L.take 301 = L := List.take_of_length_le (by omega)
theorem qop (s : ByteArray) (n : Int) : Ev (fun k => qby.f k s n) (ansV s n) := by
 obtain ⟨K1, h1⟩ := qlm s n; dsimp only at h1; unfold ansV; by_cases hg : qiv s n = true
 ·obtain ⟨g1, g2, g3, g4, g5⟩ := qjr hg
  obtain ⟨K2, h2⟩ := pzFit_ev s g3 g2; obtain ⟨K3, h3⟩ := pzAll_ev s g3 g2 n.toNat (by omega); rw [show ((n.toNat : Nat) : Int) = n by omega] at h3; dsimp only at h2 h3; refine ⟨K1 + K2 + K3, fun k hk => ?_⟩
  simp (disch := omega) only [qby.f, h1, h2, h3, qaC, hg, if_true]
  by_cases c : (answers s n.toNat).length ≤ 300
  ·rw [if_neg (fun h => (qni _).1 h c), if_pos ⟨trivial, c⟩, qqZ _ c]
  ·rw [if_pos ((qni _).2 c), if_neg (fun h => c h.2)]
 ·have hf := Bool.eq_false_iff.2 hg
  rw [if_neg (fun h => hg h.1)]; refine ⟨K1, fun k hk => ?_⟩; simp only [qby.f, h1 k hk, qaC, hf, Bool.false_eq_true, if_false]
theorem qnE (s : ByteArray) (n : Int) : Ev (fun k => qda.f k s n) (ansV s n) := by
 unfold ansV; by_cases hg : qiv s n = true
 ·obtain ⟨g1, g2, g3, g4, g5⟩ := qjr hg
  obtain ⟨K3, h3⟩ := qlN s g3 g2 n.toNat 301 (by omega) (by omega); rw [show ((n.toNat : Nat) : Int) = n by omega] at h3; have h3 : ∀ k, K3 ≤ k → qcM.f k s n 301 = _ := h3; refine ⟨K3, fun k hk => ?_⟩
  simp (disch := omega) only [qda.f, qhf, h3, qaC, hg, if_true]
  by_cases c : (answers s n.toNat).length ≤ 300
  ·rw [if_neg (fun h => (qni _).1 h c), if_pos ⟨trivial, c⟩, qqZ _ c]
  ·rw [if_pos ((qni _).2 c), if_neg (fun h => c h.2)]
 ·have hf := Bool.eq_false_iff.2 hg
  rw [if_neg (fun h => hg h.1)]; refine ⟨0, fun k hk => ?_⟩; simp only [qda.f, qhf, qaC, hf, Bool.false_eq_true, if_false]
def ql4 (s : ByteArray) (n : Int) : List qac × Bool := if (ansV s n).2 = true ∧ (ansV s n).1 ≠ [] then (qeD (ansV s n).1 0, true) else ([], false)
theorem rdR_mem (L : List (List qac)) (h : L ≠ []) : qeD L 0 ∈ L := by
 cases L with
 | nil => exact absurd rfl h
 | cons x t => simp [qeD]
theorem qj7 (s : ByteArray) (n : Int) : Ev (fun k => qdk.f k s n) (ql4 s n) ∧ Ev (fun k => qc2.f k s n) (ql4 s n) := by
 obtain ⟨K1, h1⟩ := qop s n; obtain ⟨K2, h2⟩ := qnE s n; dsimp only at h1 h2; unfold ql4; constructor
 ·refine ⟨K1, fun k hk => ?_⟩
  simp only [qdk.f, h1 k hk, qaC]
  cases ansV s n with
  | mk L b => cases b <;> cases L <;> simp <;> omega
 ·refine ⟨K2, fun k hk => ?_⟩
  simp only [qc2.f, h2 k hk, qaC]
  cases ansV s n with
  | mk L b => cases b <;> cases L <;> simp <;> omega
def qoZ (s : ByteArray) (b : List UInt8) (n : Nat) : Prop := s.data.toList = b ++ [58, UInt8.ofNat (48 + n)] ∧ n ≤ 3 ∧ qiv ⟨b.toArray⟩ (n : Int) = true
theorem qqw {s : ByteArray} {n : Int} (h : qiv s n = true) : 1 ≤ s.size ∧ s.size ≤ 48 ∧ s.data.toList.all sign = true ∧ 0 ≤ n ∧ n ≤ 3 := by
 unfold qiv at h; simp only [Bool.and_eq_true, decide_eq_true_eq] at h; exact ⟨h.1, h.2.1, h.2.2.1, h.2.2.2.1, h.2.2.2.2⟩
theorem qtX (b : List UInt8) (h : b.all sign = true) : (58 : UInt8) ∉ b := fun hy => by
 have := List.all_eq_true.1 h _ hy; exact absurd this (by decide)
theorem digit_ne (n : Nat) (h : n ≤ 3) : UInt8.ofNat (48 + n) ≠ 58 := by
 have : n = 0 ∨ n = 1 ∨ n = 2 ∨ n = 3 := by omega
 rcases this with rfl | rfl | rfl | rfl <;> decide
theorem qrd (n : Nat) (h : n ≤ 3) : rdP [UInt8.ofNat (48 + n)] = some n := (qln _ n).2 ⟨by omega, (Lib.decDigits_one (by omega)).symm⟩
theorem qrC (n : Nat) (h : n ≤ 3) : Ev (fun k => qaW.f k (bs [UInt8.ofNat (48 + n)])) (n : Int) := by
 have h1 := qpX (bs [UInt8.ofNat (48 + n)]); rw [qgJ, qrd n h] at h1; exact h1
theorem spl_two {c : UInt8} {l p q : List UInt8} (h : spl c l = [p, q]) : l = p ++ c :: q := by
 rcases qh7 c l with hn | ⟨b, r, rfl, hb⟩
 ·rw [qf9 c l hn] at h; cases h
 ·rw [qhZ c b r hb] at h
  obtain ⟨rfl, h2⟩ := List.cons.inj h
  rcases qh7 c r with hn | ⟨b2, r2, rfl, hb2⟩
  ·rw [qf9 c r hn] at h2
   rw [(List.cons.inj h2).1]
  ·rw [qhZ c b2 r2 hb2] at h2
   exact absurd (List.cons.inj h2).2 (qj3 c r2)
theorem qnX {s : ByteArray} {b : List UInt8} {n : Nat} (h : qoZ s b n) : s.size = b.length + 2 ∧ 1 ≤ b.length ∧ b.length ≤ 48 ∧ b.all sign = true := by
 have h1 := congrArg List.length h.1; obtain ⟨g1, g2, g3, -, -⟩ := qqw h.2.2
 have e : (⟨b.toArray⟩ : ByteArray).size = b.length := by show b.toArray.size = b.length; simp
 have hl : s.data.toList.length = s.size := Array.length_toList; simp only [List.length_append, List.length_cons, List.length_nil] at h1; exact ⟨by omega, by omega, by omega, g3⟩
theorem qt1 {s : ByteArray} {b : List UInt8} {n : Nat} (h : qoZ s b n) : Ev (fun k => qaE.f k s) ((⟨b.toArray⟩ : ByteArray), (n : Int), true) := by
 obtain ⟨z1, z2, z3, z4⟩ := qnX h; obtain ⟨K1, h1⟩ := qkv 58 s (by omega); rw [h.1, qhZ 58 b _ (qtX b z4), qf9 58 _ (by rw [List.mem_singleton]; exact fun e => digit_ne n h.2.1 e.symm)] at h1; obtain ⟨K2, h2⟩ := qrC n h.2.1; obtain ⟨K3, h3⟩ := qlm ⟨b.toArray⟩ n; rw [h.2.2] at h3; dsimp only at h1 h2 h3; simp only [bas, List.map_cons, List.map_nil] at h1; have h1 : ∀ k, K1 ≤ k → qbj.f k s 58 = _ := h1; refine ⟨K1 + K2 + K3 + 1, fun k hk => ?_⟩
 obtain ⟨j, rfl⟩ : ∃ j, k = j + 1 := ⟨k - 1, by omega⟩
 simp only [qaE.f, h1 (j + 1) (by omega), qaC]; rw [if_neg (by omega)]; simp only [qaE.j0, List.length_cons, List.length_nil]; have e0 : qgE ByteArray.empty [(⟨b.toArray⟩ : ByteArray), (⟨[UInt8.ofNat (48 + n)].toArray⟩ : ByteArray)] 0 = ⟨b.toArray⟩ := rfl; have e1 : qgE ByteArray.empty [(⟨b.toArray⟩ : ByteArray), (⟨[UInt8.ofNat (48 + n)].toArray⟩ : ByteArray)] 1 = bs [UInt8.ofNat (48 + n)] := rfl; rw [if_neg (by decide), if_pos (by decide), if_pos (by decide), e0, e1, h2 j (by omega), qaC, h3 j (by omega), qaC, if_pos rfl]
theorem qt2 {s : ByteArray} (hz : s.size ≤ 1048576) (h : ∀ b n, ¬ qoZ s b n) : Ev (fun k => qaE.f k s) ((⟨#[]⟩ : ByteArray), (0 : Int), false) := by
 obtain ⟨K1, h1⟩ := qkv 58 s hz; have h1 : ∀ k, K1 ≤ k → qbj.f k s 58 = _ := h1; by_cases c1 : (s.size : Int) > 50
 ·refine ⟨K1 + 1, fun k hk => ?_⟩
  obtain ⟨j, rfl⟩ : ∃ j, k = j + 1 := ⟨k - 1, by omega⟩
  simp only [qaE.f, h1 (j + 1) (by omega), qaC]; rw [if_pos c1]; simp only [qaE.j0, if_true]
 ·by_cases c2 : (spl 58 s.data.toList).length = 2
  ·obtain ⟨p, q, hpq⟩ : ∃ p q, spl 58 s.data.toList = [p, q] := by
    match hm : spl 58 s.data.toList, c2 with
    | [p, q], _ => exact ⟨p, q, rfl⟩
   have hs := spl_two hpq; rw [hpq] at h1
   obtain ⟨n, ⟨K2, h2⟩, hn⟩ : ∃ n : Int, Ev (fun k => qaW.f k (bs q)) n ∧ ∀ m : Nat, n = (m : Int) → m ≤ 3 → q = [UInt8.ofNat (48 + m)] := by
    refine ⟨_, qpX (bs q), fun m hm h3 => ?_⟩; rw [qgJ] at hm
    cases hr : rdP q with
    | none => rw [hr] at hm; simp only [] at hm; omega
    | some v =>
     rw [hr] at hm; simp only [] at hm; rw [((qln q v).1 hr).2, show v = m by omega, Lib.decDigits_one (by omega)]
   obtain ⟨K3, h3⟩ := qlm ⟨p.toArray⟩ n; dsimp only at h2 h3
   have hf : qiv ⟨p.toArray⟩ n = false := by
    rw [Bool.eq_false_iff]; intro hg; obtain ⟨-, -, -, g4, g5⟩ := qqw hg; have hq := hn n.toNat (by omega) (by omega); refine h p n.toNat ⟨?_, by omega, by rw [show ((n.toNat : Nat) : Int) = n by omega]; exact hg⟩; rw [hs, show q = [UInt8.ofNat (48 + n.toNat)] from hq]
   rw [hf] at h3; refine ⟨K1 + K2 + K3 + 1, fun k hk => ?_⟩
   obtain ⟨j, rfl⟩ : ∃ j, k = j + 1 := ⟨k - 1, by omega⟩
   simp only [qaE.f, h1 (j + 1) (by omega), qaC, bas, List.map_cons, List.map_nil]; rw [if_neg c1]; simp only [qaE.j0, List.length_cons, List.length_nil]; have e0 : qgE ByteArray.empty [(⟨p.toArray⟩ : ByteArray), (⟨q.toArray⟩ : ByteArray)] 0 = ⟨p.toArray⟩ := rfl; have e1 : qgE ByteArray.empty [(⟨p.toArray⟩ : ByteArray), (⟨q.toArray⟩ : ByteArray)] 1 = bs q := rfl; rw [if_neg (by decide), if_pos (by decide), if_pos (by decide), e0, e1, h2 j (by omega), qaC, h3 j (by omega), qaC, if_neg (by decide)]
  ·refine ⟨K1 + 1, fun k hk => ?_⟩
   obtain ⟨j, rfl⟩ : ∃ j, k = j + 1 := ⟨k - 1, by omega⟩
   simp only [qaE.f, h1 (j + 1) (by omega), qaC, bas, List.length_map]; rw [if_neg c1, bne_iff_ne.2 (by omega)]; simp only [qaE.j0, if_true]
theorem itoa_ok (n : Int) (h0 : 0 ≤ n) (h1 : n ≤ 3) : strconv_Itoa.f n = some ⟨#[UInt8.ofNat (48 + n.toNat)]⟩ := by
 have e : strconv_Itoa.f n = some ⟨(Lib.decDigits n.toNat).toArray⟩ := by unfold strconv_Itoa.f; rw [if_pos (by omega)]
 rw [Lib.decDigits_one (by omega)] at e; exact e
theorem qt5 (b : ByteArray) (n : Int) (hg : qiv b n = true) : ∃ t, qbP.f b n = some t ∧ t.data.toList = b.data.toList ++ [58, UInt8.ofNat (48 + n.toNat)] := by
 obtain ⟨g1, g2, -, g4, g5⟩ := qqw hg
 have e1 : (b ++ (⟨#[58]⟩ : ByteArray)).size = b.size + 1 := by rw [ByteArray.size_append]; rfl
 refine ⟨(b ++ (⟨#[58]⟩ : ByteArray)) ++ ⟨#[UInt8.ofNat (48 + n.toNat)]⟩, ?_, by simp [ByteArray.data_append]⟩; have e2 : (⟨#[UInt8.ofNat (48 + n.toNat)]⟩ : ByteArray).size = 1 := rfl; simp only [qbP.f, itoa_ok n g4 g5, qaC]; rw [if_pos (by omega), if_pos (by rw [e1, e2]; omega)]
theorem qtx {s : ByteArray} {b : List UInt8} {n : Nat} (h : qoZ s b n) : qcd.f s = some ((⟨b.toArray⟩ : ByteArray), (n : Int), true) := by
 obtain ⟨z1, z2, z3, z4⟩ := qnX h; obtain ⟨t, ht, hl⟩ := qt5 ⟨b.toArray⟩ n h.2.2
 have hc : Lib.cut s.data.toList [58] = (b, [UInt8.ofNat (48 + n)], true) := by
  rw [h.1]; exact qmU 58 b _ (qtX b z4)
 have ha : Lib.atoiAll [UInt8.ofNat (48 + n)] = .ok (n : Int) := by
  have hn := h.2.1
  have : n = 0 ∨ n = 1 ∨ n = 2 ∨ n = 3 := by omega
  rcases this with rfl | rfl | rfl | rfl <;> rfl
 have hts : t.toList = s.toList := by
  rw [ByteArray.toList_eq, ByteArray.toList_eq, hl, h.1, Int.toNat_natCast]
 unfold qcd.f; rw [if_pos (by omega), hc]; simp only [ha]; rw [qhf, h.2.2, qaC, if_pos rfl, ht, qaC, if_pos hts]
theorem qty {s : ByteArray} (hz : s.size ≤ 1048576) (h : ∀ b n, ¬ qoZ s b n) : qcd.f s = some ((⟨#[]⟩ : ByteArray), (0 : Int), false) := by
 unfold qcd.f; rw [if_pos hz]
 obtain ⟨c, hc⟩ : ∃ c, c = Lib.cut s.data.toList [58] := ⟨_, rfl⟩
 rw [← hc]
 cases ha : Lib.atoiAll c.2.1 with
 | ok v =>
  simp only []; rw [qhf, qaC]; by_cases hg : qiv ⟨c.1.toArray⟩ v = true
  ·obtain ⟨t, ht, hl⟩ := qt5 ⟨c.1.toArray⟩ v hg
   obtain ⟨-, -, -, g4, g5⟩ := qqw hg; rw [if_pos hg, ht, qaC]
   have hne : ¬ t.toList = s.toList := by
    intro he; rw [ByteArray.toList_eq, ByteArray.toList_eq] at he; refine h c.1 v.toNat ⟨?_, by omega, by rw [show ((v.toNat : Nat) : Int) = v by omega]; exact hg⟩; rw [← he, hl]
   rw [if_neg hne]
  ·rw [if_neg hg]
 | _ => rfl
theorem qka (s : ByteArray) (hz : s.size ≤ 1048576) : ∃ v : ByteArray × Int × Bool, Ev (fun k => qaE.f k s) v ∧ qcd.f s = some v := by
 by_cases h : ∃ b n, qoZ s b n
 ·obtain ⟨b, n, h⟩ := h
  exact ⟨_, qt1 h, qtx h⟩
 ·have h : ∀ b n, ¬ qoZ s b n := fun b n hp => h ⟨b, n, hp⟩
  exact ⟨_, qt2 hz h, qty hz h⟩
theorem qpn (s : ByteArray) (n : Int) : qaJ (ql4 s n).1 = true := by
 unfold ql4; split
 ·next h =>
  have hm := rdR_mem _ h.2; unfold ansV at hm ⊢; split at hm
  ·next h2 =>
   rw [if_pos h2]; obtain ⟨h3, h4⟩ := qo7 s n.toNat _ hm; have := qjr h2.1; unfold qaJ; rw [Bool.and_eq_true, decide_eq_true_eq]; exact ⟨show (qeD (answers s n.toNat) 0).length ≤ 12 by have h3 : (qeD (answers s n.toNat) 0).length = n.toNat := h3; omega, List.all_eq_true.2 fun r hr => (qkS s r (h4 r hr)).1⟩
  ·simp at hm
 ·rfl
section
open Lib
def Both (f g : Nat → Option (List qac × Int × ByteArray)) : Prop := ∃ v : List qac × Int × ByteArray, qaJ v.1 = true ∧ qeI v.2.1 = true ∧ Ev f v ∧ Ev g v
theorem Both.of {f g f' g' : Nat → Option (List qac × Int × ByteArray)} (h : Both f g) (K : Nat) (hf : ∀ k, K ≤ k → f' k = f k) (hg : ∀ k, K ≤ k → g' k = g k) : Both f' g' := by
 obtain ⟨v, h1, h2, ⟨K1, h3⟩, ⟨K2, h4⟩⟩ := h; exact ⟨v, h1, h2, ⟨K + K1, fun k hk => by rw [hf k (by omega)]; exact h3 k (by omega)⟩, ⟨K + K2, fun k hk => by rw [hg k (by omega)]; exact h4 k (by omega)⟩⟩
theorem qfS {rs : List qac} {mo : Int} (hg : qaJ rs = true) (hm : qeI mo = true) (z : ByteArray) : Both (fun _ => some (rs, mo, z)) (fun _ => some (rs, mo, z)) := ⟨(rs, mo, z), hg, hm, ⟨0, fun _ _ => rfl⟩, ⟨0, fun _ _ => rfl⟩⟩
theorem qiT {rs : List qac} {mo : Int} (hg : qaJ rs = true) (hm : qeI mo = true) {f g : Nat → Option (Int × Bool)} (h : Num2 f g) : Both (fun k => (f k).bind fun q => (qbm.f q.1).bind fun s => (qb2.f s q.2).bind fun z => some (rs, mo, z)) (fun k => ((g k).bind fun q => qcH.f k q.1 q.2).bind fun z => some (rs, mo, z)) := by
 obtain ⟨v, ok, hv, ⟨K1, h1⟩, ⟨K2, h2⟩⟩ := h; obtain ⟨K3, h3⟩ := int_ev v hv
 cases ok with
 | true =>
  refine ⟨(rs, mo, bs (decDigits v)), hg, hm, ⟨K1, fun k hk => ?_⟩, ⟨K2 + K3, fun k hk => ?_⟩⟩
  ·show (f k).bind _ = _
   rw [h1 k hk, qaC, qm2 v hv]; rfl
  ·have h3 := h3 k (by omega)
   dsimp only at h3
   show ((g k).bind _).bind _ = _
   rw [h2 k (by omega), qaC]; unfold qcH.f; rw [if_pos rfl, h3]; rfl
 | false =>
  refine ⟨(rs, mo, ⟨#[110, 111]⟩), hg, hm, ⟨K1, fun k hk => ?_⟩, ⟨K2, fun k hk => ?_⟩⟩
  ·show (f k).bind _ = _
   rw [h1 k hk, qaC, qm2 v hv]; rfl
  ·show ((g k).bind _).bind _ = _
   rw [h2 k hk]; rfl
theorem qiS {rs : List qac} {mo : Int} (hg : qaJ rs = true) (hm : qeI mo = true) {f g : Nat → Option (List Int × Bool)} (h : List2 f g) : Both (fun k => (f k).bind fun q => (qbq.f k q.1).bind fun s => (qb2.f s q.2).bind fun z => some (rs, mo, z)) (fun k => ((g k).bind fun q => qdL.f k q.1 q.2).bind fun z => some (rs, mo, z)) := by
 obtain ⟨L, ok, hs, ⟨K1, h1⟩, ⟨K2, h2⟩⟩ := h; obtain ⟨K3, h3⟩ := qle L hs; obtain ⟨K4, h4⟩ := qnN L hs
 cases ok with
 | true =>
  refine ⟨(rs, mo, LT L), hg, hm, ⟨K1 + K3, fun k hk => ?_⟩, ⟨K2 + K4, fun k hk => ?_⟩⟩
  ·have h3 := h3 k (by omega)
   dsimp only at h3
   show (f k).bind _ = _
   rw [h1 k (by omega), qaC, h3]; rfl
  ·have h4 := h4 k (by omega)
   dsimp only at h4
   show ((g k).bind _).bind _ = _
   rw [h2 k (by omega), qaC]; unfold qdL.f; rw [if_pos rfl, h4]; rfl
 | false =>
  refine ⟨(rs, mo, ⟨#[110, 111]⟩), hg, hm, ⟨K1 + K3, fun k hk => ?_⟩, ⟨K2, fun k hk => ?_⟩⟩
  ·have h3 := h3 k (by omega)
   dsimp only at h3
   show (f k).bind _ = _
   rw [h1 k (by omega), qaC, h3]; rfl
  ·show ((g k).bind _).bind _ = _
   rw [h2 k hk]; rfl
theorem qsg {rs : List qac} {mo : Int} (hg : qaJ rs = true) (hm : qeI mo = true) (n : Nat) (hn : n ≤ 999999) : Both (fun k => (qcL.f k (n : Int)).bind fun q => (qbT.f k q.1).bind fun s => (qb2.f s q.2).bind fun z => some (rs, mo, z)) (fun k => ((qcN.f k (n : Int)).bind fun q => qcn.f k q.1 q.2).bind fun z => some (rs, mo, z)) := by
 obtain ⟨L, ok, hs, ⟨K1, h1⟩, ⟨K2, h2⟩⟩ := qnt n hn; obtain ⟨K3, h3⟩ := qoh L hs; obtain ⟨K4, h4⟩ := qsp L hs
 cases ok with
 | true =>
  refine ⟨(rs, mo, ST L), hg, hm, ⟨K1 + K3, fun k hk => ?_⟩, ⟨K2 + K4, fun k hk => ?_⟩⟩
  ·have h1 := h1 k (by omega)
   have h3 := h3 k (by omega); dsimp only at h1 h3
   show (qcL.f k n).bind _ = _
   rw [h1, qaC, h3]; rfl
  ·have h2 := h2 k (by omega)
   have h4 := h4 k (by omega); dsimp only at h2 h4
   show ((qcN.f k n).bind _).bind _ = _
   rw [h2, qaC, h4]; rfl
 | false =>
  refine ⟨(rs, mo, ⟨#[110, 111]⟩), hg, hm, ⟨K1 + K3, fun k hk => ?_⟩, ⟨K2, fun k hk => ?_⟩⟩
  ·have h1 := h1 k (by omega)
   have h3 := h3 k (by omega); dsimp only at h1 h3
   show (qcL.f k n).bind _ = _
   rw [h1, qaC, h3]; rfl
  ·have h2 := h2 k (by omega)
   dsimp only at h2
   show ((qcN.f k n).bind _).bind _ = _
   rw [h2]; rfl
theorem qiU {rs : List qac} {mo : Int} (hg : qaJ rs = true) (hm : qeI mo = true) (xs : List qac) (ok : Bool) (hx : ok = true → qaJ xs = true) : Both (fun k => (qfg k rs xs ok).bind fun p => some (p.1, mo, p.2)) (fun k => (qjp k rs xs ok).bind fun p => some (p.1, mo, p.2)) := by
 cases ok with
 | true =>
  obtain ⟨K1, h1⟩ := qfY xs (hx rfl); obtain ⟨K2, h2⟩ := qjm xs (hx rfl); refine ⟨(xs, mo, RT xs), hx rfl, hm, ⟨K1, fun k hk => ?_⟩, ⟨K2, fun k hk => ?_⟩⟩
  ·have h1 := h1 k hk
   dsimp only at h1
   show (qfg k rs xs true).bind _ = _
   unfold qfg; rw [if_pos rfl, qdv, qaC, hx rfl, if_pos rfl, h1]; rfl
  ·have h2 := h2 k hk
   dsimp only at h2
   show (qjp k rs xs true).bind _ = _
   unfold qjp; rw [h2]; rfl
 | false => exact ⟨(rs, mo, ⟨#[110, 111]⟩), hg, hm, ⟨0, fun k hk => rfl⟩, ⟨0, fun k hk => rfl⟩⟩
theorem qh1 {rs : List qac} {mo : Int} (hg : qaJ rs = true) (hm : qeI mo = true) {f g : Nat → Option (List qac × Bool)} (h : ∃ v : List qac × Bool, (v.2 = true → qaJ v.1 = true) ∧ Ev f v ∧ Ev g v) : Both (fun k => (f k).bind fun q => (qfg k rs q.1 q.2).bind fun p => some (p.1, mo, p.2)) (fun k => (g k).bind fun q => (qjp k rs q.1 q.2).bind fun p => some (p.1, mo, p.2)) := by
 obtain ⟨v, hv, ⟨K1, h1⟩, ⟨K2, h2⟩⟩ := h; refine (qiU hg hm v.1 v.2 hv).of (K1 + K2) (fun k hk => ?_) (fun k hk => ?_)
 ·rw [h1 k (by omega)]; rfl
 ·rw [h2 k (by omega)]; rfl
theorem qnG {rs : List qac} (hg : qaJ rs = true) (mo' : Int) (hm' : qeI mo' = true) : Both (fun k => (qaH.f k rs).bind fun s => some (rs, mo', s)) (fun k => (qck.f k rs true).bind fun s => some (rs, mo', s)) := by
 obtain ⟨K1, h1⟩ := qfY rs hg; obtain ⟨K2, h2⟩ := qjm rs hg; refine ⟨(rs, mo', RT rs), hg, hm', ⟨K1, fun k hk => ?_⟩, ⟨K2, fun k hk => ?_⟩⟩
 ·have h1 := h1 k hk
  dsimp only at h1
  show (qaH.f k rs).bind _ = _
  rw [h1]; rfl
 ·have h2 := h2 k hk
  dsimp only at h2
  show (qck.f k rs true).bind _ = _
  rw [h2]; rfl
def qrH (k : Nat) (rs : List qac) (mo : Int) (c : Cmd) (lr : List qac) (tx : ByteArray) (n : Int) : Option (List qac × Int × ByteArray) := if c.moves = true then qdK.f k rs mo lr n c else (qgZ.f k rs mo tx n c).bind fun z => some (rs, mo, z)
theorem left2 {rs : List qac} {mo : Int} (hg : qaJ rs = true) (hm : qeI mo = true) : List2 (fun k => (qaD.f k rs 1 mo).bind fun l => some (l, true)) (fun k => qeE.f k rs mo) ∧ Num2 (fun k => (qaD.f k rs 1 mo).bind fun l => some ((l.length : Int), true)) (fun k => qem.f k rs mo) := by
 obtain ⟨hl, ha⟩ := qb5 hg; have hm2 := hm; unfold qeI at hm2; rw [Bool.and_eq_true, decide_eq_true_eq, decide_eq_true_eq] at hm2; obtain ⟨K1, h1⟩ := qig rs ha 1 mo (by omega) (by omega) (by omega); obtain ⟨K2, h2⟩ := qtU rs hl ha mo hm2.1 hm2.2; obtain ⟨K3, h3⟩ := qtV rs mo; rw [hg, hm, Bool.and_self] at h3
 have hb : ∀ x ∈ qgO rs 1 mo, 0 ≤ x ∧ x ≤ 10000000 := fun x hx => by have := (qfc rs _ 1 x).1 hx; omega
 have hlen := qlK rs 1 mo; have hc := qst (qgO rs 1 mo) (fun x hx => (hb x hx).1); refine ⟨⟨(qgO rs 1 mo).map Int.toNat, true, qtY hb (by omega), ?_, ?_⟩, ⟨(qgO rs 1 mo).length, true, by omega, ?_, ?_⟩⟩
 ·rw [hc]
  refine ⟨K1, fun k hk => ?_⟩; have h1 := h1 k hk; dsimp only at h1
  show (qaD.f k rs 1 mo).bind _ = _
  rw [h1]; rfl
 ·rw [hc]
  refine ⟨K2 + K3, fun k hk => ?_⟩; have h2 := h2 k (by omega); have h3 := h3 k (by omega); dsimp only at h2 h3
  show qeE.f k rs mo = _
  unfold qeE.f; rw [h3, qaC, if_pos rfl, h2]; rfl
 ·refine ⟨K1, fun k hk => ?_⟩
  have h1 := h1 k hk; dsimp only at h1
  show (qaD.f k rs 1 mo).bind _ = _
  rw [h1]; rfl
 ·refine ⟨K2 + K3, fun k hk => ?_⟩
  have h2 := h2 k (by omega); have h3 := h3 k (by omega); dsimp only at h2 h3
  show qem.f k rs mo = _
  unfold qem.f; rw [h3, qaC, if_pos rfl, h2]; rfl
theorem period2 {rs : List qac} (hg : qaJ rs = true) : Num2 (fun k => qcf.f k rs) (fun k => qcF.f k rs) := by
 obtain ⟨K1, h1⟩ := qiG rs; obtain ⟨K2, h2⟩ := qiI rs hg; obtain ⟨K3, h3⟩ := qfd rs; rw [hg] at h3
 cases hp : period rs with
 | none =>
  rw [hp] at h1 h2; refine ⟨0, false, by omega, ⟨K1, h1⟩, ⟨K2 + K3, fun k hk => ?_⟩⟩; have h2 := h2 k (by omega); have h3 := h3 k (by omega); dsimp only at h2 h3
  show qcF.f k rs = _
  unfold qcF.f; rw [h3, qaC, if_pos rfl, h2]; rfl
 | some q =>
  rw [hp] at h1 h2; obtain ⟨-, q0, q1⟩ := qfP hp; refine ⟨q, true, by omega, ⟨K1, h1⟩, ⟨K2 + K3, fun k hk => ?_⟩⟩; have h2 := h2 k (by omega); have h3 := h3 k (by omega); dsimp only at h2 h3
  show qcF.f k rs = _
  unfold qcF.f; rw [h3, qaC, if_pos rfl, h2, qaC, if_neg (by omega), qaC]
theorem qrA {rs : List qac} {mo : Int} (hg : qaJ rs = true) (hm : qeI mo = true) (c : Cmd) (hk : c.kind = []) : Both (fun k => qgd.f k rs mo c) (fun k => qrH k rs mo c [] ⟨#[]⟩ 0) := by
 cases c with
 | cMirror => exact qh1 hg hm ⟨_, fun _ => qqv (fun _ => qoE _) hg, qoW rs hg⟩
 | cTidy => exact qh1 hg hm (qrW rs hg)
 | cShow => exact qnG hg mo hm
 | cLeft =>
  refine (qiS hg hm (left2 hg hm).1).of 0 (fun k _ => ?_) (fun k _ => rfl)
  show (qaD.f k rs 1 mo).bind _ = ((qaD.f k rs 1 mo).bind _).bind _
  cases qaD.f k rs 1 mo <;> rfl
 | cCount =>
  refine (qiT hg hm (left2 hg hm).2).of 0 (fun k _ => ?_) (fun k _ => rfl)
  show (qaD.f k rs 1 mo).bind _ = ((qaD.f k rs 1 mo).bind _).bind _
  cases qaD.f k rs 1 mo with
  | none => rfl
  | some l =>
   show (qbm.f (l.length : Int)).bind _ = (qbm.f (l.length : Int)).bind _
   cases qbm.f (l.length : Int) <;> rfl
 | cPeriod => exact qiT hg hm (period2 hg)
 | cSpokes => exact qiS hg hm (qo3 rs hg)
 | cSteps => exact qiS hg hm (qq7 rs hg)
 | _ => cases hk
theorem qon {rs : List qac} {mo : Int} (hg : qaJ rs = true) (hm : qeI mo = true) (n : Int) : Both (fun k => (qdA.f k rs n).bind fun q => (qb2.f q.1 q.2).bind fun z => some (rs, mo, z)) (fun k => ((qa0.f k rs n).bind fun q => if q.2 = true then some q.1 else some (⟨#[110, 111]⟩ : ByteArray)).bind fun z => some (rs, mo, z)) := by
 obtain ⟨⟨K1, h1⟩, ⟨K2, h2⟩⟩ := qlF rs n
 obtain ⟨v, hv⟩ : ∃ v, v = qqP rs n := ⟨_, rfl⟩
 rw [← hv] at h1 h2; refine ⟨(rs, mo, if v.2 = true then v.1 else ⟨#[110, 111]⟩), hg, hm, ⟨K2, fun k hk => ?_⟩, ⟨K1, fun k hk => ?_⟩⟩
 ·have h2 := h2 k hk
  dsimp only at h2
  show (qdA.f k rs n).bind _ = _
  rw [h2, qaC]; unfold qb2.f
  split <;> rfl
 ·have h1 := h1 k hk
  dsimp only at h1
  show ((qa0.f k rs n).bind _).bind _ = _
  rw [h1, qaC]
  split <;> rfl
theorem qm7 {rs : List qac} {mo : Int} (hg : qaJ rs = true) (hm : qeI mo = true) (c : Cmd) (hk : c.kind = [110]) (n : Nat) (hn : n ≤ 999999) : Both (fun k => qcm.f k rs mo c (n : Int)) (fun k => qrH k rs mo c [] ⟨#[]⟩ (n : Int)) := by
 obtain ⟨hl, ha⟩ := qb5 hg
 cases c with
 | cDrop =>
  by_cases c : n < rs.length
  ·refine (qiU hg hm (rs.eraseIdx n) true (fun _ => qjq hg n)).of 0 (fun k _ => ?_) (fun k _ => ?_)
   ·show qcm.f k rs mo .cDrop n = _
    unfold qcm.f; dsimp only; rw [if_neg (by omega), qkO rs n c hl, qaC]
   ·show qdK.f k rs mo [] n .cDrop = _
    unfold qdK.f; dsimp only; rw [if_neg (by omega), qjF hl n c, qaC]
  ·refine (qfS hg hm ⟨#[110, 111]⟩).of 0 (fun k _ => ?_) (fun k _ => ?_)
   ·show qcm.f k rs mo .cDrop n = _
    unfold qcm.f; dsimp only; rw [if_pos (by omega)]
   ·show qdK.f k rs mo [] n .cDrop = _
    unfold qdK.f; dsimp only; rw [if_pos (by omega)]
 | cMost =>
  have e1 := qtA (n : Int)
  have e2 : qfk.f (n : Int) = some (qeI (n : Int)) := by unfold qfk.f; rw [qd6]; rfl
  cases hq : qeI (n : Int) with
  | true =>
   refine (qnG hg (n : Int) hq).of 0 (fun k _ => ?_) (fun k _ => ?_)
   ·show qcm.f k rs mo .cMost n = _
    unfold qcm.f; dsimp only; rw [e1, qaC, hq, if_pos rfl]
   ·show qdK.f k rs mo [] n .cMost = _
    unfold qdK.f; dsimp only; rw [e2, qaC, hq, if_pos rfl]
  | false =>
   refine (qfS hg hm ⟨#[110, 111]⟩).of 0 (fun k _ => ?_) (fun k _ => ?_)
   ·show qcm.f k rs mo .cMost n = _
    unfold qcm.f; dsimp only; rw [e1, qaC, hq, if_neg (by decide)]
   ·show qdK.f k rs mo [] n .cMost = _
    unfold qdK.f; dsimp only; rw [e2, qaC, hq, if_neg (by decide)]
 | cMove => exact qh1 hg hm ⟨_, fun h => by
   unfold vMove at h ⊢; split
   ·exact qqv (fun _ => qoE _) hg
   ·rfl, qr2 rs n⟩
 | cPrimes => exact qh1 hg hm (qo0 n)
 | cRank => exact qiT hg hm (qr7 rs hg n hn)
 | cFactors => exact qsg hg hm n hn
 | cPi => exact qiT hg hm (qq3 n hn)
 | cDivisors => exact qiS hg hm (qmC n hn)
 | cTotient => exact qiT hg hm (qnC n hn)
 | cPattern => exact qon hg hm n
 | _ => cases hk
def qtw (k : Nat) (rs : List qac) (mo : Int) (c : Cmd) (y : ByteArray) : Option (List qac × Int × ByteArray) := (qaV.f k y).bind fun q => if q.2 = true then ((if c.bytes = [97, 100, 100] then (if rs.length + q.1.length < 8796093022208 then some (rs ++ q.1) else none) else some q.1).bind fun xs => (qfg k rs xs true).bind fun p => some (p.1, mo, p.2)) else some (rs, mo, (⟨#[119, 104, 97, 116]⟩ : ByteArray))
def qt0 (k : Nat) (rs : List qac) (mo : Int) (c : Cmd) (y : ByteArray) : Option (List qac × Int × ByteArray) := (qbB.f k y).bind fun q => if q.2 = true then qrH k rs mo c q.1 ⟨#[]⟩ 0 else some (rs, mo, (⟨#[119, 104, 97, 116]⟩ : ByteArray))
theorem qrE {rs : List qac} {mo : Int} (hg : qaJ rs = true) (hm : qeI mo = true) (c : Cmd) (hk : c.kind = [114]) (y : ByteArray) (hy : y.size ≤ 1048576) : Both (fun k => qtw k rs mo c y) (fun k => qt0 k rs mo c y) := by
 obtain ⟨⟨lr, ok⟩, ⟨K1, h1⟩, ⟨K2, h2⟩, hv⟩ := qkD y hy; have i1 : ∀ k, K2 ≤ k → qaV.f k y = some (lr, ok) := h2; have i2 : ∀ k, K1 ≤ k → qbB.f k y = some (lr, ok) := h1
 cases ok with
 | false =>
  refine (qfS hg hm ⟨#[119, 104, 97, 116]⟩).of (K1 + K2) (fun k hk => ?_) (fun k hk => ?_)
  ·unfold qtw; rw [i1 k (by omega)]; rfl
  ·unfold qt0; rw [i2 k (by omega)]; rfl
 | true =>
  have hlr : qaJ lr = true := hv rfl; obtain ⟨hl, ha⟩ := qb5 hg; obtain ⟨hl2, ha2⟩ := qb5 hlr
  cases c with
  | cRules =>
   refine (qiU hg hm lr true (fun _ => hlr)).of (K1 + K2) (fun k hk => ?_) (fun k hk => ?_)
   ·unfold qtw; rw [i1 k (by omega)]; rfl
   ·unfold qt0; rw [i2 k (by omega)]; rfl
  | cAdd =>
   have hq : qaJ (rs ++ lr) = decide (((rs ++ lr).length : Int) ≤ 12) := by
    unfold qaJ; rw [List.all_append, ha, ha2, Bool.and_true, Bool.and_true, decide_eq_decide]; omega
   refine (qiU hg hm (rs ++ lr) (decide (((rs ++ lr).length : Int) ≤ 12)) (fun h => by rw [hq]; exact h)).of (K1 + K2) (fun k hk => ?_) (fun k hk => ?_)
   ·unfold qtw
    rw [i1 k (by omega), qaC, if_pos rfl, if_pos (show Cmd.cAdd.bytes = [97, 100, 100] from rfl), if_pos (show rs.length + lr.length < 8796093022208 by omega), qaC, ← hq]
    cases hgg : qaJ (rs ++ lr) with
    | true => rfl
    | false =>
     unfold qfg; rw [if_pos rfl, qdv, qaC, hgg]; rfl
   ·unfold qt0
    rw [i2 k (by omega), qaC, if_pos rfl]; unfold qrH; rw [if_pos (show Cmd.cAdd.moves = true from rfl)]; unfold qdK.f; dsimp only; rw [if_pos (show rs.length + lr.length < 8796093022208 by omega)]
  | _ => cases hk
def implP (k : Nat) (rs : List qac) (mo : Int) (y : ByteArray) : Option (List qac × Int × ByteArray) := (qcd.f y).bind fun q => if q.2.2 = true then ((qc2.f k q.1 q.2.1).bind fun u => (qaH.f k u.1).bind fun z => (qb2.f z u.2).bind fun z => some (rs, mo, z)) else some (rs, mo, (⟨#[110, 111]⟩ : ByteArray))
theorem qo5 {rs : List qac} {mo : Int} (hg : qaJ rs = true) (hm : qeI mo = true) (y : ByteArray) (hy : y.size ≤ 1048576) : Both (fun k => implP k rs mo y) (fun k => qrH k rs mo .cAnswer [] y 0) := by
 obtain ⟨⟨p, n, ok⟩, ⟨K1, h1⟩, h2⟩ := qka y hy; have i1 : ∀ k, K1 ≤ k → qaE.f k y = some (p, n, ok) := h1
 have hst : ∀ k, qrH k rs mo .cAnswer [] y 0 = (((qaE.f k y).bind fun q => if q.2.2 = true then ((qdk.f k q.1 q.2.1).bind fun u => qck.f k u.1 u.2) else some (⟨#[110, 111]⟩ : ByteArray))).bind fun z => some (rs, mo, z) := fun k => rfl
 cases ok with
 | false =>
  refine (qfS hg hm ⟨#[110, 111]⟩).of K1 (fun k hk => ?_) (fun k hk => ?_)
  ·unfold implP; rw [h2]; rfl
  ·rw [hst, i1 k hk]; rfl
 | true =>
  obtain ⟨⟨K3, h3⟩, ⟨K4, h4⟩⟩ := qj7 p n; have hgood := qpn p n
  obtain ⟨v, hv⟩ : ∃ v, v = ql4 p n := ⟨_, rfl⟩
  rw [← hv] at h3 h4 hgood; obtain ⟨K5, h5⟩ := qfY v.1 hgood; obtain ⟨K6, h6⟩ := qjm v.1 hgood; have i3 : ∀ k, K3 ≤ k → qdk.f k p n = some v := h3; have i4 : ∀ k, K4 ≤ k → qc2.f k p n = some v := h4; have i5 : ∀ k, K5 ≤ k → qaH.f k v.1 = some (RT v.1) := h5; have i6 : ∀ k, K6 ≤ k → qck.f k v.1 true = some (RT v.1) := h6; refine (qfS hg hm (if v.2 = true then RT v.1 else ⟨#[110, 111]⟩)).of (K1 + K3 + K4 + K5 + K6) (fun k hk => ?_) (fun k hk => ?_)
  ·unfold implP
   rw [h2, qaC, if_pos rfl, i4 k (by omega), qaC, i5 k (by omega), qaC]; unfold qb2.f
   split <;> rfl
  ·rw [hst, i1 k (by omega), qaC, if_pos rfl, i3 k (by omega), qaC]
   cases v.2 with
   | true => rw [i6 k (by omega)]; rfl
   | false => rfl
end
theorem qoB {s : ByteArray} {c : UInt8} (hs : s.size ≤ 1048576) : (bas (spl c s.data.toList)).length ≤ 1048577 ∧ ∀ y ∈ bas (spl c s.data.toList), y.size ≤ s.size := by
 have hl : s.data.toList.length = s.size := Array.length_toList; constructor
 ·unfold bas
  rw [List.length_map, qmy]; have := List.count_le_length (a := c) (l := s.data.toList); omega
 ·intro y hy
  obtain ⟨p, hp, rfl⟩ := List.mem_map.1 hy; have := (qnf c _ p hp).2
  show (bs p).size ≤ s.size
  rw [qdb]; omega
def qh4 (k : Nat) (rs : List qac) (mo : Int) (c : Cmd) (t : List ByteArray) : Option (List qac × Int × ByteArray) := if t.length = c.kind.length then (match c.kind, t with
    | [], _ => qgd.f k rs mo c
    | 110 :: _, y :: _ => (match numOf y with | none => some (rs, mo, (⟨#[119, 104, 97, 116]⟩ : ByteArray)) | some n => qcm.f k rs mo c n)
    | 114 :: _, y :: _ => qtw k rs mo c y
    | _, y :: _ => implP k rs mo y
    | _, [] => none) else some (rs, mo, (⟨#[119, 104, 97, 116]⟩ : ByteArray))
theorem qtz {s x : ByteArray} {t : List ByteArray} {c : Cmd} {rs : List qac} (mo : Int) (hs : s.size ≤ 1048576) (hr : rs.length < 8796093022208) (hw : qgQ 32 s = x :: t) (hc : qhO x = some c) (k : Nat) : qfz.f k rs mo s = qh4 k rs mo c t := by
 unfold qfz.f; rw [if_pos ⟨hs, hr⟩, hw]; dsimp only; rw [hc]; rfl
theorem qt3 {s x : ByteArray} {t : List ByteArray} {c : Cmd} {rs : List qac} (mo : Int) (hr : rs.length < 8796093022208) (k : Nat) (hw : qbj.f k s 32 = some (x :: t)) (hl : (x :: t).length ≤ 1048577) (hc : qhO x = some c) : qen.f k rs mo s = (qhP k c t).bind fun r => match r with
 | none => some (rs, mo, (⟨#[119, 104, 97, 116]⟩ : ByteArray))
 | some (c, lr, tx, n) => if c.moves = true then qdK.f k rs mo lr n c else (qgZ.f k rs mo tx n c).bind fun z => some (rs, mo, z) := by
 unfold qen.f qgv.f; rw [if_pos hr, hw, qaC, if_pos hl]; dsimp only; rw [hc]; rfl
theorem qtG {rs : List qac} {mo : Int} (hg : qaJ rs = true) (hm : qeI mo = true) (s : ByteArray) (hs : s.size ≤ 1048576) : Both (fun k => qfz.f k rs mo s) (fun k => qen.f k rs mo s) := by
 have hr : rs.length < 8796093022208 := by have := (qb5 hg).1; omega
 obtain ⟨K, hsp⟩ := qkv 32 s hs; have hsp : ∀ k, K ≤ k → qbj.f k s 32 = some (bas (spl 32 s.data.toList)) := hsp; have hw := qiM 32 s; obtain ⟨hl, hb⟩ := qoB (c := 32) hs
 generalize bas (spl 32 s.data.toList) = ws at hsp hw hl hb
 cases ws with
 | nil =>
  exfalso
  rw [qiM] at hw; exact qj3 32 s.data.toList (by unfold bas at hw; exact List.map_eq_nil_iff.1 hw)
 | cons x t =>
  cases hc : qhO x with
  | none =>
   refine (qfS hg hm ⟨#[119, 104, 97, 116]⟩).of K (fun k hk => ?_) (fun k hk => ?_)
   ·unfold qfz.f
    rw [if_pos ⟨hs, hr⟩, hw]; dsimp only; rw [hc]
   ·unfold qen.f qgv.f
    rw [if_pos hr, hsp k hk, qaC, if_pos hl]; dsimp only; rw [hc, qaC]
  | some c =>
   have hi := fun k => qtz mo hs hr hw hc k
   have hq := fun k (hk : K ≤ k) => qt3 mo hr k (hsp k hk) hl hc
   by_cases htl : t.length = c.kind.length
   ·rcases Cmd.kinds c with hkd | hkd | hkd | hkd
    ·rw [hkd] at htl
     obtain rfl := List.length_eq_zero_iff.1 htl; refine (qrA hg hm c hkd).of K (fun k hk => ?_) (fun k hk => ?_)
     ·rw [hi]; unfold qh4; rw [hkd]; rfl
     ·rw [hq k hk]; unfold qhP; rw [hkd]; rfl
    ·rw [hkd] at htl
     obtain ⟨y, rfl⟩ := List.length_eq_one_iff.1 htl; have hn := numOf_eq y; obtain ⟨K2, h2⟩ := qpX y
     cases hrd : rdP y.data.toList with
     | none =>
      rw [hrd] at hn h2; have h2 : ∀ k, K2 ≤ k → qaW.f k y = some (-1) := h2; refine (qfS hg hm ⟨#[119, 104, 97, 116]⟩).of (K + K2) (fun k hk => ?_) (fun k hk => ?_)
      ·rw [hi]; unfold qh4; rw [hkd]; show (if _ then (match numOf y with | none => _ | some n => _) else _) = _; rw [hn]; rfl
      ·rw [hq k (by omega)]; unfold qhP; rw [hkd]; show ((if _ then ((qaW.f k y).bind _) else _)).bind _ = _; rw [h2 k (by omega)]; rfl
     | some n =>
      rw [hrd] at hn h2; have h2 : ∀ k, K2 ≤ k → qaW.f k y = some (n : Int) := h2; have hsz := ((qln _ n).1 hrd).1; refine (qm7 hg hm c hkd n hsz).of (K + K2) (fun k hk => ?_) (fun k hk => ?_)
      ·rw [hi]; unfold qh4; rw [hkd]; show (if _ then (match numOf y with | none => _ | some n => _) else _) = _; rw [hn]; rfl
      ·rw [hq k (by omega)]; unfold qhP; rw [hkd]
       show ((if _ then ((qaW.f k y).bind fun n => if n ≥ 0 then some (some (c, ([] : List qac), (⟨#[]⟩ : ByteArray), n)) else some none) else _)).bind _ = _
       rw [if_pos htl, h2 k (by omega), qaC, if_pos (by omega), qaC]; rfl
    ·rw [hkd] at htl
     obtain ⟨y, rfl⟩ := List.length_eq_one_iff.1 htl; have hy := hb y (by simp); refine (qrE hg hm c hkd y (by omega)).of K (fun k hk => ?_) (fun k hk => ?_)
     ·rw [hi]; unfold qh4; rw [hkd]; rfl
     ·rw [hq k hk]; unfold qhP; rw [hkd]
      show ((if _ then ((qbB.f k y).bind fun q => if q.2 = true then some (some (c, q.1, (⟨#[]⟩ : ByteArray), (0 : Int))) else some none) else _)).bind _ = _
      rw [if_pos htl]; unfold qt0
      cases qbB.f k y with
      | none => rfl
      | some q =>
       rw [qaC, qaC]
       split <;> rfl
    ·rw [hkd] at htl
     obtain ⟨y, rfl⟩ := List.length_eq_one_iff.1 htl; have hy := hb y (by simp)
     have hca : c = .cAnswer := by cases c <;> first | rfl | cases hkd
     subst hca; refine (qo5 hg hm y (by omega)).of K (fun k hk => ?_) (fun k hk => ?_)
     ·rw [hi]; rfl
     ·rw [hq k hk]; rfl
   ·refine (qfS hg hm ⟨#[119, 104, 97, 116]⟩).of K (fun k hk => ?_) (fun k hk => ?_)
    ·rw [hi]; unfold qh4; rw [if_neg htl]
    ·rw [hq k hk]; unfold qhP; rw [if_neg htl, qaC]
end Go.Proofs.YtjeoabbnalamcaaGreatDoor.P
