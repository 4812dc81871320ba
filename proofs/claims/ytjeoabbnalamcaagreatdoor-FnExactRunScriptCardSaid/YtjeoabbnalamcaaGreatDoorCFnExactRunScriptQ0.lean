/- The plain laws on what the functions answer; the last one: the law FnExactRunScript answers true for all arguments. Proved in this text: its theorems. Conditions: as each theorem states them. -/
import Derived.Test.YtjeoabbnalamcaaGreatDoorCFnExactRunScriptP
import Derived.Test.YtjeoabbnalamcaaGreatDoorCFnExactRunScriptF0
import Derived.Test.YtjeoabbnalamcaaGreatDoorCFnExactRunScriptF1
import Derived.Test.YtjeoabbnalamcaaGreatDoorCFnExactRunScriptF2
import Derived.Test.YtjeoabbnalamcaaGreatDoorCFnExactRunScriptF3
import Derived.Test.YtjeoabbnalamcaaGreatDoorCFnExactRunScriptF4
import Derived.Test.YtjeoabbnalamcaaGreatDoorCFnExactRunScriptF5
import Derived.Deep.Slices
import Derived.Deep.Fields
import Derived.ChangeSame
import Derived.ChangeSlices
import Derived.Lib.SmallJoins
import Derived.ProofKit
import Derived.OpenShut
import Derived.ShutString
import Derived.ChangeOld
import Derived.SizedLaws
namespace Go.Proofs.YtjeoabbnalamcaaGreatDoor.P
open Go.RowKit Go.Proofs.YtjeoabbnalamcaaGreatDoorW.qaY Go.Proofs.YtjeoabbnalamcaaGreatDoorW.PrintLast
set_option linter.unusedVariables false
set_option linter.unusedSimpArgs false
section
open Go.ChangeShapes Go.WideShapes Go.Deep Go.ChangeAt
variable {H : Type} {enc : TypeId × Value → H} {P : Program} {w : World} {base : Nat} {spare : Nat → Bool} {held : Bool}
end
theorem Ev.mk' {α : Type} {g : Nat → Option α} {r : α} (K : Nat) (h : ∀ k, K ≤ k → g (k + 1) = some r) : Ev g r :=
 ⟨K + 1, fun k hk => by obtain ⟨m, rfl⟩ : ∃ m, k = m + 1 := ⟨k - 1, by omega⟩; exact h m (by omega)⟩
theorem qa5 {n : Int} (h1 : -9223372036854775808 ≤ n) (h2 : n ≤ 9223372036854775807) : wrap64 n = n := by unfold wrap64; omega
theorem qax {α β : Type} (a : α) (f : α → Option β) : (some a).bind f = f a := id rfl
theorem qlT (s : ByteArray) (i : Nat) (h : i < s.size) : bt s (i : Int) = ((s.data.toList[i]'(by rw [Array.length_toList]; exact h)).toNat : Int) := by
 have e := qel s (i : Int) h
 have e2 : s.data.toList[i]'(by rw [Array.length_toList]; exact h) = s[i]'h := by simp; rfl
 rw [e2]; exact e.symm
theorem u8_eq {x : UInt8} {n : Nat} (hn : n < 256) (h : (x.toNat : Int) = (n : Int)) : x = UInt8.ofNat n := by
 apply UInt8.toNat_inj.mp; rw [UInt8.toNat_ofNat_of_lt' hn]; omega
theorem qpp (s : ByteArray) (a b : Nat) : s.extract a b = ⟨((s.data.toList.take b).drop a).toArray⟩ := by
 apply ByteArray.ext; apply Array.toList_inj.1; rw [List.drop_take]
 simp [ByteArray.data_extract, Array.toList_extract, List.extract]
def bs (l : List UInt8) : ByteArray := ⟨l.toArray⟩
theorem qfb (a b : List UInt8) : bs a ++ bs b = bs (a ++ b) := by apply ByteArray.ext; simp [bs, ByteArray.data_append]
theorem qcN (a : List UInt8) : (bs a).size = a.length := by show a.toArray.size = a.length; simp
theorem qgr (a : List UInt8) : (bs a).data.toList = a := by simp [bs]
theorem qhk (a : List UInt8) : (bs a).toList = a := by rw [ByteArray.toList_eq, qgr]
theorem bs_of (s : ByteArray) : bs s.data.toList = s := by cases s; simp [bs]
theorem qq8 {a b : ByteArray} (h : a.toList = b.toList) : a = b := by
 have h := congrArg bs h; rwa [ByteArray.toList_eq, ByteArray.toList_eq, bs_of, bs_of] at h
theorem qdX (a b c : Int) : qbf.f a b c = some (decide (b ≤ a) && decide (a ≤ c)) := by
 unfold qbf.f
 by_cases h : b ≤ a <;> simp [h]
section
open Lib
def qmS (c : UInt8) : Bool := decide (48 ≤ c.toNat) && decide (c.toNat ≤ 57)
theorem qeG (c : UInt8) : qmS c = true ↔ 48 ≤ c.toNat ∧ c.toNat ≤ 57 := by unfold qmS; simp
def dstep (a : Nat) (c : UInt8) : Nat := 10 * a + (c.toNat - 48)
def qjF (acc : Nat) (l : List UInt8) : Nat := l.foldl dstep acc
theorem qgO (acc : Nat) : qjF acc [] = acc := rfl
theorem dstep_eq (a : Nat) (c : UInt8) : dstep a c = 10 * a + (c.toNat - 48) := by unfold dstep; rfl
theorem qew (acc : Nat) (c : UInt8) (r : List UInt8) : qjF acc (c :: r) = qjF (10 * acc + (c.toNat - 48)) r := by unfold qjF; rw [List.foldl_cons, dstep_eq]
theorem qgN : ∀ (a b : List UInt8) (acc : Nat), qjF acc (a ++ b) = qjF (qjF acc a) b
 | [], b, acc => rfl
 | c :: a, b, acc => by rw [List.cons_append, qew, qew]; exact qgN a b _
theorem qiA : ∀ (l : List UInt8) (acc : Nat), acc * 10 ^ l.length ≤ qjF acc l
 | [], acc => by simp [qgO]
 | c :: l, acc => by
  have ih := qiA l (10 * acc + (c.toNat - 48)); simp only [qew, List.length_cons, Nat.pow_succ]; refine Nat.le_trans ?_ ih; rw [show acc * (10 ^ l.length * 10) = (10 * acc) * 10 ^ l.length by rw [Nat.mul_comm (10 ^ l.length), ← Nat.mul_assoc, Nat.mul_comm acc]]; exact Nat.mul_le_mul_right _ (by omega)
theorem qrr : ∀ (l : List UInt8) (acc : Nat), l.all qmS = true → qjF acc l < (acc + 1) * 10 ^ l.length
 | [], acc, _ => by simp [qgO]
 | c :: l, acc, h => by
  rw [List.all_cons, Bool.and_eq_true, qeG] at h; have ih := qrr l (10 * acc + (c.toNat - 48)) h.2; simp only [qew, List.length_cons, Nat.pow_succ]; refine Nat.lt_of_lt_of_le ih ?_; rw [show (acc + 1) * (10 ^ l.length * 10) = (10 * (acc + 1)) * 10 ^ l.length by rw [Nat.mul_comm (10 ^ l.length), ← Nat.mul_assoc, Nat.mul_comm (acc + 1)]]; exact Nat.mul_le_mul_right _ (by omega)
def qrg (w : List UInt8) : Prop := w ≠ [] ∧ w.all qmS = true ∧ (w.length = 1 ∨ w.head? ≠ some 48)
theorem qp3 {d : Nat} (h : d < 10) : (UInt8.ofNat (48 + d)).toNat = 48 + d := by
 rw [UInt8.toNat_ofNat']; omega
theorem qkR (v d : Nat) (hv : 1 ≤ v) (hd : d < 10) : decDigits (10 * v + d) = decDigits v ++ [UInt8.ofNat (48 + d)] := by
 rw [decDigits, dif_neg (by omega), show (10 * v + d) / 10 = v by omega, show (10 * v + d) % 10 = d by omega]
theorem qj8 {a b : List UInt8} (h : a ≠ []) : (a ++ b).head? = a.head? := by
 cases a with
 | nil => exact absurd rfl h
 | cons x a => rfl
theorem qdz (n : Nat) : qrg (decDigits n) ∧ qjF 0 (decDigits n) = n ∧ (1 ≤ n → (decDigits n).head? ≠ some 48) := by
 induction n using Nat.strongRecOn with
 | _ n ih =>
  by_cases c : n < 10
  ·rw [decDigits_one c]
   have h := qp3 c; refine ⟨⟨by simp, ?_, .inl rfl⟩, ?_, fun h1 e => ?_⟩
   ·rw [List.all_cons, List.all_nil, Bool.and_true, qeG]; omega
   ·simp only [qew, qgO]; omega
   ·have e := Option.some.inj e
    rw [e] at h; have : (48 : UInt8).toNat = 48 := rfl; omega
  ·obtain ⟨⟨h1, h2, h3⟩, h4, h5⟩ := ih (n / 10) (by omega)
   have e : decDigits n = decDigits (n / 10) ++ [UInt8.ofNat (48 + n % 10)] := by rw [decDigits, dif_neg c]
   have hd := qp3 (show n % 10 < 10 by omega); rw [e]
   have hh : (decDigits (n / 10) ++ [UInt8.ofNat (48 + n % 10)]).head? ≠ some 48 := by rw [qj8 h1]; exact h5 (by omega)
   refine ⟨⟨by simp, ?_, .inr hh⟩, ?_, fun _ => hh⟩
   ·rw [List.all_append, h2, List.all_cons, List.all_nil, Bool.and_true, Bool.true_and, qeG]; omega
   ·rw [qgN, h4]; simp only [qew, qgO]; omega
theorem qmL : ∀ (k : Nat) (w : List UInt8), w.length = k + 1 → qrg w → decDigits (qjF 0 w) = w ∧ (w.head? ≠ some 48 → 1 ≤ qjF 0 w)
 | 0, w, hk, hw => by
  match w, hk with
  | [c], _ =>
   obtain ⟨_, h2, _⟩ := hw; rw [List.all_cons, List.all_nil, Bool.and_true, qeG] at h2; simp only [qew, qgO]; rw [decDigits_one (by omega), show 48 + (10 * 0 + (c.toNat - 48)) = c.toNat by omega, UInt8.ofNat_toNat]; refine ⟨rfl, fun h => ?_⟩
   have : c.toNat ≠ 48 := fun e => h (by rw [List.head?_cons]; congr 1; exact UInt8.toNat_inj.mp e)
   omega
 | k + 1, w, hk, hw => by
  obtain ⟨h1, h2, h3⟩ := hw; have hs := List.dropLast_concat_getLast h1
  have hl : w.dropLast.length = k + 1 := by rw [List.length_dropLast]; omega
  have hne : w.dropLast ≠ [] := fun e => by rw [e] at hl; simp at hl
  have hh : w.head? ≠ some 48 := h3.resolve_left (by omega); rw [← hs] at h2 hh ⊢
  generalize w.getLast h1 = c at *
  generalize w.dropLast = v at *
  rw [List.all_append, List.all_cons, List.all_nil, Bool.and_true, Bool.and_eq_true, qeG] at h2; rw [qj8 hne] at hh ⊢; obtain ⟨i1, i2⟩ := qmL k v hl ⟨hne, h2.1, .inr hh⟩; have i2 := i2 hh; rw [qgN]; simp only [qew, qgO]; rw [qkR _ _ i2 (by omega), i1, show 48 + (c.toNat - 48) = c.toNat by omega, UInt8.ofNat_toNat]; exact ⟨rfl, fun _ => by omega⟩
theorem canon_dec' {w : List UInt8} (h : qrg w) : decDigits (qjF 0 w) = w := by
 have : w.length ≠ 0 := fun e => h.1 (List.length_eq_zero_iff.mp e)
 exact (qmL (w.length - 1) w (by omega) h).1
theorem qlq : ∀ (l : List UInt8) (acc : Nat), l.all qmS = true → qjF acc l < 9223372036854775808 → parseUint10 acc l = .ok (qjF acc l)
 | [], acc, _, _ => rfl
 | c :: l, acc, h, hl => by
  rw [List.all_cons, Bool.and_eq_true, qeG] at h; simp only [qew] at hl ⊢; have hm := qiA l (10 * acc + (c.toNat - 48)); have hp : 1 ≤ 10 ^ l.length := Nat.one_le_pow _ _ (by omega); have h3 : (10 * acc + (c.toNat - 48)) * 1 ≤ (10 * acc + (c.toNat - 48)) * 10 ^ l.length := Nat.mul_le_mul_left _ hp; simp only [parseUint10]; rw [if_pos h.1, if_neg (by omega), if_neg (by omega), Nat.mul_comm acc 10]; exact qlq l _ h.2 hl
theorem qlQ (n : Nat) (hn : n < 9223372036854775808) : atoiAll (decDigits n) = .ok (n : Int) := by
 obtain ⟨⟨h1, h2, h3⟩, h4, h5⟩ := qdz n
 generalize decDigits n = w at *
 cases w with
 | nil => exact absurd rfl h1
 | cons c r =>
  have hc := h2; rw [List.all_cons, Bool.and_eq_true, qeG] at hc; unfold atoiAll; simp only; rw [if_neg (by omega)]; unfold parseMag; rw [if_neg (by simp), qlq _ _ h2 (by omega), h4]; simp only; rw [if_neg (by omega), if_neg (by omega), if_neg (by omega)]
def spells (w : List UInt8) (n : Nat) : Prop := n ≤ 999999 ∧ w = decDigits n
theorem qlC (w : List UInt8) : (∃ n, spells w n) ↔ qrg w ∧ w.length ≤ 6 := by
 constructor
 ·rintro ⟨n, h1, rfl⟩
  obtain ⟨hc, h4, h5⟩ := qdz n; refine ⟨hc, Nat.le_of_not_lt fun hl => ?_⟩; have hm := qiA ((decDigits n).drop 1) (qjF 0 ((decDigits n).take 1)); rw [← qgN, List.take_append_drop, h4, List.length_drop] at hm; obtain ⟨g1, g2, g3⟩ := hc; have hh := g3.resolve_left (by omega)
  generalize decDigits n = w at *
  cases w with
  | nil => exact absurd rfl g1
  | cons c r =>
   rw [List.all_cons, Bool.and_eq_true, qeG] at g2
   have : c.toNat ≠ 48 := fun e => hh (by rw [List.head?_cons]; congr 1; exact UInt8.toNat_inj.mp e)
   have e1 : qjF 0 ((c :: r).take 1) = c.toNat - 48 := by simp [qew, qgO]
   rw [e1] at hm; have h2 : 10 ^ 6 ≤ 10 ^ ((c :: r).length - 1) := Nat.pow_le_pow_right (by omega) (by omega); have h3 : 1 * 10 ^ ((c :: r).length - 1) ≤ (c.toNat - 48) * 10 ^ ((c :: r).length - 1) := Nat.mul_le_mul_right _ (by omega); omega
 ·rintro ⟨hc, hl⟩
  refine ⟨qjF 0 w, ?_, (canon_dec' hc).symm⟩; have h1 := qrr w 0 hc.2.1; have h2 : 10 ^ w.length ≤ 10 ^ 6 := Nat.pow_le_pow_right (by omega) hl; omega
def rdP (w : List UInt8) : Option Nat := if w ≠ [] ∧ w.length ≤ 6 ∧ (w.length = 1 ∨ w.head? ≠ some 48) ∧ w.all qmS = true then some (qjF 0 w) else none
theorem qky (w : List UInt8) (n : Nat) : rdP w = some n ↔ spells w n := by
 unfold rdP; constructor
 ·intro h
  split at h
  ·rename_i c
   obtain rfl := Option.some.inj h
   have hc : qrg w := ⟨c.1, c.2.2.2, c.2.2.1⟩
   obtain ⟨m, hm⟩ := (qlC w).2 ⟨hc, c.2.1⟩
   have : qjF 0 w = m := by rw [hm.2]; exact (qdz m).2.1
   rw [this]; exact hm
  ·exact absurd h (by simp)
 ·intro h
  have hc := (qlC w).1 ⟨n, h⟩; rw [if_pos ⟨hc.1.1, hc.2, hc.1.2.2, hc.1.2.1⟩]; rw [h.2, (qdz n).2.1]
theorem qpl (w : List UInt8) (n : Nat) : (atoiAll w = .ok (n : Int) ∧ n ≤ 999999 ∧ itoa (n : Int) = w) ↔ spells w n := by
 have hi : itoa (n : Int) = decDigits n := by unfold itoa; rw [if_neg (by omega)]; simp
 constructor
 ·rintro ⟨-, h2, h3⟩
  exact ⟨h2, by rw [← h3, hi]⟩
 ·rintro ⟨h1, rfl⟩
  exact ⟨qlQ n (by omega), h1, hi⟩
theorem qsz (s : ByteArray) (hz : s.size ≤ 6) : ∀ (d i a : Nat), i + d = s.size → a < 10 ^ i → Ev (fun k => qaV.l0 k s (a : Int) (i : Int)) (if (s.data.toList.drop i).all qmS = true then ((qjF a (s.data.toList.drop i) : Nat) : Int) else -1)
 | 0, i, a, h, ha => Ev.mk' 0 fun k _ => by
  have hl : s.data.toList.length = s.size := Array.length_toList; simp only [qaV.l0]; rw [if_neg (by omega), List.drop_eq_nil_of_le (by omega)]; rfl
 | d + 1, i, a, h, ha => by
  have hl : s.data.toList.length = s.size := Array.length_toList; have hd : s.data.toList.drop i = s.data.toList[i]'(by omega) :: s.data.toList.drop (i + 1) := List.drop_eq_getElem_cons (by omega); have hb := qlT s i (by omega); have hp : 10 ^ i ≤ 10 ^ 6 := Nat.pow_le_pow_right (by omega) (by omega)
  obtain ⟨c, hc⟩ : ∃ c, c = s.data.toList[i]'(by omega) := ⟨_, rfl⟩
  rw [← hc] at hd hb; rw [hd, List.all_cons]; by_cases c1 : bt s (i : Int) < 48
  ·have e : qmS c = false := by rw [← Bool.not_eq_true, qeG]; omega
   exact Ev.mk' 0 fun k _ => by
    simp only [qaV.l0]; rw [if_pos (by omega), if_pos (by omega), if_pos c1, e]; rfl
  ·by_cases c2 : bt s (i : Int) > 57
   ·have e : qmS c = false := by rw [← Bool.not_eq_true, qeG]; omega
    exact Ev.mk' 0 fun k _ => by
     simp only [qaV.l0]; rw [if_pos (by omega), if_pos (by omega), if_neg c1, if_pos c2, e]; rfl
   ·have e : qmS c = true := (qeG c).2 (by omega)
    obtain ⟨K, ih⟩ := qsz s hz d (i + 1) (10 * a + (c.toNat - 48)) (by omega) (by rw [Nat.pow_succ]; omega); dsimp only at ih
    refine Ev.mk' K fun k hk => ?_
    simp only [qaV.l0]; rw [if_pos (by omega), if_pos (by omega), if_neg c1, if_neg c2, qa5 (n := 10 * (a : Int)) (by omega) (by omega), show (bt s (i : Int) - 48) % 256 = ((c.toNat - 48 : Nat) : Int) by omega, qa5 (n := 10 * (a : Int) + ((c.toNat - 48 : Nat) : Int)) (by omega) (by omega), qa5 (n := (i : Int) + 1) (by omega) (by omega), show ((i : Int) + 1) = ((i + 1 : Nat) : Int) by omega, show 10 * (a : Int) + ((c.toNat - 48 : Nat) : Int) = ((10 * a + (c.toNat - 48) : Nat) : Int) by omega, ih k hk, e, Bool.true_and, qew]
theorem qoX (s : ByteArray) : Ev (fun k => qaV.f k s) (match rdP s.data.toList with | some n => (n : Int) | none => -1) := by
 have hl : s.data.toList.length = s.size := Array.length_toList; by_cases c1 : 1 ≤ s.size ∧ s.size ≤ 6
 ·have e1 : (decide ((1 : Int) ≤ (s.size : Int)) && decide ((s.size : Int) ≤ 6)) = true := by rw [decide_eq_true (show (1 : Int) ≤ (s.size : Int) by omega), decide_eq_true (show (s.size : Int) ≤ 6 by omega)]; rfl
  have hb := qlT s 0 (by omega); have hb : bt s 0 = _ := hb; obtain ⟨K, h0⟩ := qsz s c1.2 s.size 0 0 (by omega) (by decide); have h0 : ∀ k, K ≤ k → qaV.l0 k s 0 0 = some _ := h0; rw [List.drop_zero] at h0
  cases hL : s.data.toList with
  | nil => rw [hL] at hl; simp at hl; omega
  | cons x r =>
   have hx : s.data.toList[0]'(by omega) = x := by simp [hL]
   rw [hx] at hb; rw [hL] at h0 hl; simp only [List.length_cons] at hl; by_cases c2 : x = 48 ∧ 1 < s.size
   ·have hr : rdP (x :: r) = none := by
     unfold rdP; rw [if_neg]; rintro ⟨-, -, h3 | h3, -⟩
     ·simp at h3; rw [h3] at hl; simp at hl; omega
     ·exact h3 (by rw [c2.1]; rfl)
    rw [hr]
    refine Ev.mk' 0 fun k _ => ?_
    have hd : decide ((s.size : Int) > 1) = true := decide_eq_true (by omega); simp only [qaV.f, qdX, e1, qax, if_true]; rw [if_pos (by omega), if_pos (by rw [hb, c2.1]; rfl), hd]; simp only [qaV.j0, if_true]
   ·have hr : rdP (x :: r) = if (x :: r).all qmS = true then some (qjF 0 (x :: r)) else none := by
     unfold rdP; by_cases c3 : (x :: r).all qmS = true
     ·rw [if_pos c3, if_pos]
      refine ⟨by simp, by simp only [List.length_cons]; omega, ?_, c3⟩; by_cases c4 : 1 < s.size
      ·exact .inr fun e => c2 ⟨Option.some.inj e, c4⟩
      ·exact .inl (by simp only [List.length_cons]; omega)
     ·rw [if_neg c3, if_neg (fun h => c3 h.2.2.2)]
    rw [hr]; refine ⟨K + 1, fun k hk => ?_⟩
    obtain ⟨j, rfl⟩ : ∃ j, k = j + 1 := ⟨k - 1, by omega⟩
    have hj : qaV.f (j + 1) s = qaV.j0 (j + 1) s false := by
     simp only [qaV.f, qdX, e1, qax, if_true]; rw [if_pos (by omega)]; by_cases c5 : bt s 0 = 48
     ·have : x = 48 := u8_eq (n := 48) (by decide) (by rw [← hb, c5]; rfl)
      rw [if_pos c5, decide_eq_false (by have : ¬ 1 < s.size := fun h => c2 ⟨this, h⟩; omega)]
     ·rw [if_neg c5]
    show qaV.f (j + 1) s = _
    rw [hj]; simp only [qaV.j0, Bool.false_eq_true, if_false]; rw [h0 j (by omega)]
    split <;> rfl
 ·have e1 : (decide ((1 : Int) ≤ (s.size : Int)) && decide ((s.size : Int) ≤ 6)) = false := by
   rw [Bool.and_eq_false_iff]; simp only [decide_eq_false_iff_not]; omega
  have hr : rdP s.data.toList = none := by
   unfold rdP; rw [if_neg]; rintro ⟨h1, h2, -⟩; exact c1 ⟨by cases h : s.data.toList with | nil => exact absurd h h1 | cons a b => rw [h] at hl; simp at hl; omega, by omega⟩
  rw [hr]
  exact Ev.mk' 0 fun k _ => by
   simp only [qaV.f, qdX, e1, qax, Bool.false_eq_true, if_false, qaV.j0, if_true]
theorem numOf_eq (s : ByteArray) : numOf s = match rdP s.data.toList with | some n => some (n : Int) | none => none := by
 unfold numOf
 cases hr : rdP s.data.toList with
 | some n =>
  obtain ⟨h1, h2, h3⟩ := (qpl _ n).2 ((qky _ n).1 hr); rw [h1]; simp only []; rw [if_pos ⟨by omega, by omega, h3⟩]
 | none =>
  cases ha : atoiAll s.data.toList with
  | ok v =>
   simp only []; rw [if_neg]; rintro ⟨h1, h2, h3⟩; have := (qky _ v.toNat).2 ((qpl _ v.toNat).1 ⟨by rw [ha, show ((v.toNat : Nat) : Int) = v by omega], by omega, by rw [show ((v.toNat : Nat) : Int) = v by omega]; exact h3⟩); rw [hr] at this; cases this
  | _ => rfl
end
def consH (x : UInt8) : List (List UInt8) → List (List UInt8)
 | [] => [[x]]
 | h :: t => (x :: h) :: t
def spl (c : UInt8) : List UInt8 → List (List UInt8)
 | [] => [[]]
 | x :: l => if x = c then [] :: spl c l else consH x (spl c l)
theorem qjr (c : UInt8) : ∀ l, spl c l ≠ []
 | [] => by simp [spl]
 | x :: l => by
  simp only [spl]; split
  ·simp
  ·cases spl c l <;> simp [consH]
theorem qfV (c : UInt8) : ∀ l : List UInt8, c ∉ l → spl c l = [l]
 | [], _ => rfl
 | x :: l, h => by
  simp only [List.mem_cons, not_or] at h; simp only [spl]; rw [if_neg (fun e => h.1 e.symm), qfV c l h.2]; rfl
theorem qhC (c : UInt8) : ∀ (b r : List UInt8), c ∉ b → spl c (b ++ c :: r) = b :: spl c r
 | [], r, _ => by simp [spl]
 | x :: b, r, h => by
  simp only [List.mem_cons, not_or] at h; rw [List.cons_append]; simp only [spl]; rw [if_neg (fun e => h.1 e.symm), qhC c b r h.2]; rfl
theorem qhL (c : UInt8) : ∀ l : List UInt8, c ∉ l ∨ ∃ b r, l = b ++ c :: r ∧ c ∉ b
 | [] => .inl (by simp)
 | x :: l => by
  by_cases e : x = c
  ·subst e; exact .inr ⟨[], l, rfl, by simp⟩
  ·rcases qhL c l with h | ⟨b, r, rfl, h⟩
   ·exact .inl (by simp only [List.mem_cons, not_or]; exact ⟨fun e2 => e e2.symm, h⟩)
   ·exact .inr ⟨x :: b, r, rfl, by simp only [List.mem_cons, not_or]; exact ⟨fun e2 => e e2.symm, h⟩⟩
theorem qlD (c : UInt8) : ∀ l : List UInt8, (spl c l).length = l.count c + 1
 | [] => rfl
 | x :: l => by
  have ih := qlD c l; simp only [spl]; by_cases e : x = c
  ·subst e
   rw [if_pos rfl, List.length_cons, ih, List.count_cons_self]
  ·rw [if_neg e, List.count_cons_of_ne e]
   cases h2 : spl c l with
   | nil => exact absurd h2 (qjr c l)
   | cons a t => rw [h2] at ih; simp only [consH, List.length_cons] at ih ⊢; exact ih
theorem qmi (c : UInt8) : ∀ (l p : List UInt8), p ∈ spl c l → c ∉ p ∧ p.length ≤ l.length
 | [], p, h => by simp only [spl, List.mem_singleton] at h; subst h; simp
 | x :: l, p, h => by
  simp only [spl] at h; by_cases e : x = c
  ·rw [if_pos e, List.mem_cons] at h
   rcases h with rfl | h
   ·simp
   ·have := qmi c l p h; exact ⟨this.1, by simp only [List.length_cons]; omega⟩
  ·rw [if_neg e] at h
   cases h2 : spl c l with
   | nil => exact absurd h2 (qjr c l)
   | cons a t =>
    rw [h2] at h; simp only [consH, List.mem_cons] at h
    rcases h with rfl | h
    ·have := qmi c l a (by rw [h2]; simp)
     refine ⟨?_, by simp only [List.length_cons]; omega⟩; simp only [List.mem_cons, not_or]; exact ⟨fun e2 => e e2.symm, this.1⟩
    ·have := qmi c l p (by rw [h2]; simp [h]); exact ⟨this.1, by simp only [List.length_cons]; omega⟩
theorem index_hit (c : UInt8) : ∀ (b r : List UInt8), c ∉ b → Lib.index (b ++ c :: r) [c] = (b.length : Int)
 | [], r, _ => by simp [Lib.index, List.isPrefixOf]
 | x :: b, r, h => by
  simp only [List.mem_cons, not_or] at h
  have hp : ([c] : List UInt8).isPrefixOf (x :: (b ++ c :: r)) = false := by simp [List.isPrefixOf, h.1]
  rw [List.cons_append, Lib.index, hp, index_hit c b r h.2]; have hb : ((b.length : Int) == -1) = false := beq_eq_false_iff_ne.2 (by omega)
  simp [hb]
theorem qhJ (c : UInt8) : ∀ l : List UInt8, c ∉ l → Lib.index l [c] = -1
 | [], _ => rfl
 | x :: l, h => by
  simp only [List.mem_cons, not_or] at h
  have hp : ([c] : List UInt8).isPrefixOf (x :: l) = false := by simp [List.isPrefixOf, h.1]
  rw [Lib.index, hp, qhJ c l h.2]; rfl
theorem ql1 (c : UInt8) (b r : List UInt8) (h : c ∉ b) : Lib.cut (b ++ c :: r) [c] = (b, r, true) := by
 unfold Lib.cut; rw [index_hit c b r h, if_pos (by omega)]
 simp
theorem cut_miss (c : UInt8) (l : List UInt8) (h : c ∉ l) : Lib.cut l [c] = (l, [], false) := by
 unfold Lib.cut; rw [qhJ c l h, if_neg (by decide)]
theorem qnd (c : UInt8) (b r : List UInt8) (h : c ∉ b) : (b ++ c :: r).count c = r.count c + 1 := by
 rw [List.count_append, List.count_eq_zero.2 h, List.count_cons_self]; omega
theorem countF (c : UInt8) : ∀ (f : Nat) (l : List UInt8), l.length < f → Lib.countFrom [c] f l = l.count c
 | 0, l, h => absurd h (by omega)
 | f + 1, l, h => by
  unfold Lib.countFrom
  rcases qhL c l with hn | ⟨b, r, rfl, hb⟩
  ·rw [qhJ c l hn, if_pos (by decide), List.count_eq_zero.2 hn]
  ·have hk : ((b.length : Int) == -1) = false := beq_eq_false_iff_ne.2 (by omega)
   have e : (b ++ c :: r).drop (b.length + 1) = r := by simp
   rw [List.length_append, List.length_cons] at h; rw [index_hit c b r hb, hk, qnd c b r hb, Int.toNat_natCast, show ([c] : List UInt8).length = 1 from rfl, e, countF c f r (by omega)]
   simp; omega
theorem qlE (c : UInt8) : ∀ (k : Nat) (l : List UInt8), l.count c ≤ k → Lib.splitK [c] 0 k l = spl c l
 | 0, l, h => by
  rw [qfV c l (List.count_eq_zero.1 (by omega))]; rfl
 | k + 1, l, h => by
  unfold Lib.splitK
  rcases qhL c l with hn | ⟨b, r, rfl, hb⟩
  ·rw [qhJ c l hn, if_pos (by decide), qfV c l hn]
  ·have hk : ((b.length : Int) == -1) = false := beq_eq_false_iff_ne.2 (by omega)
   have e : (b ++ c :: r).drop (b.length + 1) = r := by simp
   have e2 : (b ++ c :: r).take (b.length + 0) = b := by simp
   rw [qnd c b r hb] at h; rw [index_hit c b r hb, hk, qhC c b r hb, Int.toNat_natCast, show ([c] : List UInt8).length = 1 from rfl, e, e2, qlE c k r (by omega)]
   simp
def bas (l : List (List UInt8)) : List ByteArray := l.map fun p => ⟨p.toArray⟩
theorem ba_eq (s : ByteArray) : (⟨s.data.toList.toArray⟩ : ByteArray) = s := by cases s; simp
theorem qin (c : UInt8) (s : ByteArray) : qgw c s = bas (spl c s.data.toList) := by
 have h := Lib.splitB_data ⟨#[c]⟩ 0 (Lib.countB s ⟨#[c]⟩) s; have hk : Lib.splitK (⟨#[c]⟩ : ByteArray).data.toList 0 (Lib.countB s ⟨#[c]⟩) s.data.toList = spl c s.data.toList := qlE c _ _ (Nat.le_of_eq (countF c _ _ (Nat.lt_succ_self _)).symm); rw [hk] at h; unfold bas; rw [← h, List.map_map]; unfold qgw; exact (List.map_id'' (fun x => ba_eq x) _).symm
theorem qmj (c : UInt8) (s : ByteArray) (hz : s.size ≤ 1048576) : ∀ (d i m : Nat) (out : List ByteArray), i + d = s.size → m ≤ i → out.length + d ≤ 1048576 → c ∉ (s.data.toList.take i).drop m → Ev (fun k => qbi.l0 k s (c.toNat : Int) out (m : Int) (i : Int)) (out ++ bas (spl c (s.data.toList.drop m)))
 | 0, i, m, out, h, hm, ho, hn => Ev.mk' 0 fun k _ => by
  have hl : s.data.toList.length = s.size := Array.length_toList; rw [List.take_of_length_le (by omega)] at hn; simp only [qbi.l0]; rw [if_neg (by omega), if_pos (by omega), if_pos (by omega), if_pos (by omega), qfV c _ hn, qpp, List.take_of_length_le (by omega)]; rfl
 | d + 1, i, m, out, h, hm, ho, hn => by
  have hl : s.data.toList.length = s.size := Array.length_toList; have hd : s.data.toList.drop i = s.data.toList[i]'(by omega) :: s.data.toList.drop (i + 1) := List.drop_eq_getElem_cons (by omega); have hb := qlT s i (by omega)
  have hs : s.data.toList.drop m = (s.data.toList.take i).drop m ++ s.data.toList.drop i := by
   rw [← List.drop_append_of_le_length (by rw [List.length_take]; omega), List.take_append_drop]
  by_cases hc : s.data.toList[i]'(by omega) = c
  ·obtain ⟨K, ih⟩ := qmj c s hz d (i + 1) (i + 1) (out ++ [s.extract m i]) (by omega) (Nat.le_refl _) (by simp; omega) (by rw [List.drop_eq_nil_of_le (by rw [List.length_take]; omega)]; simp)
   dsimp only at ih
   refine Ev.mk' K fun k hk => ?_
   simp only [qbi.l0, Int.toNat_natCast]; rw [if_pos (by omega), if_pos (by omega), if_pos (by rw [hb, hc]), if_pos (by omega), if_pos (by omega), if_pos (by omega), if_pos (by omega), qa5 (by omega) (by omega), show ((i : Int) + 1) = ((i + 1 : Nat) : Int) by omega, ih k hk, hs, hd, hc, qhC c _ _ hn, qpp]
   simp [bas]
  ·obtain ⟨K, ih⟩ := qmj c s hz d (i + 1) m out (by omega) (by omega) (by omega) (by
    rw [List.take_succ_eq_append_getElem (by omega), List.drop_append_of_le_length (by rw [List.length_take]; omega), List.mem_append, List.mem_singleton]; rintro (h_ | h_)
    ·exact hn h_
    ·exact hc h_.symm)
   dsimp only at ih
   refine Ev.mk' K fun k hk => ?_
   simp only [qbi.l0]
   rw [if_pos (by omega), if_pos (by omega), if_neg (by
    rw [hb]; intro h_; exact hc (UInt8.toNat_inj.mp (by omega))), qa5 (by omega) (by omega), show ((i : Int) + 1) = ((i + 1 : Nat) : Int) by omega, ih k hk]
theorem qjN (c : UInt8) (s : ByteArray) (hz : s.size ≤ 1048576) : Ev (fun k => qbi.f k s (c.toNat : Int)) (bas (spl c s.data.toList)) := by
 obtain ⟨K, h⟩ := qmj c s hz s.size 0 0 [] (by omega) (Nat.le_refl _) (by simpa using hz) (by simp); exact ⟨K, fun k hk => by show qbi.l0 k s (c.toNat : Int) [] 0 0 = _; simpa using h k hk⟩
def left (l : List qac) (n : Int) : Bool := !(l.any (qfm n))
def qaG (l : List qac) : Bool := decide (l.length ≤ 12) && l.all qbC
theorem qdh (x : qac) : qbC x = true ↔ 2 ≤ x.f0 ∧ x.f0 ≤ 60 ∧ 0 ≤ x.f1 ∧ x.f1 < x.f0 := by
 unfold qbC; simp
theorem qsE (x : qac) : qfa.f x.f0 x.f1 = some (qbC x) := by
 unfold qfa.f qbC; simp only [qdX, Option.bind_some]; by_cases h1 : 2 ≤ x.f0
 ·by_cases h2 : x.f0 ≤ 60
  ·have : wrap64 (x.f0 - 1) = x.f0 - 1 := qa5 (by omega) (by omega)
   rw [this]; by_cases h3 : 0 ≤ x.f1
   ·simp [h1, h2, h3]; omega
   ·simp [h1, h2, h3]
  ·simp [h1, h2]
 ·simp [h1]
theorem qkz (l : List qac) (k : Nat) (h : k < l.length) : l.drop k = qae l k :: l.drop (k + 1) := qj3 l k h
theorem qnx (l : List qac) (hm : l.length ≤ 12) : ∀ d i : Nat, i + d = l.length → Ev (fun k => qaO.l0 k l l.length i) ((l.drop i).all qbC)
 | 0, i, h => Ev.mk' 0 fun k _ => by
  simp only [qaO.l0]; rw [if_neg (by omega), List.drop_eq_nil_of_le (by omega)]; rfl
 | d + 1, i, h => by
  obtain ⟨K, ih⟩ := qnx l hm d (i + 1) (by omega); dsimp only at ih
  refine Ev.mk' K fun k hk => ?_
  simp only [qaO.l0]; rw [if_pos (by omega), if_pos (by omega), if_pos (by omega), qsE, qkz l i (by omega), List.all_cons, Option.bind_some]; rw [show wrap64 ((i : Int) + 1) = ((i + 1 : Nat) : Int) from qa5 (by omega) (by omega), ih k hk]
  cases qbC (qae l i) <;> simp
theorem qe0 (l : List qac) : Ev (fun k => qaO.f k l) (qaG l) := by
 unfold qaG; by_cases h : l.length ≤ 12
 ·obtain ⟨K, ih⟩ := qnx l h l.length 0 (by omega)
  refine ⟨K, fun k hk => ?_⟩; simp only [qaO.f]; rw [if_neg (by omega)]
  simpa [h] using ih k hk
 ·refine ⟨0, fun k _ => ?_⟩
  simp only [qaO.f]; rw [if_pos (by omega)]
  simp [h]
theorem qds (l : List qac) : qa9.f l = some (qaG l) := rfl
theorem qb4 {l : List qac} (h : qaG l = true) : l.length ≤ 12 ∧ l.all qbC = true := by
 unfold qaG at h
 simpa using h
theorem qny (n : Int) (x : qac) (h : qbC x = true) : qcw.f n x.f0 = some (n % x.f0) := by
 have := qsm n x.f0 ((qdh x).1 h).1 ((qdh x).1 h).2.1; exact this
theorem qlz (n : Int) (l : List qac) (hm : l.length ≤ 9223372036854775807) (hl : l.all qbC = true) : ∀ d i : Nat, i + d = l.length → Ev (fun k => qct.l0 k n l l.length i) (qd3 (qfm n) (l.drop i) i)
 | 0, i, h => Ev.mk' 0 fun k _ => by
  simp only [qct.l0]; rw [if_neg (by omega), List.drop_eq_nil_of_le (by omega)]; rfl
 | d + 1, i, h => by
  obtain ⟨K, ih⟩ := qlz n l hm hl d (i + 1) (by omega); dsimp only at ih
  refine Ev.mk' K fun k hk => ?_
  simp only [qct.l0]; rw [if_pos (by omega), if_pos (by omega), if_pos (by omega), qny n _ (List.all_eq_true.mp hl _ (qnt l i (by omega))), qkz l i (by omega), Option.bind_some]; rw [show wrap64 ((i : Int) + 1) = ((i + 1 : Nat) : Int) from qa5 (by omega) (by omega), ih k hk]; rw [qd3]; by_cases hc : n % (qae l i).f0 = (qae l i).f1
  ·rw [if_pos hc, if_pos (by simp [qfm, hc])]
  ·rw [if_neg hc, if_neg (by simp [qfm, hc])]; rfl
theorem qqE (n : Int) (l : List qac) (hm : l.length ≤ 9223372036854775807) (hl : l.all qbC = true) : Ev (fun k => qct.f k l n) (qd3 (qfm n) l 0) :=
 qlz n l hm hl l.length 0 (by omega)
theorem qld (n : Int) (l : List qac) : decide (qd3 (qfm n) l 0 < 0) = left l n := by
 have h := qh6 (qfm n) l 0 (by omega); unfold left; rw [← h]; by_cases hc : 0 ≤ qd3 (qfm n) l 0
 ·simp [hc, Int.not_lt.mpr hc]
 ·simp [hc, Int.not_le.mp hc]
theorem qhA (n : Int) (l : List qac) (hm : l.length ≤ 9223372036854775807) (hl : l.all qbC = true) : Ev (fun k => qch.f k l n) (left l n) := by
 obtain ⟨K, h⟩ := qqE n l hm hl; refine ⟨K, fun k hk => ?_⟩; simp only [qch.f, h k hk, Option.bind_some, qld]
theorem qgd (n : Int) (l : List qac) (hl : l.all qbC = true) : qcS.f l n = some (left l n) := by
 simp only [qcS.f, qd5.f, if_pos hl, Option.bind_some, qld]
section
open Lib
def qfg (c : UInt8) : List (List UInt8) → List UInt8
 | [] => []
 | x :: r => x ++ (r.map (fun y => c :: y)).flatten
theorem qiZ (c : UInt8) (ws : List (List UInt8)) (w : List UInt8) (h : ws ≠ []) : qfg c (ws ++ [w]) = qfg c ws ++ c :: w := by
 cases ws with
 | nil => exact absurd rfl h
 | cons x r => simp [qfg]
theorem qnE (c : UInt8) : ∀ (r : List (List UInt8)) (x : List UInt8), c ∉ x → (∀ w ∈ r, c ∉ w) → spl c (qfg c (x :: r)) = x :: r
 | [], x, h, _ => by simp only [qfg, List.map_nil, List.flatten_nil, List.append_nil]; exact qfV c x h
 | y :: r, x, h, h2 => by
  have ih := qnE c r y (h2 y List.mem_cons_self) (fun w hw => h2 w (List.mem_cons_of_mem _ hw)); simp only [qfg, List.map_cons, List.flatten_cons, List.cons_append] at ih ⊢; rw [qhC c x _ h, ih]
theorem qrp {w : List UInt8} (h : w.all qmS = true) {c : UInt8} (hc : qmS c = false) : c ∉ w := fun hm => by
 have := List.all_eq_true.1 h c hm; rw [hc] at this; exact absurd this (by decide)
def qi2 (r : Nat × Nat) : List UInt8 := decDigits r.1 ++ 58 :: decDigits r.2
theorem qp0 (r : Nat × Nat) : (44 : UInt8) ∉ qi2 r := by
 unfold qi2; rw [List.mem_append, List.mem_cons]; rintro (h | h | h)
 ·exact qrp (qdz r.1).1.2.1 (c := 44) (by decide) h
 ·exact absurd h (by decide)
 ·exact qrp (qdz r.2).1.2.1 (c := 44) (by decide) h
def qnv (L : List (Nat × Nat)) : List UInt8 := if L = [] then [45] else qfg 44 (L.map qi2)
theorem qqF (L : List (Nat × Nat)) (h : L ≠ []) : spl 44 (qnv L) = L.map qi2 := by
 unfold qnv; rw [if_neg h]
 cases L with
 | nil => exact absurd rfl h
 | cons x r =>
  rw [List.map_cons]
  refine qnE 44 _ _ (qp0 x) fun w hw => ?_
  obtain ⟨y, -, rfl⟩ := List.mem_map.1 hw; exact qp0 y
def spP : List UInt8 → Nat → Nat → List (Nat × Nat)
 | [], n, ev => [(ev, n)]
 | c :: l, n, ev => if c = 44 then (ev, n) :: spP l 0 0 else if c = 58 then spP l 0 n else if qmS c = true then spP l (min 1000 (10 * n + (c.toNat - 48))) ev else spP l n ev
theorem qlB (l : List UInt8) (ev : Nat) : ∀ (w : List UInt8) (n : Nat), w.all qmS = true → qjF n w ≤ 1000 → spP (w ++ l) n ev = spP l (qjF n w) ev
 | [], n, _, _ => rfl
 | c :: w, n, h, hl => by
  rw [List.all_cons, Bool.and_eq_true] at h; have hc := (qeG c).1 h.1; rw [qew] at hl ⊢; have hm := qiA w (10 * n + (c.toNat - 48)); have hp : 1 ≤ 10 ^ w.length := Nat.one_le_pow _ _ (by omega); have h3 : (10 * n + (c.toNat - 48)) * 1 ≤ (10 * n + (c.toNat - 48)) * 10 ^ w.length := Nat.mul_le_mul_left _ hp
  have n1 : c ≠ 44 := fun e => by subst e; exact absurd hc (by decide)
  have n2 : c ≠ 58 := fun e => by subst e; exact absurd hc (by decide)
  rw [List.cons_append]; simp only [spP]; rw [if_neg n1, if_neg n2, if_pos h.1, Nat.min_eq_right (by omega)]; exact qlB l ev w _ h.2 hl
theorem qsH (l : List UInt8) (ev m : Nat) (hm : m ≤ 1000) : spP (decDigits m ++ l) 0 ev = spP l m ev := by
 obtain ⟨h1, h2, -⟩ := qdz m; rw [qlB l ev _ 0 h1.2.1 (by omega), h2]
theorem qp1 (l : List UInt8) (r : Nat × Nat) (h1 : r.1 ≤ 1000) (h2 : r.2 ≤ 1000) : spP (qi2 r ++ l) 0 0 = spP l r.2 r.1 := by
 unfold qi2; rw [List.append_assoc, qsH _ _ _ h1, List.cons_append]; simp only [spP]; rw [if_neg (by decide), if_pos trivial, qsH _ _ _ h2]
theorem qnB : ∀ (r : List (Nat × Nat)) (x : Nat × Nat), x.1 ≤ 1000 → x.2 ≤ 1000 → (∀ y ∈ r, y.1 ≤ 1000 ∧ y.2 ≤ 1000) → spP (qfg 44 ((x :: r).map qi2)) 0 0 = x :: r
 | [], x, h1, h2, _ => by
  have e := qp1 [] x h1 h2; simp only [qfg, List.map_cons, List.map_nil, List.flatten_nil]; rw [e]; rfl
 | y :: r, x, h1, h2, h3 => by
  have ih := qnB r y (h3 y List.mem_cons_self).1 (h3 y List.mem_cons_self).2 (fun z hz => h3 z (List.mem_cons_of_mem _ hz)); simp only [qfg, List.map_cons, List.flatten_cons, List.cons_append] at ih ⊢; rw [qp1 _ x h1 h2]; simp only [spP]; rw [if_pos trivial, ih]
theorem qmQ (n : Nat) : (decDigits n).length ≤ n + 1 := by
 induction n using Nat.strongRecOn with
 | _ n ih =>
  rw [decDigits]; split
  ·simp
  ·rw [List.length_append]
   have := ih (n / 10) (by omega); simp only [List.length_cons, List.length_nil]; omega
theorem qoe {n : Nat} (h : ¬ n < 10) : decDigits n = decDigits (n / 10) ++ [UInt8.ofNat (48 + n % 10)] := by rw [decDigits, dif_neg h]
theorem qla {n : Nat} (h : n < 100) : (decDigits n).length ≤ 2 := by
 by_cases c : n < 10
 ·rw [decDigits_one c]; simp
 ·rw [qoe c, decDigits_one (by omega)]; simp
theorem qpR (n : Nat) (hn : n ≤ 4611686018427387904) : Ev (fun k => qbr.f k (n : Int)) (bs (decDigits n)) := by
 induction n using Nat.strongRecOn with
 | _ n ih =>
  by_cases c : n < 10
  ·refine Ev.mk' 0 fun k _ => ?_
   simp only [qbr.f]; rw [if_pos (by omega), qa5 (by omega) (by omega), decDigits_one c, show (48 + (n : Int)) % 256 = ((48 + n : Nat) : Int) by omega]; rfl
  ·obtain ⟨K, ih⟩ := ih (n / 10) (by omega) (by omega)
   refine Ev.mk' K fun k hk => ?_
   have ih := ih k hk; dsimp only at ih; have hl := qmQ (n / 10); have h1 : Int.tdiv (n : Int) 10 = ((n / 10 : Nat) : Int) := Int.ofNat_tdiv n 10; have h2 : Int.tmod (n : Int) 10 = ((n % 10 : Nat) : Int) := Int.ofNat_tmod n 10; simp only [qbr.f]
   have e : strOfNums [wrap64 (48 + Int.tmod (n : Int) 10) % 256] = bs [UInt8.ofNat (48 + n % 10)] := by
    rw [h2, qa5 (by omega) (by omega), show (48 + ((n % 10 : Nat) : Int)) % 256 = ((48 + n % 10 : Nat) : Int) by omega]; rfl
   rw [if_neg (by omega), h1, qa5 (by omega) (by omega), ih, qax, qax, e, qcN, qcN, if_pos (by simp only [List.length_cons, List.length_nil]; omega), qfb, ← qoe c]
theorem ql8 (n : Nat) (hn : n ≤ 4611686018427387904) : qbk.f (n : Int) = some (bs (decDigits n)) := by
 unfold qbk.f; rw [if_pos (by omega)]
 have : itoa (n : Int) = decDigits n := by unfold itoa; rw [if_neg (by omega)]; simp
 rw [this]; rfl
theorem int_ev (n : Nat) (hn : n ≤ 4611686018427387904) : Ev (fun k => qfc.f k (n : Int)) (bs (decDigits n)) := by
 obtain ⟨K, h⟩ := qpR n hn; refine ⟨K, fun k hk => ?_⟩; have h := h k hk; dsimp only at h
 show qfc.f k (n : Int) = _
 unfold qfc.f; rw [if_neg (by omega), h, qax]
theorem qni (c : UInt8) (M : Nat) : ∀ ws : List (List UInt8), (∀ w ∈ ws, w.length ≤ M) → (qfg c ws).length ≤ ws.length * (M + 1)
 | [], _ => by simp [qfg]
 | x :: r, h => by
  have h1 := h x List.mem_cons_self
  have h2 : ∀ r : List (List UInt8), (∀ w ∈ r, w.length ≤ M) → ((r.map fun y => c :: y).flatten).length ≤ r.length * (M + 1) := fun r => by
   induction r with
   | nil => simp
   | cons y r ih =>
    intro h; have h1 := h y List.mem_cons_self; have h2 := ih (fun w hw => h w (List.mem_cons_of_mem _ hw)); rw [List.map_cons, List.flatten_cons, List.length_append, List.length_cons, List.length_cons, Nat.add_mul]; omega
  have h3 := h2 r (fun w hw => h w (List.mem_cons_of_mem _ hw)); rw [qfg, List.length_append, List.length_cons, Nat.add_mul]; omega
theorem bas_data (ws : List (List UInt8)) : (bas ws).map (·.data.toList) = ws := by
 unfold bas; rw [List.map_map]; exact List.map_id'' (fun x => qgr x) ws
theorem qoI (c : UInt8) (ws : List (List UInt8)) (hne : ws ≠ []) (h1 : ws.length ≤ 1000000) (h2 : ∀ w ∈ ws, w.length ≤ 20000000) : strings_Join.f (bas ws) ⟨#[c]⟩ = some (bs (qfg c ws)) := by
 have hl := qni c 20000000 ws h2
 have hj : Lib.join ((bas ws).map (·.data.toList)) (⟨#[c]⟩ : ByteArray).data.toList = qfg c ws := by
  rw [bas_data]
  cases ws with
  | nil => exact absurd rfl hne
  | cons x r => rw [join_cons]; rfl
 have hk : (bas ws).length = ws.length := List.length_map _; have h0 : 0 < ws.length := List.length_pos_iff.2 hne; unfold strings_Join.f; rw [hj, if_pos ⟨by omega, by omega, by omega⟩]; rfl
def rp (r : qac) : Nat × Nat := (r.f0.toNat, r.f1.toNat)
def rT (r : qac) : List UInt8 := qi2 (rp r)
def RT (l : List qac) : ByteArray := bs (qnv (l.map rp))
theorem qlM {l : List qac} (h : l ≠ []) : RT l = bs (qfg 44 (l.map rT)) := by
 unfold RT qnv; rw [if_neg (by simpa using h), List.map_map]; rfl
theorem qlp {r : qac} (h : qbC r = true) : r.f0 = ((rp r).1 : Int) ∧ r.f1 = ((rp r).2 : Int) ∧ 2 ≤ (rp r).1 ∧ (rp r).1 ≤ 60 ∧ (rp r).2 < (rp r).1 := by
 have := (qdh r).1 h; unfold rp; dsimp only; omega
theorem qsy {r : qac} (h : qbC r = true) : (rT r).length ≤ 5 := by
 obtain ⟨-, -, h1, h2, h3⟩ := qlp h; have e1 := qla (n := (rp r).1) (by omega); have e2 := qla (n := (rp r).2) (by omega); unfold rT qi2; rw [List.length_append, List.length_cons]; omega
theorem qkI (l : List qac) (i : Nat) (h : i < l.length) : l.take (i + 1) = l.take i ++ [qae l i] := by
 rw [List.take_succ_eq_append_getElem h]; have h1 := qkz l i h; rw [List.drop_eq_getElem_cons h] at h1; rw [(List.cons.inj h1).1]
theorem qqw {l : List qac} (hl : l.all qbC = true) (i : Nat) (h : i < l.length) : qbC (qae l i) = true := by
 refine List.all_eq_true.1 hl _ ?_; have h1 := qkz l i h; exact List.mem_of_mem_drop (h1 ▸ List.mem_cons_self)
theorem qkD (l : List qac) (hm : l.length ≤ 12) (hl : l.all qbC = true) : ∀ (d i : Nat) (x : List UInt8), i + d = l.length → x = qfg 44 ((l.take i).map rT) → x.length ≤ 6 * i → Ev (fun k => qbm.l0 k (bs x) l (l.length : Int) (i : Int)) (bs (qfg 44 (l.map rT)))
 | 0, i, x, h, hx, hk => Ev.mk' 0 fun k _ => by
  simp only [qbm.l0]; rw [if_neg (by omega), hx, List.take_of_length_le (by omega)]
 | d + 1, i, x, h, hx, hk => by
  have hr := qqw hl i (by omega); have hw := qsy hr; obtain ⟨e1, e2, b1, b2, b3⟩ := qlp hr; obtain ⟨K1, n1⟩ := qpR (rp (qae l i)).1 (by omega); obtain ⟨K2, n2⟩ := qpR (rp (qae l i)).2 (by omega); rw [← e1] at n1; rw [← e2] at n2; have l1 := qla (n := (rp (qae l i)).1) (by omega); have l2 := qla (n := (rp (qae l i)).2) (by omega)
  have hb : bs (decDigits (rp (qae l i)).1) ++ (⟨#[58]⟩ : ByteArray) ++ bs (decDigits (rp (qae l i)).2) = bs (rT (qae l i)) := by
   rw [show (⟨#[58]⟩ : ByteArray) = bs [58] from rfl, qfb, qfb]; unfold rT qi2; simp
  by_cases c : i = 0
  ·subst c
   have hx0 : x = [] := by rw [hx]; rfl
   obtain ⟨K, ih⟩ := qkD l hm hl d (0 + 1) (x ++ rT (qae l (0 : Nat))) (by omega) (by rw [qkI l 0 (by omega), hx0]; simp [qfg]) (by rw [hx0, List.nil_append]; omega)
   refine Ev.mk' (K + K1 + K2) fun k hk => ?_
   have ih := ih k (by omega); have n1 := n1 k (by omega); have n2 := n2 k (by omega); dsimp only at ih n1 n2; simp only [qbm.l0]; rw [if_pos (by omega), if_pos (by omega), if_pos (by omega), if_neg (by omega), n1, qax, if_pos (by rw [qcN]; omega), n2, qax, if_pos (by rw [show (⟨#[58]⟩ : ByteArray) = bs [58] from rfl, qfb, qcN, qcN, List.length_append]; simp only [List.length_cons, List.length_nil]; omega), hb, if_pos (by rw [qcN, qcN]; omega), qfb, qa5 (by omega) (by omega), show (((0 : Nat) : Int) + 1) = ((0 + 1 : Nat) : Int) by omega, ih]
  ·obtain ⟨K, ih⟩ := qkD l hm hl d (i + 1) (x ++ 44 :: rT (qae l i)) (by omega) (by rw [qkI l i (by omega), List.map_append, List.map_cons, List.map_nil, qiZ _ _ _ (by simp; exact ⟨c, fun e => by rw [e] at h; simp at h⟩), hx]) (by rw [List.length_append, List.length_cons]; omega)
   refine Ev.mk' (K + K1 + K2) fun k hk => ?_
   have ih := ih k (by omega); have n1 := n1 k (by omega); have n2 := n2 k (by omega); dsimp only at ih n1 n2; simp only [qbm.l0]; rw [if_pos (by omega), if_pos (by omega), if_pos (by omega), if_pos (by omega), if_pos (by rw [qcN]; omega), n1, qax, if_pos (by rw [qcN]; omega), n2, qax, if_pos (by rw [show (⟨#[58]⟩ : ByteArray) = bs [58] from rfl, qfb, qcN, qcN, List.length_append]; simp only [List.length_cons, List.length_nil]; omega), hb, show (⟨#[44]⟩ : ByteArray) = bs [44] from rfl, qfb, if_pos (by rw [qcN, qcN, List.length_append]; simp only [List.length_cons, List.length_nil]; omega), qfb, qa5 (by omega) (by omega), show ((i : Int) + 1) = ((i + 1 : Nat) : Int) by omega, show x ++ [44] ++ rT (qae l i) = x ++ 44 :: rT (qae l i) by simp, ih]
theorem qnz (l : List qac) (hg : qaG l = true) : Ev (fun k => qbm.f k l) (RT l) := by
 obtain ⟨hm, hl⟩ := qb4 hg; by_cases c : l = []
 ·subst c; exact ⟨0, fun k _ => rfl⟩
 ·obtain ⟨K, h⟩ := qkD l hm hl l.length 0 [] (by omega) rfl (by simp)
  refine ⟨K, fun k hk => ?_⟩
  have h0 : l.length ≠ 0 := fun e => c (List.length_eq_zero_iff.1 e)
  show qbm.f k l = _
  unfold qbm.f; rw [if_neg (by omega), qlM c]; exact h k hk
theorem qjp (l : List qac) (hm : l.length ≤ 12) (hl : l.all qbC = true) : ∀ (d i : Nat), i + d = l.length → Ev (fun k => qaE.l0 k (bas ((l.take i).map rT)) l (l.length : Int) (i : Int)) (RT l)
 | 0, i, h => Ev.mk' 0 fun k _ => by
  simp only [qaE.l0]; rw [if_neg (by omega), List.take_of_length_le (by omega)]; by_cases c : l = []
  ·subst c; rfl
  ·have h0 : l.length ≠ 0 := fun e => c (List.length_eq_zero_iff.1 e)
   have hk : (bas (l.map rT)).length = l.length := by unfold bas; simp
   rw [if_neg (by omega), qoI 44 _ (by simpa using c) (by rw [List.length_map]; omega) (fun w hw => by
    obtain ⟨r, hr, rfl⟩ := List.mem_map.1 hw
    have := qsy (List.all_eq_true.1 hl r hr); omega), qax, qlM c]
 | d + 1, i, h => by
  have hr := qqw hl i (by omega); obtain ⟨e1, e2, b1, b2, b3⟩ := qlp hr; have l1 := qla (n := (rp (qae l i)).1) (by omega); have l2 := qla (n := (rp (qae l i)).2) (by omega)
  have hi : ∀ n : Nat, n < 100 → strconv_Itoa.f (n : Int) = some (bs (decDigits n)) := fun n hn => by
   unfold strconv_Itoa.f; rw [if_pos (by omega), Int.toNat_natCast]; rfl
  have n1 : strconv_Itoa.f (qae l (i : Int)).f0 = some (bs (decDigits (rp (qae l i)).1)) := by rw [e1]; exact hi _ (by omega)
  have n2 : strconv_Itoa.f (qae l (i : Int)).f1 = some (bs (decDigits (rp (qae l i)).2)) := by rw [e2]; exact hi _ (by omega)
  have hb : bs (decDigits (rp (qae l i)).1) ++ (⟨#[58]⟩ : ByteArray) ++ bs (decDigits (rp (qae l i)).2) = bs (rT (qae l i)) := by
   rw [show (⟨#[58]⟩ : ByteArray) = bs [58] from rfl, qfb, qfb]; unfold rT qi2; simp
  obtain ⟨K, ih⟩ := qjp l hm hl d (i + 1) (by omega)
  refine Ev.mk' K fun k hk => ?_
  have ih := ih k hk; dsimp only at ih
  have hk : (bas ((l.take i).map rT)).length ≤ l.length := by unfold bas; rw [List.length_map, List.length_map, List.length_take]; omega
  have hs : bas ((l.take (i + 1)).map rT) = bas ((l.take i).map rT) ++ [bs (rT (qae l i))] := by rw [qkI l i (by omega)]; simp [bas]; rfl
  simp only [qaE.l0]; rw [if_pos (by omega), if_pos (by omega), if_pos (by omega), n1, qax, if_pos (by rw [qcN]; omega), n2, qax, if_pos (by rw [show (⟨#[58]⟩ : ByteArray) = bs [58] from rfl, qfb, qcN, qcN, List.length_append]; simp only [List.length_cons, List.length_nil]; omega), if_pos (by omega), hb, qa5 (by omega) (by omega), show ((i : Int) + 1) = ((i + 1 : Nat) : Int) by omega, ← hs, ih]
theorem qfK (l : List qac) (hg : qaG l = true) : Ev (fun k => qaE.f k l) (RT l) := by
 obtain ⟨hm, hl⟩ := qb4 hg; exact qjp l hm hl l.length 0 (by omega)
theorem qiT (l : List qac) (hg : qaG l = true) : Ev (fun k => qci.f k l true) (RT l) := by
 obtain ⟨K1, h1⟩ := qe0 l; obtain ⟨K2, h2⟩ := qnz l hg; refine ⟨K1 + K2, fun k hk => ?_⟩; have h1 := h1 k (by omega); have h2 := h2 k (by omega); dsimp only at h1 h2
 show qci.f k l true = _
 unfold qci.f qey.f; rw [if_pos rfl, h1, qax, hg, if_pos rfl, h2, qax, qax]
end
theorem qsO {α : Type} (l : List α) (i : Nat) (v : α) (h : i < l.length) : (l.set i v).take (i + 1) = l.take i ++ [v] := by
 rw [List.take_succ_eq_append_getElem (by simpa using h)]; simp only [List.take_set, List.getElem_set_self]; rw [List.set_eq_of_length_le (by simp; omega)]
section
open Lib
theorem qjd (l : List ByteArray) (hm : l.length ≤ 1000) : ∀ (d i : Nat), i + d = l.length → Ev (fun k => qbF.l0 k l l (i : Int)) true
 | 0, i, h => Ev.mk' 0 fun k _ => by simp only [qbF.l0]; rw [if_neg (by omega)]
 | d + 1, i, h => by
  obtain ⟨K, ih⟩ := qjd l hm d (i + 1) (by omega)
  refine Ev.mk' K fun k hk => ?_
  simp only [qbF.l0]; rw [if_pos (by omega), if_pos (by omega), if_pos (by omega), if_pos trivial, qa5 (by omega) (by omega), show ((i : Int) + 1) = ((i + 1 : Nat) : Int) by omega]; exact ih k hk
theorem qmW (l : List ByteArray) (hm : l.length ≤ 1000) : Ev (fun k => qbF.f k l l) true := by
 obtain ⟨K, h⟩ := qjd l hm l.length 0 (by omega); exact ⟨K, fun k hk => by show (if _ then _ else _) = _; rw [if_pos rfl]; exact h k hk⟩
theorem qoP : ∀ (a : Nat) (x : List UInt8), 1 ≤ a → a + x.length ≤ 10000 → Ev (fun k => qbM.l0 k (a : Int) (bs x)) (bs (109 :: (decDigits a ++ x))) := by
 intro a
 induction a using Nat.strongRecOn with
 | _ a ih =>
  intro x h1 h2
  have hd : strOfNums [wrap64 (48 + Int.tmod (a : Int) 10) % 256] = bs [UInt8.ofNat (48 + a % 10)] := by
   have h2 : Int.tmod (a : Int) 10 = ((a % 10 : Nat) : Int) := Int.ofNat_tmod a 10; rw [h2, qa5 (by omega) (by omega), show (48 + ((a % 10 : Nat) : Int)) % 256 = ((48 + a % 10 : Nat) : Int) by omega]; rfl
  have hq : Int.tdiv (a : Int) 10 = ((a / 10 : Nat) : Int) := Int.ofNat_tdiv a 10; by_cases c : a < 10
  ·refine ⟨2, fun k hk => ?_⟩
   obtain ⟨j, rfl⟩ : ∃ j, k = j + 2 := ⟨k - 2, by omega⟩
   show qbM.l0 (j + 2) a (bs x) = _
   simp only [qbM.l0]; rw [if_pos (by omega), qax, hd, hq, qa5 (by omega) (by omega), qfb, if_pos (by rw [qcN, qcN]; simp only [List.length_cons, List.length_nil]; omega), if_neg (by omega), if_pos (by rw [qcN, List.length_append]; simp only [List.length_cons, List.length_nil]; omega), show (⟨#[109]⟩ : ByteArray) = bs [109] from rfl, qfb, decDigits_one c, Nat.mod_eq_of_lt c]; rfl
  ·obtain ⟨K, h⟩ := ih (a / 10) (by omega) (UInt8.ofNat (48 + a % 10) :: x) (by omega) (by rw [List.length_cons]; omega)
   refine Ev.mk' K fun k hk => ?_
   have h := h k hk; dsimp only at h; simp only [qbM.l0]; rw [if_pos (by omega), qax, hd, hq, qa5 (by omega) (by omega), qfb, if_pos (by rw [qcN, qcN]; simp only [List.length_cons, List.length_nil]; omega)]; rw [qoe c, List.append_assoc]; exact h
theorem qkt (a : Nat) (h1 : 1 ≤ a) (h2 : a ≤ 10000) : Ev (fun k => qbM.f k (a : Int)) (bs (109 :: decDigits a)) := by
 obtain ⟨K, h⟩ := qoP a [] h1 (by simpa using h2); rw [List.append_nil] at h; exact ⟨K, fun k hk => by show (if _ then _ else _) = _; rw [if_neg (by omega)]; exact h k hk⟩
def qgE (a : Nat) : Nat → List ByteArray
 | 0 => []
 | n + 1 => bs (109 :: decDigits a) :: qgE (a + 1) n
theorem qmb (n : Nat) : ∀ a, (qgE a n).length = n := by
 induction n with
 | zero => intro a; rfl
 | succ n ih => intro a; simp [qgE, ih]
theorem qhX : ∀ (d i a : Nat) (x : List ByteArray), i + d = x.length → 1 ≤ a → a + d ≤ 10000 → x.length ≤ 1000 → Ev (fun k => qbA.l0 k x (a : Int) (i : Int)) (((a + d : Nat) : Int), x.take i ++ qgE a d)
 | 0, i, a, x, h, h0, h1, h2 => Ev.mk' 0 fun k _ => by
  simp only [qbA.l0]; rw [if_neg (by omega), List.take_of_length_le (by omega)]; simp [qgE]
 | d + 1, i, a, x, h, h0, h1, h2 => by
  obtain ⟨K, ih⟩ := qhX d (i + 1) (a + 1) (x.set i (bs (109 :: decDigits a))) (by simp; omega) (by omega) (by omega) (by simpa using h2); obtain ⟨K2, ht⟩ := qkt a h0 (by omega)
  refine Ev.mk' (K + K2) fun k hk => ?_
  have ih := ih k (by omega); have ht := ht k (by omega); dsimp only at ih ht; simp only [qbA.l0, Int.toNat_natCast]; rw [if_pos (by omega), ht, qax, if_pos (by omega), show wrap64 ((i : Int) + 1) = ((i + 1 : Nat) : Int) from by rw [qa5 (by omega) (by omega)]; omega, show wrap64 ((a : Int) + 1) = ((a + 1 : Nat) : Int) from by rw [qa5 (by omega) (by omega)]; omega, ih, qsO x i _ (by omega)]
  congr 2
  ·omega
  ·simp [qgE]
theorem qkU (x : List ByteArray) (h2 : x.length ≤ 1000) : Ev (fun k => qbA.f k x 1) (((1 + x.length : Nat) : Int), qgE 1 x.length) := by
 obtain ⟨K, h⟩ := qhX x.length 0 1 x (by omega) (by omega) (by omega) h2; exact ⟨K, fun k hk => h k hk⟩
theorem qhU : ∀ (d a : Nat) (p : List ByteArray), 1 ≤ a → a + d ≤ 10000 → p.length + d ≤ 1000 → Ev (fun k => qbq.l0 k (p ++ qgE a d) (a : Int) (p.length : Int)) ((a + d : Nat) : Int)
 | 0, a, p, h0, h1, h2 => Ev.mk' 0 fun k _ => by
  simp only [qbq.l0]; rw [if_neg (by simp [qgE])]; simp
 | d + 1, a, p, h0, h1, h2 => by
  obtain ⟨K, ih⟩ := qhU d (a + 1) (p ++ [bs (109 :: decDigits a)]) (by omega) (by omega) (by simp; omega); obtain ⟨K2, ht⟩ := qkt a h0 (by omega)
  refine Ev.mk' (K + K2) fun k hk => ?_
  have ih := ih k (by omega); have ht := ht k (by omega); dsimp only at ih ht; simp only [qbq.l0]
  have hr : qeW ByteArray.empty (p ++ qgE a (d + 1)) (p.length : Int) = bs (109 :: decDigits a) := by simp [qeW, qgE]
  rw [if_pos (by simp [qmb]; omega), if_pos (by omega), ht, qax, hr, if_pos rfl, show wrap64 ((p.length : Int) + 1) = ((p.length + 1 : Nat) : Int) from by rw [qa5 (by omega) (by omega)]; omega, show wrap64 ((a : Int) + 1) = ((a + 1 : Nat) : Int) from by rw [qa5 (by omega) (by omega)]; omega]; simp only [List.length_append, List.length_singleton, List.append_assoc, List.singleton_append] at ih; rw [qgE, ih]
  congr 1; omega
theorem qkS (n : Nat) (h2 : n ≤ 1000) : Ev (fun k => qbq.f k (qgE 1 n) 1) ((1 + n : Nat) : Int) := by
 obtain ⟨K, h⟩ := qhU n 1 [] (by omega) (by omega) (by simpa using h2); exact ⟨K, fun k hk => h k hk⟩
end
def lefts (l : List qac) (i : Int) : Nat → List Int
 | 0 => []
 | m + 1 => (if left l i = true then [i] else []) ++ lefts l (i + 1) m
theorem qjl (l : List qac) (m : Nat) : ∀ i, (lefts l i m).length ≤ m := by
 induction m with
 | zero => intro i; simp [lefts]
 | succ m ih =>
  intro i; have := ih (i + 1); simp only [lefts, List.length_append]
  split <;> simp <;> omega
theorem qgu (l : List qac) (hl : l.all qbC = true) (hi : Int) (h2 : hi ≤ 4611686018427387904) : ∀ (m : Nat) (i : Int) (acc : List Int), i + m = hi + 1 → -4611686018427387904 ≤ i → acc.length + m < 17592186044416 → Ev (fun k => qaA.l0 k l hi acc i) (acc ++ lefts l i m)
 | 0, i, acc, h, h0, h1 => Ev.mk' 0 fun k _ => by
  simp only [qaA.l0]; rw [if_neg (by omega)]; simp [lefts]
 | m + 1, i, acc, h, h0, h1 => by
  simp only [lefts]; by_cases hc : left l i = true
  ·obtain ⟨K, ih⟩ := qgu l hl hi h2 m (i + 1) (acc ++ [i]) (by omega) (by omega) (by simp; omega)
   dsimp only at ih
   refine Ev.mk' K fun k hk => ?_
   simp only [qaA.l0, qgd i l hl, Option.bind_some]; rw [if_pos (by omega), if_pos hc, if_pos (by omega), qa5 (by omega) (by omega), ih k hk, if_pos hc]
   simp
  ·obtain ⟨K, ih⟩ := qgu l hl hi h2 m (i + 1) acc (by omega) (by omega) (by omega)
   dsimp only at ih
   refine Ev.mk' K fun k hk => ?_
   simp only [qaA.l0, qgd i l hl, Option.bind_some]; rw [if_pos (by omega), if_neg hc, qa5 (by omega) (by omega), ih k hk, if_neg hc]
   simp
def qgv (l : List qac) (lo hi : Int) : List Int := lefts l lo (hi + 1 - lo).toNat
theorem qhW (l : List qac) (hl : l.all qbC = true) (lo hi : Int) (h0 : -4611686018427387904 ≤ lo) (h2 : hi ≤ 4611686018427387904) (h1 : hi - lo < 17592186044415) : Ev (fun k => qaA.f k l lo hi) (qgv l lo hi) := by
 unfold qgv; by_cases h : lo ≤ hi + 1
 ·obtain ⟨K, ih⟩ := qgu l hl hi h2 (hi + 1 - lo).toNat lo [] (by omega) h0 (by simp; omega)
  refine ⟨K, fun k hk => ?_⟩; simp only [qaA.f]
  simpa using ih k hk
 ·refine Ev.mk' 0 fun k _ => ?_
  simp only [qaA.f, qaA.l0]; rw [if_neg (by omega), show (hi + 1 - lo).toNat = 0 by omega]; rfl
theorem qiJ (l : List qac) (hm : l.length ≤ 12) (hl : l.all qbC = true) (hi : Int) (h2 : hi ≤ 4611686018427387904) : ∀ (m : Nat) (i : Int) (acc : List Int), i + m = hi + 1 → -4611686018427387904 ≤ i → acc.length + m < 17592186044416 → Ev (fun k => qbV.l0 k l hi acc i) (acc ++ lefts l i m)
 | 0, i, acc, h, h0, h1 => Ev.mk' 0 fun k _ => by
  simp only [qbV.l0]; rw [if_neg (by omega)]; simp [lefts]
 | m + 1, i, acc, h, h0, h1 => by
  obtain ⟨K1, h3⟩ := qhA i l (by omega) hl; dsimp only at h3; simp only [lefts]; by_cases hc : left l i = true
  ·obtain ⟨K, ih⟩ := qiJ l hm hl hi h2 m (i + 1) (acc ++ [i]) (by omega) (by omega) (by simp; omega)
   dsimp only at ih
   refine Ev.mk' (K + K1) fun k hk => ?_
   simp only [qbV.l0, h3 k (by omega), Option.bind_some]; rw [if_pos (by omega), if_pos hc, if_pos (by omega), qa5 (by omega) (by omega), ih k (by omega), if_pos hc]
   simp
  ·obtain ⟨K, ih⟩ := qiJ l hm hl hi h2 m (i + 1) acc (by omega) (by omega) (by omega)
   dsimp only at ih
   refine Ev.mk' (K + K1) fun k hk => ?_
   simp only [qbV.l0, h3 k (by omega), Option.bind_some]; rw [if_pos (by omega), if_neg hc, qa5 (by omega) (by omega), ih k (by omega), if_neg hc]
   simp
theorem qsC (l : List qac) (hm : l.length ≤ 12) (hl : l.all qbC = true) (n : Int) (h0 : 0 ≤ n) (h1 : n ≤ 600) : Ev (fun k => qbV.f k l n) (qgv l 1 n) := by
 obtain ⟨K, ih⟩ := qiJ l hm hl n (by omega) (n + 1 - 1).toNat 1 [] (by omega) (by omega) (by simp; omega); exact ⟨K, fun k hk => ih k hk⟩
def qex (n : Int) : Bool := decide (0 ≤ n) && decide (n ≤ 600)
theorem qsD (l : List qac) (n : Int) : Ev (fun k => qdF.f k l n) (qaG l && qex n) := by
 obtain ⟨K, h⟩ := qe0 l; refine ⟨K, fun k hk => ?_⟩; have h := h k hk; dsimp only at h; simp only [qdF.f, h, Option.bind_some, qdX, qex]
 cases qaG l <;> simp
theorem qsf (n : Int) : qe4.f n = some (qex n) := by
 unfold qe4.f qex
 by_cases h : 0 ≤ n <;> simp [h]
theorem qkT (l : List qac) (lo hi : Int) : (qgv l lo hi).length ≤ (hi + 1 - lo).toNat := qjl _ _ _
def p12 : List Int := [2, 3, 5, 7, 11, 13, 17, 19, 23, 29, 31, 37]
def PR (n : Nat) : List qac := (p12.take n).map fun p => ⟨p, 0⟩
theorem n12 {n : Nat} (h : n ≤ 12) : n = 0 ∨ n = 1 ∨ n = 2 ∨ n = 3 ∨ n = 4 ∨ n = 5 ∨ n = 6 ∨ n = 7 ∨ n = 8 ∨ n = 9 ∨ n = 10 ∨ n = 11 ∨ n = 12 := by omega
theorem rop_ok (k n : Nat) (h : n ≤ 12) : qbt.f (k + 60) (n : Int) = some (PR n) := by
 rcases n12 h with rfl | rfl | rfl | rfl | rfl | rfl | rfl | rfl | rfl | rfl | rfl | rfl | rfl <;> kernel_rfl
theorem prr_ok (k n : Nat) (h : n ≤ 12) : qcj.f (k + 60) (n : Int) = some (PR n) := by
 rcases n12 h with rfl | rfl | rfl | rfl | rfl | rfl | rfl | rfl | rfl | rfl | rfl | rfl | rfl <;> kernel_rfl
theorem PR_good {n : Nat} (h : n ≤ 12) : qaG (PR n) = true := by
 rcases n12 h with rfl | rfl | rfl | rfl | rfl | rfl | rfl | rfl | rfl | rfl | rfl | rfl | rfl <;> decide
theorem qn0 (n : Nat) : ∃ v : List qac × Bool, (v.2 = true → qaG v.1 = true) ∧ Ev (fun k => qcz.f k (n : Int)) v ∧ Ev (fun k => qcC.f k (n : Int)) v := by
 by_cases c : n ≤ 12
 ·refine ⟨(PR n, true), fun _ => PR_good c, ⟨60, fun k hk => ?_⟩, ⟨60, fun k hk => ?_⟩⟩ <;> obtain ⟨j, rfl⟩ : ∃ j, k = j + 60 := ⟨k - 60, by omega⟩
  ·show qcz.f (j + 60) n = _
   unfold qcz.f; rw [if_neg (by omega), if_neg (by omega), rop_ok j n c, qax]
  ·show qcC.f (j + 60) n = _
   unfold qcC.f qgl.f; rw [qdX, qax, qax, decide_eq_true (show (0 : Int) ≤ n by omega), decide_eq_true (show (n : Int) ≤ 12 by omega), prr_ok j n c]; rfl
 ·refine ⟨([], false), fun h => absurd h (by decide), ⟨0, fun k hk => ?_⟩, ⟨0, fun k hk => ?_⟩⟩
  ·show qcz.f k n = _
   unfold qcz.f; rw [if_neg (by omega), if_pos (by omega)]
  ·show qcC.f k n = _
   unfold qcC.f qgl.f; rw [qdX, qax, qax, decide_eq_true (show (0 : Int) ≤ n by omega), decide_eq_false (show ¬ (n : Int) ≤ 12 by omega)]; rfl
theorem qmy : Ev (fun k => qdO.f k) (([⟨2, 0⟩, ⟨3, 0⟩] : List qac), 30) := by
 refine ⟨60, fun k hk => ?_⟩
 obtain ⟨j, rfl⟩ : ∃ j, k = j + 60 := ⟨k - 60, by omega⟩
 show qdO.f (j + 60) = _
 unfold qdO.f; rw [show qcj.f (j + 60) 2 = some (PR 2) from prr_ok j 2 (by omega), qax]; rfl
section
open Lib
def toR (p : Nat × Nat) : qac := ⟨(p.1 : Int), (p.2 : Int)⟩
theorem toR_rp {r : qac} (h : qbC r = true) : toR (rp r) = r := by
 obtain ⟨e1, e2, -⟩ := qlp h; unfold toR; rw [← e1, ← e2]
theorem map_toR {l : List qac} (h : l.all qbC = true) : (l.map rp).map toR = l := by
 rw [List.map_map]
 conv => rhs; rw [← List.map_id l]
 exact List.map_congr_left fun r hr => toR_rp (List.all_eq_true.1 h r hr)
def fin_ (s : ByteArray) (L : List qac) : List qac × Bool := (L, qaG L && ((RT L).toList == s.toList))
theorem qo2 (s : ByteArray) (L : List qac) (i : Nat) (h : s.size < i) : Ev (fun k => qaH.l0 k s L 0 0 (i : Int)) (fin_ s L) := by
 obtain ⟨K1, h1⟩ := qe0 L; unfold fin_; by_cases hg : qaG L = true
 ·obtain ⟨K2, h2⟩ := qnz L hg
  refine Ev.mk' (K1 + K2) fun k hk => ?_
  have h1 := h1 k (by omega); have h2 := h2 k (by omega); dsimp only at h1 h2; simp only [qaH.l0]; rw [if_neg (by omega), h1, qax, hg, if_pos rfl, h2, qax, Bool.true_and]
 ·refine Ev.mk' K1 fun k hk => ?_
  have h1 := h1 k (by omega); dsimp only at h1; simp only [qaH.l0]; rw [if_neg (by omega), h1, qax, if_neg hg, Bool.eq_false_iff.2 hg, Bool.false_and]
theorem qf1 (s : ByteArray) (hz : s.size ≤ 72) : ∀ (d i : Nat) (x : List qac) (n ev : Nat), i + d = s.size → n ≤ 1000 → x.length ≤ i → Ev (fun k => qaH.l0 k s x (n : Int) (ev : Int) (i : Int)) (fin_ s (x ++ (spP (s.data.toList.drop i) n ev).map toR))
 | 0, i, x, n, ev, h, hn, hx => by
  have hl : s.data.toList.length = s.size := Array.length_toList; obtain ⟨K, h1⟩ := qo2 s (x ++ [(⟨(ev : Int), (n : Int)⟩ : qac)]) (i + 1) (by omega); refine ⟨K + 2, fun k hk => ?_⟩
  obtain ⟨j, rfl⟩ : ∃ j, k = j + 2 := ⟨k - 2, by omega⟩
  have h1 := h1 j (by omega); dsimp only at h1
  show qaH.l0 (j + 2) s x n ev i = _
  simp only [qaH.l0, qaH.j1]; rw [if_pos (by omega), if_pos (by omega), if_pos trivial, if_pos (by omega), qa5 (by omega) (by omega), show ((i : Int) + 1) = ((i + 1 : Nat) : Int) by omega, h1, List.drop_eq_nil_of_le (by omega)]; rfl
 | d + 1, i, x, n, ev, h, hn, hx => by
  have hl : s.data.toList.length = s.size := Array.length_toList; have hd : s.data.toList.drop i = s.data.toList[i]'(by omega) :: s.data.toList.drop (i + 1) := List.drop_eq_getElem_cons (by omega); have hb := qlT s i (by omega)
  obtain ⟨c, hc⟩ : ∃ c, c = s.data.toList[i]'(by omega) := ⟨_, rfl⟩
  rw [← hc] at hd hb
  have hw : wrap64 ((i : Int) + 1) = ((i + 1 : Nat) : Int) := by rw [qa5 (by omega) (by omega)]; omega
  have hlt : c.toNat < 256 := c.toNat_lt; rw [hd]; simp only [spP]; by_cases c1 : c = 44
  ·obtain ⟨K, ih⟩ := qf1 s hz d (i + 1) (x ++ [(⟨(ev : Int), (n : Int)⟩ : qac)]) 0 0 (by omega) (by omega) (by simp; omega)
   refine ⟨K + 2, fun k hk => ?_⟩
   obtain ⟨j, rfl⟩ : ∃ j, k = j + 2 := ⟨k - 2, by omega⟩
   have ih := ih j (by omega); dsimp only at ih
   show qaH.l0 (j + 2) s x n ev i = _
   have e : (bt s (i : Int) == 44) = true := beq_iff_eq.2 (by rw [hb, c1]; rfl); simp only [qaH.l0, qaH.j1]; rw [if_pos (by omega), if_neg (by omega), if_pos (by omega), if_pos (by omega), if_pos e, if_pos (by omega), hw, if_pos c1]; refine Eq.trans ih ?_
   simp [toR]
  ·have e : (bt s (i : Int) == 44) = false := beq_eq_false_iff_ne.2 (fun e_ => c1 (u8_eq (n := 44) (by decide) (by rw [← hb, e_]; rfl)))
   rw [if_neg c1]; by_cases c2 : c = 58
   ·obtain ⟨K, ih⟩ := qf1 s hz d (i + 1) x 0 n (by omega) (by omega) (by omega)
    refine ⟨K + 2, fun k hk => ?_⟩
    obtain ⟨j, rfl⟩ : ∃ j, k = j + 2 := ⟨k - 2, by omega⟩
    have ih := ih j (by omega); dsimp only at ih
    show qaH.l0 (j + 2) s x n ev i = _
    simp only [qaH.l0, qaH.j1]; rw [if_pos (by omega), if_neg (by omega), if_pos (by omega), if_pos (by omega), e, if_neg (by decide), if_pos (by omega), if_pos (by omega), if_pos (by rw [hb, c2]; rfl), hw, if_pos c2]; exact ih
   ·have e2 : ¬ bt s (i : Int) = 58 := fun e_ => c2 (u8_eq (n := 58) (by decide) (by rw [← hb, e_]; rfl))
    rw [if_neg c2]; by_cases c3 : qmS c = true
    ·have c4 := (qeG c).1 c3
     obtain ⟨K, ih⟩ := qf1 s hz d (i + 1) x (min 1000 (10 * n + (c.toNat - 48))) ev (by omega) (by omega) (by omega); refine ⟨K + 2, fun k hk => ?_⟩
     obtain ⟨j, rfl⟩ : ∃ j, k = j + 2 := ⟨k - 2, by omega⟩
     have ih := ih j (by omega); dsimp only at ih
     show qaH.l0 (j + 2) s x n ev i = _
     have el : qfd.f 1000 (wrap64 (wrap64 (10 * (n : Int)) + (bt s (i : Int) - 48) % 256)) = some ((min 1000 (10 * n + (c.toNat - 48)) : Nat) : Int) := by
      rw [qa5 (n := 10 * (n : Int)) (by omega) (by omega), show (bt s (i : Int) - 48) % 256 = ((c.toNat - 48 : Nat) : Int) by omega, qa5 (by omega) (by omega)]; unfold qfd.f
      split <;> (congr 1; omega)
     simp only [qaH.l0, qaH.j1]; rw [if_pos (by omega), if_neg (by omega), if_pos (by omega), if_pos (by omega), e, if_neg (by decide), if_pos (by omega), if_pos (by omega), if_neg e2, if_pos (by omega), if_pos (by omega), el, qax, hw, if_pos c3]; exact ih
    ·obtain ⟨K, ih⟩ := qf1 s hz d (i + 1) x n ev (by omega) (by omega) (by omega)
     refine ⟨K + 2, fun k hk => ?_⟩
     obtain ⟨j, rfl⟩ : ∃ j, k = j + 2 := ⟨k - 2, by omega⟩
     have ih := ih j (by omega); dsimp only at ih; rw [if_neg c3]; rw [qeG] at c3
     show qaH.l0 (j + 2) s x n ev i = _
     simp only [qaH.l0, qaH.j1]; rw [if_pos (by omega), if_neg (by omega), if_pos (by omega), if_pos (by omega), e, if_neg (by decide), if_pos (by omega), if_pos (by omega), if_neg e2, hw]; by_cases c5 : bt s (i : Int) ≥ 48
     ·rw [if_pos c5, if_neg (by omega)]; exact ih
     ·rw [if_neg c5]; exact ih
theorem RT_size {l : List qac} (hg : qaG l = true) : (RT l).size ≤ 72 := by
 obtain ⟨hm, hl⟩ := qb4 hg; by_cases c : l = []
 ·subst c; decide
 ·rw [qlM c, qcN]
  have := qni 44 5 (l.map rT) (fun w hw => by obtain ⟨r, hr, rfl⟩ := List.mem_map.1 hw; exact qsy (List.all_eq_true.1 hl r hr)); rw [List.length_map] at this; omega
theorem qpe {r : qac} (h : qbC r = true) : qfW (bs (rT r)) = some r := by
 obtain ⟨e1, e2, h1, h2, h3⟩ := qlp h; unfold qfW rT qi2; rw [qgr, ql1 58 _ _ (qrp (qdz _).1.2.1 (by decide)), qlQ _ (by omega), qlQ _ (by omega)]; simp only []; rw [← e1, ← e2]
theorem qjt : ∀ l : List qac, l.all qbC = true → qdJ (bas (l.map rT)) = some l
 | [], _ => rfl
 | r :: l, h => by
  rw [List.all_cons, Bool.and_eq_true] at h
  show qdJ (bs (rT r) :: bas (l.map rT)) = _
  unfold qdJ; rw [qpe h.1, qax, qjt l h.2, qax]
theorem spP_RT {l : List qac} (hg : qaG l = true) (hne : l ≠ []) : (spP (RT l).data.toList 0 0).map toR = l := by
 obtain ⟨hm, hl⟩ := qb4 hg; rw [qlM hne, qgr]
 have hb : ∀ r ∈ l, (rp r).1 ≤ 1000 ∧ (rp r).2 ≤ 1000 := fun r hr => by
  obtain ⟨-, -, h1, h2, h3⟩ := qlp (List.all_eq_true.1 hl r hr); omega
 cases l with
 | nil => exact absurd rfl hne
 | cons r t =>
  have h1 := qnB (t.map rp) (rp r) (hb r List.mem_cons_self).1 (hb r List.mem_cons_self).2 (fun y hy => by obtain ⟨z, hz, rfl⟩ := List.mem_map.1 hy; exact hb z (List.mem_cons_of_mem _ hz))
  have h2 : (r :: t).map rT = (rp r :: t.map rp).map qi2 := by simp [rT]
  rw [h2, h1]; exact map_toR hl
theorem qnf (s : ByteArray) {l : List qac} (hg : qaG l = true) (e : RT l = s) : Ev (fun k => qaT.l0 k s l) (l, true) := by
 obtain ⟨K, h⟩ := qfK l hg; refine ⟨K, fun k hk => ?_⟩; have h := h k hk; dsimp only at h
 show qaT.l0 k s l = _
 unfold qaT.l0; rw [qds, qax, hg, if_pos rfl, h, qax, e, if_pos rfl]
theorem qjR (s : ByteArray) (hz : s.size ≤ 1048576) : ∃ v : List qac × Bool, Ev (fun k => qby.f k s) v ∧ Ev (fun k => qaT.f k s) v ∧ (v.2 = true → qaG v.1 = true) := by
 by_cases c0 : s.toList = [45]
 ·have e : RT [] = s := qq8 (by rw [c0]; exact qhk [45])
  refine ⟨([], true), ⟨0, fun k _ => ?_⟩, ?_, fun _ => rfl⟩
  ·show qby.f k s = _
   unfold qby.f qaH.f; rw [if_pos c0]; rfl
  ·obtain ⟨K, h⟩ := qnf s (l := []) rfl e
   refine ⟨K, fun k hk => ?_⟩
   show qaT.f k s = _
   unfold qaT.f; rw [if_pos hz, if_pos c0]; exact h k hk
 ·by_cases c : ∃ l, qaG l = true ∧ RT l = s
  ·obtain ⟨l, hg, e⟩ := c
   have hne : l ≠ [] := fun h => c0 (by rw [← e, h]; exact qhk [45])
   have hs := RT_size hg; rw [e] at hs; refine ⟨(l, true), ?_, ?_, fun _ => hg⟩
   ·obtain ⟨K, h⟩ := qf1 s hs s.size 0 [] 0 0 (by omega) (by omega) (by simp)
    rw [List.drop_zero, List.nil_append] at h; have h1 := spP_RT hg hne; rw [e] at h1; rw [h1] at h; refine ⟨K, fun k hk => ?_⟩; have h : qaH.l0 k s [] 0 0 0 = _ := h k hk
    show qby.f k s = _
    unfold qby.f qaH.f; rw [if_neg c0, if_neg (by omega), h, qax]; unfold fin_; rw [e, hg]
    simp
   ·obtain ⟨K, h⟩ := qnf s hg e
    refine ⟨K, fun k hk => ?_⟩
    show qaT.f k s = _
    unfold qaT.f
    have h1 : spl 44 s.data.toList = l.map rT := by
     have h2 := qqF (l.map rp) (by simpa using hne); rw [← e]
     show spl 44 (bs (qnv (l.map rp))).data.toList = _
     rw [qgr, h2, List.map_map]; rfl
    rw [if_pos hz, if_neg c0, qin, h1, qjt l (qb4 hg).2]; exact h k hk
  ·have hn : ∀ l, qaG l = true → RT l ≠ s := fun l hg e => c ⟨l, hg, e⟩
   refine ⟨([], false), ?_, ?_, fun h => absurd h (by decide)⟩
   ·by_cases c1 : (s.size : Int) > 72
    ·refine ⟨0, fun k _ => ?_⟩
     show qby.f k s = _
     unfold qby.f qaH.f; rw [if_neg c0, if_pos c1]; rfl
    ·obtain ⟨K, h⟩ := qf1 s (by omega) s.size 0 [] 0 0 (by omega) (by omega) (by simp)
     rw [List.drop_zero, List.nil_append] at h; refine ⟨K, fun k hk => ?_⟩; have h : qaH.l0 k s [] 0 0 0 = _ := h k hk
     show qby.f k s = _
     unfold qby.f qaH.f; rw [if_neg c0, if_neg c1, h, qax]; unfold fin_; rw [if_neg]; intro h2; rw [Bool.and_eq_true, beq_iff_eq] at h2; exact hn _ h2.1 (qq8 h2.2)
   ·cases hw : qdJ (qgw 44 s) with
    | none =>
     refine ⟨0, fun k _ => ?_⟩
     show qaT.f k s = _
     unfold qaT.f; rw [if_pos hz, if_neg c0, hw]
    | some l =>
     by_cases hg : qaG l = true
     ·obtain ⟨K, h⟩ := qfK l hg
      refine ⟨K, fun k hk => ?_⟩; have h := h k hk; dsimp only at h
      show qaT.f k s = _
      unfold qaT.f; rw [if_pos hz, if_neg c0, hw]; simp only []; unfold qaT.l0; rw [qds, qax, hg, if_pos rfl, h, qax, if_neg]; intro h2; exact hn l hg (qq8 h2)
     ·refine ⟨0, fun k _ => ?_⟩
      show qaT.f k s = _
      unfold qaT.f; rw [if_pos hz, if_neg c0, hw]; simp only []; unfold qaT.l0; rw [qds, qax, if_neg hg]
end
theorem wn {a : Nat} (h : a ≤ 1000000000000) : wrap64 (a : Int) = (a : Int) := qa5 (by omega) (by omega)
theorem qpd {a : Nat} (h1 : a ≤ 1000000000000) : wrap64 ((a : Int) + 1) = ((a + 1 : Nat) : Int) := by rw [qa5 (by omega) (by omega)]; omega
theorem wsub {a b : Nat} (h1 : a ≤ 1000000000000) (h2 : b ≤ a) : wrap64 ((a : Int) - (b : Int)) = ((a - b : Nat) : Int) := by rw [qa5 (by omega) (by omega)]; omega
theorem wmul {a b : Nat} (h1 : a ≤ 1000000) (h2 : b ≤ 1000000) : wrap64 ((a : Int) * (b : Int)) = ((a * b : Nat) : Int) := by
 have h := Nat.mul_le_mul h1 h2; rw [← Int.natCast_mul, qa5 (by omega) (by omega)]
def qhf (p : Nat × Nat) : List Int := [(p.1 : Int), (p.2 : Int)]
def Prm (p : Nat) : Prop := 2 ≤ p ∧ ∀ d, d ∣ p → d = 1 ∨ d = p
theorem Prm.cop {p : Nat} (h : Prm p) (k : Nat) : Nat.Coprime p k ∨ p ∣ k := by
 rcases h.2 (Nat.gcd p k) (Nat.gcd_dvd_left p k) with e | e
 ·exact .inl e
 ·exact .inr (e ▸ Nat.gcd_dvd_right p k)
theorem qh5 {p : Nat} (h : Prm p) : ∀ (e k : Nat), k ∣ p^e → ∃ i, i ≤ e ∧ k = p^i
 | 0, k, hk => ⟨0, Nat.le_refl _, Nat.dvd_one.mp hk⟩
 | e+1, k, hk => by
  rcases h.cop k with c | ⟨q, rfl⟩
  ·have h1 : k ∣ p^e := by
    rw [Nat.pow_succ] at hk; exact c.symm.dvd_of_dvd_mul_right hk
   obtain ⟨i, h2, h3⟩ := qh5 h e k h1; exact ⟨i, by omega, h3⟩
  ·rw [Nat.pow_succ, Nat.mul_comm] at hk
   have h1 : q ∣ p^e := by
    have := h.1; exact Nat.dvd_of_mul_dvd_mul_right (by omega : 0 < p) hk
   obtain ⟨i, h2, h3⟩ := qh5 h e q h1; exact ⟨i+1, by omega, by rw [h3, Nat.pow_succ, Nat.mul_comm]⟩
def qlr (p : Nat) (acc : List Nat) : Nat → List Nat
 | 0 => []
 | e+1 => qlr p acc e ++ acc.map (fun d => d * p^(e+1))
theorem qjJ (p : Nat) (acc : List Nat) : ∀ (e d : Nat), d ∈ qlr p acc e ↔ ∃ i, 1 ≤ i ∧ i ≤ e ∧ ∃ x ∈ acc, d = x * p^i
 | 0, d => by simp [qlr]; omega
 | e+1, d => by
  rw [qlr, List.mem_append, qjJ p acc e d, List.mem_map]; constructor
  ·rintro (⟨i, h1, h2, h3⟩ | ⟨x, h1, h2⟩)
   ·exact ⟨i, h1, by omega, h3⟩
   ·exact ⟨e+1, by omega, Nat.le_refl _, x, h1, h2.symm⟩
  ·rintro ⟨i, h1, h2, x, h3, h4⟩
   by_cases c : i = e + 1
   ·subst c; exact .inr ⟨x, h3, h4.symm⟩
   ·exact .inl ⟨i, h1, by omega, x, h3, h4⟩
theorem qpU {p : Nat} (h : Prm p) {x y i j : Nat} (hx : Nat.Coprime p x) (hy : Nat.Coprime p y) (e : x * p^i = y * p^j) : i = j := by
 have hp : 0 < p := by have := h.1; omega
 have key : ∀ (i j x y : Nat), Nat.Coprime p x → x * p^i = y * p^j → j ≤ i := by
  intro i j x y hx e
  refine Nat.le_of_not_lt fun c => ?_
  obtain ⟨d, rfl⟩ : ∃ d, j = i + (d+1) := ⟨j - i - 1, by omega⟩
  rw [Nat.pow_add, ← Nat.mul_assoc, Nat.mul_right_comm] at e; have e2 : x = y * p^(d+1) := Nat.eq_of_mul_eq_mul_right (Nat.pow_pos hp) e
  have h3 : p ∣ x := by rw [e2, Nat.pow_succ, ← Nat.mul_assoc]; exact Nat.dvd_mul_left _ _
  have h4 : p ∣ Nat.gcd p x := Nat.dvd_gcd (Nat.dvd_refl p) h3; rw [hx] at h4; have := Nat.dvd_one.mp h4; have := h.1; omega
 have a := key i j x y hx e; have b := key j i y x hy e.symm; omega
def qhS (a : Nat) (acc : List Nat) : Prop := acc.Nodup ∧ ∀ d, d ∈ acc ↔ d ∣ a
theorem qhS.one : qhS 1 [1] := ⟨by simp, fun d => by simp [Nat.dvd_one]⟩
theorem qls {p a : Nat} (hp : Prm p) (hc : Nat.Coprime p a) {acc : List Nat} (h : qhS a acc) : ∀ e, (qlr p acc e).Nodup
 | 0 => by simp [qlr]
 | e+1 => by
  rw [qlr]
  have hp0 : 0 < p := by have := hp.1; omega
  refine List.nodup_append.2 ⟨qls hp hc h e, ?_, ?_⟩
  ·refine List.pairwise_map.2 (h.1.imp fun {a b} hab heq => hab (Nat.eq_of_mul_eq_mul_right (Nat.pow_pos hp0) heq))
  ·intro d hd d' hd' heq
   subst heq; obtain ⟨i, h1, h2, x, h3, h4⟩ := (qjJ p acc e d).1 hd; obtain ⟨y, h5, h6⟩ := List.mem_map.1 hd'; have cx : Nat.Coprime p x := Nat.Coprime.coprime_dvd_right ((h.2 x).1 h3) hc; have cy : Nat.Coprime p y := Nat.Coprime.coprime_dvd_right ((h.2 y).1 h5) hc; have := qpU hp cx cy (h4.symm.trans h6.symm); omega
theorem qhS.step {p a : Nat} (hp : Prm p) (hc : Nat.Coprime p a) {acc : List Nat} (h : qhS a acc) (e : Nat) : qhS (a * p^e) (acc ++ qlr p acc e) := by
 have hp0 : 0 < p := by have := hp.1; omega
 refine ⟨List.nodup_append.2 ⟨h.1, qls hp hc h e, ?_⟩, fun d => ?_⟩
 ·intro d hd d' hd' heq
  subst heq; obtain ⟨i, h1, h2, x, h3, h4⟩ := (qjJ p acc e d).1 hd'; have cx : Nat.Coprime p x := Nat.Coprime.coprime_dvd_right ((h.2 x).1 h3) hc; have cd : Nat.Coprime p d := Nat.Coprime.coprime_dvd_right ((h.2 d).1 hd) hc; have := qpU hp cd cx (i := 0) (j := i) (by rw [Nat.pow_zero, Nat.mul_one]; exact h4); omega
 ·rw [List.mem_append, qjJ, h.2]
  constructor
  ·rintro (h1 | ⟨i, h1, h2, x, h3, rfl⟩)
   ·exact Nat.dvd_trans h1 (Nat.dvd_mul_right _ _)
   ·exact Nat.mul_dvd_mul ((h.2 x).1 h3) (Nat.pow_dvd_pow p h2)
  ·intro hd
   obtain ⟨x, k, h1, h2, rfl⟩ := Nat.dvd_mul.1 hd; obtain ⟨i, h3, rfl⟩ := qh5 hp e k h2; by_cases c : i = 0
   ·subst c
    left; rw [Nat.pow_zero, Nat.mul_one]; exact h1
   ·exact .inr ⟨i, by omega, h3, x, (h.2 x).2 h1, rfl⟩
theorem qi1 : ∀ (A B : List Nat), A.Pairwise (· < ·) → B.Pairwise (· < ·) → (∀ d, d ∈ A ↔ d ∈ B) → A = B
 | [], [], _, _, _ => rfl
 | [], b :: B, _, _, h => absurd ((h b).2 List.mem_cons_self) (by simp)
 | a :: A, [], _, _, h => absurd ((h a).1 List.mem_cons_self) (by simp)
 | a :: A, b :: B, hA, hB, h => by
  obtain ⟨a1, a2⟩ := List.pairwise_cons.1 hA; obtain ⟨b1, b2⟩ := List.pairwise_cons.1 hB
  have e : a = b := by
   rcases List.mem_cons.1 ((h a).1 List.mem_cons_self) with e | e
   ·exact e
   ·rcases List.mem_cons.1 ((h b).2 List.mem_cons_self) with e2 | e2
    ·exact e2.symm
    ·have := b1 a e; have := a1 b e2; omega
  subst e
  congr 1
  refine qi1 A B a2 b2 fun d => ?_
  have hd := h d; rw [List.mem_cons, List.mem_cons] at hd; constructor
  ·intro hm
   rcases hd.1 (.inr hm) with e | e
   ·subst e; have := a1 d hm; omega
   ·exact e
  ·intro hm
   rcases hd.2 (.inr hm) with e | e
   ·subst e; have := b1 d hm; omega
   ·exact e
def qpo (n : Nat) : List Nat := ((List.range n).map (· + 1)).filter (fun d => n % d == 0)
theorem ql2 (n d : Nat) (hn : 1 ≤ n) : d ∈ qpo n ↔ d ∣ n := by
 unfold qpo; rw [List.mem_filter, List.mem_map, beq_iff_eq, ← Nat.dvd_iff_mod_eq_zero]; constructor
 ·exact fun h => h.2
 ·intro h
  have := Nat.le_of_dvd hn h; have := Nat.pos_of_dvd_of_pos h hn; exact ⟨⟨d - 1, List.mem_range.2 (by omega), by omega⟩, h⟩
theorem qj2 (n : Nat) : (qpo n).Pairwise (· < ·) := by
 unfold qpo; refine List.Pairwise.filter _ ?_; rw [List.pairwise_map]
 exact List.pairwise_lt_range.imp fun h => by omega
def qpO (n r : Nat) : List Nat := ((List.range r).map (· + 1)).filter (fun d => n % d == 0)
def qkd (n r : Nat) : List Nat := (((qpO n r).filter (fun d => d * d < n)).map (fun d => n / d)).reverse
theorem qgU (n r d : Nat) : d ∈ qpO n r ↔ 1 ≤ d ∧ d ≤ r ∧ d ∣ n := by
 unfold qpO; rw [List.mem_filter, List.mem_map, beq_iff_eq, ← Nat.dvd_iff_mod_eq_zero]; constructor
 ·rintro ⟨⟨x, hx, rfl⟩, h⟩
  have := List.mem_range.1 hx; exact ⟨by omega, by omega, h⟩
 ·rintro ⟨h1, h2, h3⟩
  exact ⟨⟨d - 1, List.mem_range.2 (by omega), by omega⟩, h3⟩
theorem qkq (n r : Nat) : (qpO n r).Pairwise (· < ·) := by
 unfold qpO; refine List.Pairwise.filter _ ?_; rw [List.pairwise_map]
 exact List.pairwise_lt_range.imp fun h => by omega
theorem quot_lt {n a b : Nat} (ha : a ∣ n) (hb : b ∣ n) (hn : 1 ≤ n) (h : a < b) : n / b < n / a := by
 obtain ⟨x, rfl⟩ := ha; obtain ⟨y, hy⟩ := hb
 have ha0 : 0 < a := Nat.pos_of_ne_zero fun h0 => by rw [h0, Nat.zero_mul] at hn; omega
 have hx0 : 0 < x := Nat.pos_of_ne_zero fun h0 => by rw [h0, Nat.mul_zero] at hn; omega
 rw [Nat.mul_div_cancel_left _ ha0]; rw [Nat.div_lt_iff_lt_mul (by omega)]; have : x * a < x * b := Nat.mul_lt_mul_of_pos_left h hx0; rw [Nat.mul_comm a x]; exact this
theorem qrq (n r : Nat) (hn : 1 ≤ n) (h1 : r * r ≤ n) (h2 : n < (r+1) * (r+1)) : qpO n r ++ qkd n r = qpo n := by
 have key : ∀ d, d ∣ n → 1 ≤ d ∧ d * (n / d) = n := fun d hd => ⟨Nat.pos_of_dvd_of_pos hd hn, Nat.mul_div_cancel' hd⟩
 refine qi1 _ _ (List.pairwise_append.2 ⟨qkq n r, ?_, ?_⟩) (qj2 n) fun d => ?_
 ·unfold qkd
  rw [List.pairwise_reverse, List.pairwise_map]; refine List.Pairwise.imp_of_mem (R := (· < ·)) (fun {a b} ha hb hab => ?_) ((qkq n r).filter _); exact quot_lt ((qgU n r a).1 (List.mem_filter.1 ha).1).2.2 ((qgU n r b).1 (List.mem_filter.1 hb).1).2.2 hn hab
 ·intro a ha b hb
  unfold qkd at hb; rw [List.mem_reverse, List.mem_map] at hb; obtain ⟨d, hd, rfl⟩ := hb; obtain ⟨hd1, hd2⟩ := List.mem_filter.1 hd; obtain ⟨d1, d2, d3⟩ := (qgU n r d).1 hd1; obtain ⟨a1, a2, a3⟩ := (qgU n r a).1 ha; have hd2 : d * d < n := of_decide_eq_true hd2; have hq := (key d d3).2
  refine Nat.lt_of_not_le fun hc => ?_
  have hq2 : n / d ≤ r := by omega
  have : d < n / d := Nat.lt_of_not_le fun h => by
   have : d * (n / d) ≤ d * d := Nat.mul_le_mul_left _ h; omega
  have h3 : d * (n / d) ≤ (r - 1) * r := Nat.mul_le_mul (by omega) hq2; have h4 : (r - 1) * r < r * r := Nat.mul_lt_mul_of_pos_right (by omega) (by omega); omega
 ·rw [List.mem_append, qgU, ql2 n d hn]
  unfold qkd; rw [List.mem_reverse, List.mem_map]; constructor
  ·rintro (h | ⟨x, hx, rfl⟩)
   ·exact h.2.2
   ·obtain ⟨hx1, -⟩ := List.mem_filter.1 hx
    obtain ⟨x1, x2, x3⟩ := (qgU n r x).1 hx1; exact ⟨x, by have := (key x x3).2; rw [Nat.mul_comm]; omega⟩
  ·intro hd
   obtain ⟨d1, hq⟩ := key d hd; by_cases c : d ≤ r
   ·exact .inl ⟨d1, c, hd⟩
   ·right
    have hqd : n / d ∣ n := ⟨d, by rw [Nat.mul_comm]; omega⟩
    obtain ⟨q1, hq1⟩ := key _ hqd
    have hlt : n / d < d := Nat.lt_of_not_le fun h => by
     have h3 : (r+1) * (r+1) ≤ d * (n / d) := Nat.mul_le_mul (by omega) (by omega); omega
    have hle : n / d ≤ r := Nat.le_of_not_lt fun h => by
     have h3 : (r+1) * (r+1) ≤ d * (n / d) := Nat.mul_le_mul (by omega) (by omega); omega
    refine ⟨n / d, List.mem_filter.2 ⟨(qgU n r _).2 ⟨q1, hle, hqd⟩, decide_eq_true ?_⟩, ?_⟩
    ·have : n / d * (n / d) < d * (n / d) := Nat.mul_lt_mul_of_pos_right hlt q1
     omega
    ·exact Nat.eq_of_mul_eq_mul_left q1 (by rw [hq1, Nat.mul_comm]; exact hq.symm)
theorem qo7 {n : Nat} (hn : 1 ≤ n) {acc s : List Nat} (h : qhS n acc) (hp : s.Perm acc) (hs : s.Pairwise (· ≤ ·)) : s = qpo n := by
 refine qi1 _ _ ?_ (qj2 n) fun d => by rw [hp.mem_iff, h.2, ql2 n d hn]
 have hnd : s.Nodup := hp.nodup_iff.2 h.1; refine List.Pairwise.imp (R := fun a b => a ≤ b ∧ a ≠ b) (fun {a b} h => by omega) ?_; exact List.pairwise_and_iff.2 ⟨hs, hnd⟩
def qqX (x p : Nat) : Prop := 2 ≤ p ∧ p ∣ x ∧ ∀ d, 2 ≤ d → d < p → ¬ d ∣ x
theorem qqX.prm {x p : Nat} (h : qqX x p) : Prm p := by
 refine ⟨h.1, fun d hd => ?_⟩
 have hp : 0 < p := by have := h.1; omega
 have h1 := Nat.le_of_dvd hp hd; have h2 := Nat.pos_of_dvd_of_pos hd hp; by_cases c1 : d = 1
 ·exact .inl c1
 by_cases c2 : d = p
 ·exact .inr c2
 exact absurd (Nat.dvd_trans hd h.2.1) (h.2.2 d (by omega) (by omega))
theorem qln {x d : Nat} (hx : 2 ≤ x) (hd : ∀ q, 2 ≤ q → q < d → ¬ q ∣ x) (h : x < d * d) : qqX x x := by
 refine ⟨hx, Nat.dvd_refl x, fun q h1 h2 hq => ?_⟩
 have hqd : d ≤ q := Nat.le_of_not_lt fun c => hd q h1 c hq
 obtain ⟨r, hr⟩ := hq
 have hr2 : 2 ≤ r := by
  rcases r with _ | _ | r
  ·simp at hr; omega
  ·simp at hr; omega
  ·omega
 have hrd : r < d := Nat.lt_of_not_le fun c => by
  have := Nat.mul_le_mul hqd c; omega
 exact hd r hr2 hrd ⟨q, by rw [Nat.mul_comm]; exact hr⟩
theorem qhM (a b : Nat) : Int.tmod (a : Int) (b : Int) = ((a % b : Nat) : Int) := Int.ofNat_tmod a b
theorem qjO (a b : Nat) : Int.tdiv (a : Int) (b : Int) = ((a / b : Nat) : Int) := Int.ofNat_tdiv a b
theorem lf_l0 {x : Nat} (hx : 2 ≤ x) (hn : x ≤ 1000000) : ∀ (s d : Nat), d + s = 1001 → 2 ≤ d → (∀ q, 2 ≤ q → q < d → ¬ q ∣ x) → ∃ p, qqX x p ∧ Ev (fun k => qbc.l0 k (x : Int) (d : Int)) (p : Int)
 | 0, d, e, h2, hq => by
  have hd : d = 1001 := by omega
  refine ⟨x, qln hx hq (by rw [hd]; omega), Ev.mk' 0 fun k _ => ?_⟩; simp only [qbc.l0]; rw [wmul (by omega) (by omega), if_neg (by rw [hd]; omega)]
 | s + 1, d, e, h2, hq => by
  by_cases c1 : d * d ≤ x
  ·by_cases c2 : d ∣ x
   ·refine ⟨d, ⟨h2, c2, hq⟩, Ev.mk' 0 fun k _ => ?_⟩
    simp only [qbc.l0]; rw [wmul (by omega) (by omega), if_pos (by omega), if_neg (by omega), qhM, if_pos (by rw [Nat.mod_eq_zero_of_dvd c2]; rfl)]
   ·obtain ⟨p, h3, K, hK⟩ := lf_l0 hx hn s (d + 1) (by omega) (by omega) (fun q h4 h5 => by
     by_cases c3 : q = d
     ·rw [c3]; exact c2
     ·exact hq q h4 (by omega))
    refine ⟨p, h3, Ev.mk' K fun k hk => ?_⟩; have h6 := hK k hk; simp only [qbc.l0]; rw [wmul (by omega) (by omega), if_pos (by omega), if_neg (by omega), qhM, if_neg (by intro h7; exact c2 (Nat.dvd_of_mod_eq_zero (by omega))), qpd (by omega)]; exact h6
  ·refine ⟨x, qln hx hq (by omega), Ev.mk' 0 fun k _ => ?_⟩
   simp only [qbc.l0]; rw [wmul (by omega) (by omega), if_neg (by omega)]
theorem qhV {x : Nat} (hx : 2 ≤ x) (hn : x ≤ 1000000) : ∃ p, qqX x p ∧ Ev (fun k => qbc.f k (x : Int)) (p : Int) := lf_l0 hx hn 999 2 rfl (by omega) (fun q h1 h2 => by omega)
inductive Fac : List (Nat × Nat) → Nat → Prop
 | one : Fac [] 1
 | snoc {l : List (Nat × Nat)} {m p e : Nat} : Fac l m → Prm p → 1 ≤ e → Nat.Coprime p m → Fac (l ++ [(p, e)]) (m * p ^ e)
theorem Fac.pos {l : List (Nat × Nat)} {m : Nat} (h : Fac l m) : 1 ≤ m := by
 induction h with
 | one => omega
 | snoc h hp he hc ih =>
  have := hp.1; exact Nat.mul_pos ih (Nat.pow_pos (by omega))
theorem qi7 {p e : Nat} (hp : 2 ≤ p) : e < p ^ e := Nat.lt_of_lt_of_le Nat.lt_two_pow_self (Nat.pow_le_pow_left hp e)
theorem Fac.len {l : List (Nat × Nat)} {m : Nat} (h : Fac l m) : l.length < m := by
 induction h with
 | one => simp
 | @snoc l m p e h hp he hc ih =>
  rw [List.length_append, List.length_singleton]; have h1 : 2 ^ 1 ≤ p ^ e := Nat.le_trans (Nat.pow_le_pow_right (by omega) he) (Nat.pow_le_pow_left hp.1 e); have h2 := Nat.mul_le_mul (Nat.le_refl m) h1; omega
theorem qnF {p : Nat} (hp : 2 ≤ p) : ∀ (s x : Nat), x ≤ s → 1 ≤ x → ∃ e y, x = p ^ e * y ∧ ¬ p ∣ y ∧ 1 ≤ y
 | 0, x, h1, h2 => by omega
 | s + 1, x, h1, h2 => by
  by_cases c : p ∣ x
  ·obtain ⟨z, rfl⟩ := c
   have hz : 1 ≤ z := Nat.pos_of_ne_zero fun h => by subst h; simp at h2
   have hlt : z < p * z := by
    have := Nat.mul_le_mul hp (Nat.le_refl z); omega
   obtain ⟨e, y, e1, e2, e3⟩ := qnF hp s z (by omega) hz; exact ⟨e + 1, y, by rw [e1, Nat.pow_succ, Nat.mul_comm (p ^ e) p, Nat.mul_assoc], e2, e3⟩
  ·exact ⟨0, x, by simp, c, h2⟩
theorem fac_l1 {p y : Nat} (hp : 2 ≤ p) (hy : ¬ p ∣ y) (hy1 : 1 ≤ y) (x3 : List (List Int)) (hl : x3.length < 1000000) (r : List (List Int)) : ∀ (j i e : Nat), i + j = e → e ≤ 1000 → p ^ j * y ≤ 1000000 → Ev (fun k => qaW.l0 k (y : Int) (x3 ++ [qhf (p, e)])) r → Ev (fun k => qaW.l1 k ((p ^ j * y : Nat) : Int) x3 (p : Int) (i : Int)) r
 | 0, i, e, he, hb, hx, hr => by
  obtain ⟨K, hK⟩ := hr
  refine Ev.mk' K fun k hk => ?_
  have h1 := hK k hk; simp only [qaW.l1]; rw [Nat.pow_zero, Nat.one_mul, if_neg (by omega), qhM, if_neg (by intro h7; exact hy (Nat.dvd_of_mod_eq_zero (by omega))), if_pos (by omega)]
  have : i = e := by omega
  subst this; exact h1
 | j + 1, i, e, he, hb, hx, hr => by
  have e1 : p ^ (j + 1) * y = p * (p ^ j * y) := by rw [Nat.pow_succ, Nat.mul_comm (p ^ j) p, Nat.mul_assoc]
  have hle : p ^ j * y ≤ p ^ (j + 1) * y := by rw [e1]; exact Nat.le_mul_of_pos_left _ (by omega)
  obtain ⟨K, hK⟩ := fac_l1 hp hy hy1 x3 hl r j (i + 1) e (by omega) hb (by omega) hr
  refine Ev.mk' K fun k hk => ?_
  have h1 := hK k hk; simp only [qaW.l1]; rw [if_neg (by omega), qhM, if_pos (by rw [e1, Nat.mul_mod_right]; rfl), qjO, show p ^ (j + 1) * y / p = p ^ j * y by rw [e1]; exact Nat.mul_div_cancel_left _ (by omega), wn (by omega), qpd (by omega)]; exact h1
theorem fac_l0 : ∀ (s x m : Nat) (l : List (Nat × Nat)), x ≤ s → 1 ≤ x → m * x ≤ 1000000 → Fac l m → Nat.Coprime m x → ∃ l', Fac l' (m * x) ∧ Ev (fun k => qaW.l0 k (x : Int) (l.map qhf)) (l'.map qhf)
 | 0, x, m, l, h1, h2, _, _, _ => by omega
 | s + 1, x, m, l, h1, h2, hn, hF, hc => by
  by_cases c1 : 2 ≤ x
  ·have hm := hF.pos
   have hxn : x ≤ 1000000 := Nat.le_trans (Nat.le_mul_of_pos_left _ hm) hn; obtain ⟨p, hL, K1, hK1⟩ := qhV c1 hxn; obtain ⟨e, y, e1, e2, e3⟩ := qnF hL.1 x x (Nat.le_refl _) h2
   have he : 1 ≤ e := Nat.pos_of_ne_zero fun h => by
    subst h; rw [Nat.pow_zero, Nat.one_mul] at e1; exact e2 (e1 ▸ hL.2.1)
   have hpp := hL.prm
   have hcp : Nat.Coprime p m := by
    rcases hpp.cop m with h | h
    ·exact h
    ·have h4 : p ∣ Nat.gcd m x := Nat.dvd_gcd h hL.2.1
     rw [hc] at h4; have := Nat.dvd_one.1 h4; have := hL.1; omega
   have hF2 : Fac (l ++ [(p, e)]) (m * p ^ e) := .snoc hF hpp he hcp
   have hlt : y < x := by
    have : 2 ^ 1 ≤ p ^ e := Nat.le_trans (Nat.pow_le_pow_right (by omega) he) (Nat.pow_le_pow_left hL.1 e); have := Nat.mul_le_mul this (Nat.le_refl y); omega
   have hcy : Nat.Coprime (m * p ^ e) y := by
    refine Nat.Coprime.mul_left ?_ ?_
    ·exact Nat.Coprime.coprime_dvd_right ⟨p ^ e, by rw [e1, Nat.mul_comm]⟩ hc
    ·refine Nat.Coprime.pow_left e ?_
     rcases hpp.cop y with h | h
     ·exact h
     ·exact absurd h e2
   have hmul : m * p ^ e * y = m * x := by rw [e1, Nat.mul_assoc]
   obtain ⟨l', g1, g2⟩ := fac_l0 s y (m * p ^ e) (l ++ [(p, e)]) (by omega) e3 (by omega) hF2 hcy; rw [hmul] at g1; refine ⟨l', g1, ?_⟩; have hlen := hF.len; have hm2 : m ≤ m * x := Nat.le_mul_of_pos_right _ h2; have hee : e < p ^ e := qi7 hL.1; have hpe : p ^ e ≤ p ^ e * y := Nat.le_mul_of_pos_right _ e3
   have e9 : e ≤ 1000 := by
    refine Nat.le_of_not_lt fun h => ?_
    have hp0 : 0 < p := by have := hL.1; omega
    have h5 : 2 ^ 20 ≤ p ^ e := Nat.le_trans (Nat.pow_le_pow_left hL.1 20) (Nat.pow_le_pow_right hp0 (by omega)); omega
   obtain ⟨K2, hK2⟩ := fac_l1 hL.1 e2 e3 (l.map qhf) (by rw [List.length_map]; exact Nat.lt_of_lt_of_le hlen (Nat.le_trans hm2 hn)) (l'.map qhf) e 0 e (by omega) e9 (by omega) (by rw [List.map_append] at g2; exact g2)
   refine Ev.mk' (K1 + K2) fun k hk => ?_
   have h7 := hK1 k (by omega); have h8 := hK2 k (by omega); dsimp only at h7 h8; simp only [qaW.l0]; rw [if_pos (by omega), h7, qax, e1]; exact h8
  ·have hx : x = 1 := by omega
   subst hx; refine ⟨l, by rw [Nat.mul_one]; exact hF, Ev.mk' 0 fun k _ => ?_⟩; simp only [qaW.l0]; rw [if_neg (by omega)]
theorem qiU {n : Nat} (h1 : 1 ≤ n) (hn : n ≤ 1000000) : ∃ l, Fac l n ∧ Ev (fun k => qaW.f k (n : Int)) (l.map qhf) := by
 obtain ⟨l, h2, h3⟩ := fac_l0 n n 1 [] (Nat.le_refl _) h1 (by omega) .one (Nat.coprime_one_left n); rw [Nat.one_mul] at h2; exact ⟨l, h2, h3⟩
def cz (l : List Nat) : List Int := l.map fun (d : Nat) => (d : Int)
theorem qfG (l : List Nat) : (cz l).length = l.length := List.length_map _
theorem qk9 (a b : List Nat) : cz (a ++ b) = cz a ++ cz b := List.map_append
theorem rd_cz (pre rest : List Nat) (d : Nat) : rd (cz (pre ++ d :: rest)) (pre.length : Int) = (d : Int) := by
 simp [rd, cz, List.getD]
theorem rdI_row (pre rest : List (Nat × Nat)) (p : Nat × Nat) : qa0 ((pre ++ p :: rest).map qhf) (pre.length : Int) = qhf p := by
 simp [qa0, List.getD]
theorem dv_l2 {R : List Int} {row : List Int} {x6 x13 x14 x22 : Int} {x12 : List (List Int)} {q j : Nat} (hq : q ≤ 1000000) (hj : j ≤ 1000000) (y : List Nat) (hy : ∀ d ∈ y, d ≤ 1000000) : ∀ (rest pre z : List Nat), y = pre ++ rest → z.length + rest.length ≤ 1000000 → y.length ≤ 1000000 →
  Ev (fun k => qaR.l1 k (cz (z ++ rest.map (fun d => d * q))) row x6 (q : Int) x12 x13 x14 x22 ((j + 1 : Nat) : Int)) R →
  Ev (fun k => qaR.l2 k (cz z) row x6 (q : Int) x12 x13 x14 x22 (j : Int) (cz y) (y.length : Int) (pre.length : Int)) R
 | [], pre, z, e, hz, hyl, hR => by
  obtain ⟨K, hK⟩ := hR
  refine Ev.mk' K fun k hk => ?_
  have h1 := hK k hk; rw [List.append_nil] at e; subst e; simp only [qaR.l2]; rw [if_neg (by omega), qpd (by omega)]
  simpa using h1
 | d :: rest, pre, z, e, hz, hyl, hR => by
  have hd : d ≤ 1000000 := hy d (by rw [e]; simp)
  obtain ⟨K, hK⟩ := dv_l2 hq hj y hy rest (pre ++ [d]) (z ++ [d * q]) (by rw [e]; simp) (by simp only [List.length_append, List.length_singleton, List.length_cons, List.length_nil] at *; omega) hyl (by
   rw [List.append_assoc]; exact hR)
  refine Ev.mk' K fun k hk => ?_
  have h1 := hK k hk
  have hl : pre.length < y.length := by rw [e]; simp
  have hz2 : z.length ≤ 1000000 := by simp only [List.length_cons] at hz; omega
  simp only [qaR.l2]; rw [if_pos (by omega), if_pos (by omega), if_pos (by rw [qfG]; omega), if_pos (by rw [qfG]; omega), qpd (by omega)]; rw [e, rd_cz, wmul hd hq, ← e]; rw [List.length_append, List.length_singleton] at h1; rw [qk9] at h1; exact h1
theorem dv_l1 {R : List Int} {x13 : Int} {x12 : List (List Int)} {p e i : Nat} (acc : List Nat) (he : e ≤ 1000) (hi : i ≤ 1000000) (hp : 1 ≤ p) (hpe : p ^ e ≤ 1000000) (ha : ∀ d ∈ acc, d ≤ 1000000) (hl : acc.length * (e + 1) ≤ 1000000) : ∀ (s j : Nat), j + s = e →
  Ev (fun k => qaR.l0 k (cz (acc ++ qlr p acc e)) x12 x13 ((i + 1 : Nat) : Int)) R →
  Ev (fun k => qaR.l1 k (cz (acc ++ qlr p acc j)) (qhf (p, e)) (acc.length : Int) ((p ^ j : Nat) : Int) x12 x13 (i : Int) (e : Int) (j : Int)) R
 | 0, j, ej, hR => by
  have : j = e := by omega
  subst this; obtain ⟨K, hK⟩ := hR
  refine Ev.mk' K fun k hk => ?_
  have h1 := hK k hk; simp only [qaR.l1]; rw [if_neg (by omega), qpd (by omega)]; exact h1
 | s + 1, j, ej, hR => by
  have hlen : ∀ j, (qlr p acc j).length = acc.length * j := by
   intro j
   induction j with
   | zero => rfl
   | succ j ih => rw [qlr, List.length_append, List.length_map, ih, Nat.mul_succ]
  have hpj : p ^ (j + 1) ≤ 1000000 := Nat.le_trans (Nat.pow_le_pow_right hp (by omega)) hpe; have hpj0 : p ^ j ≤ 1000000 := Nat.le_trans (Nat.pow_le_pow_right hp (by omega)) hpe
  have hp1 : p ≤ 1000000 := by
   have := Nat.pow_le_pow_right hp (show 1 ≤ e by omega); rw [Nat.pow_one] at this; omega
  have hm : acc.length * (j + 2) ≤ acc.length * (e + 1) := Nat.mul_le_mul_left _ (by omega)
  have hm2 : acc.length * (j + 2) = acc.length * j + acc.length + acc.length := by rw [Nat.mul_add]; omega
  have h2 := dv_l1 acc he hi hp hpe ha hl s (j + 1) (by omega) hR; rw [qlr, ← List.append_assoc] at h2; obtain ⟨K, hK⟩ := dv_l2 (R := R) (row := qhf (p, e)) (x6 := (acc.length : Int)) (x13 := x13) (x14 := (i : Int)) (x22 := (e : Int)) (x12 := x12) (q := p ^ (j + 1)) (j := j) (by omega) (by omega) acc ha acc [] (acc ++ qlr p acc j) rfl (by rw [List.length_append, hlen]; omega) (by omega) h2
  refine Ev.mk' K fun k hk => ?_
  have h1 := hK k hk; simp only [qaR.l1]; rw [if_pos (by omega), if_pos (by simp [qhf]), if_pos (by omega), if_pos (by rw [qfG, List.length_append]; omega), qax]
  have e1 : List.take ((acc.length : Int)).toNat (cz (acc ++ qlr p acc j)) = cz acc := by
   rw [Int.toNat_natCast, qk9, List.take_append_of_le_length (by rw [qfG]; exact Nat.le_refl _), List.take_of_length_le (by rw [qfG]; exact Nat.le_refl _)]
  rw [e1, qfG, show rd (qhf (p, e)) 0 = (p : Int) from rfl, wmul (by omega) (by omega), ← Nat.pow_succ]; exact h1
def qgo : Nat → List (Nat × Nat) → Nat → Prop
 | m, [], n => m = n
 | m, (p, e) :: l, n => Prm p ∧ 1 ≤ e ∧ Nat.Coprime p m ∧ qgo (m * p ^ e) l n
theorem qgo.dvd : ∀ (l : List (Nat × Nat)) (m n : Nat), qgo m l n → m ∣ n
 | [], m, n, h => by
  have h : m = n := h; exact h ▸ Nat.dvd_refl m
 | (p, e) :: l, m, n, h => Nat.dvd_trans (Nat.dvd_mul_right m (p ^ e)) (qgo.dvd l _ n h.2.2.2)
theorem Fac.from_ {l : List (Nat × Nat)} {m : Nat} (h : Fac l m) : ∀ (r : List (Nat × Nat)) (n : Nat), qgo m r n → qgo 1 (l ++ r) n := by
 induction h with
 | one => intro r n hr; exact hr
 | snoc h hp he hc ih =>
  intro r n hr; rw [List.append_assoc]; exact ih _ n ⟨hp, he, hc, hr⟩
theorem Fac.all {l : List (Nat × Nat)} {n : Nat} (h : Fac l n) : qgo 1 l n := by
 have := h.from_ [] n rfl; rwa [List.append_nil] at this
theorem sortI_cz {n : Nat} (hn : 1 ≤ n) {acc : List Nat} (h : qhS n acc) : qhB (cz acc) = cz (qpo n) := by
 have hp : (qhB (cz acc)).Perm (cz acc) := List.mergeSort_perm _ _; have hs : (qhB (cz acc)).Pairwise (fun a b => decide (a ≤ b) = true) := List.pairwise_mergeSort (fun a b c h1 h2 => by simp at *; omega) (fun a b => by simp; omega) _
 have hnn : ∀ x ∈ qhB (cz acc), 0 ≤ x := fun x hx => by
  have := hp.mem_iff.1 hx; obtain ⟨d, -, rfl⟩ := List.mem_map.1 this; exact Int.natCast_nonneg d
 have e1 : cz ((qhB (cz acc)).map Int.toNat) = qhB (cz acc) := by
  unfold cz; rw [List.map_map]; refine (List.map_congr_left fun x hx => ?_).trans (List.map_id _); have := hnn x hx
  show ((x.toNat : Nat) : Int) = x
  omega
 have h2 : ((qhB (cz acc)).map Int.toNat).Perm acc := by
  have := hp.map Int.toNat
  have e2 : (cz acc).map Int.toNat = acc := by
   unfold cz; rw [List.map_map]; exact (List.map_congr_left fun x _ => rfl).trans (List.map_id _)
  rwa [e2] at this
 have h3 : ((qhB (cz acc)).map Int.toNat).Pairwise (· ≤ ·) := by
  rw [List.pairwise_map]
  exact hs.imp fun h => by have := of_decide_eq_true h; omega
 rw [← e1, qo7 hn h h2 h3]
theorem dv_l0 {n : Nat} (h1 : 1 ≤ n) (hn : n ≤ 1000000) (L : List (Nat × Nat)) (hL : L.length ≤ 1000000) : ∀ (rest pre : List (Nat × Nat)) (acc : List Nat) (m : Nat), L = pre ++ rest → qgo m rest n → qhS m acc → acc.length ≤ m →
  Ev (fun k => qaR.l0 k (cz acc) (L.map qhf) (L.length : Int) (pre.length : Int)) (cz (qpo n))
 | [], pre, acc, m, e, hF, hA, hal => by
  have hF : m = n := hF; subst hF; rw [List.append_nil] at e; subst e
  have hpos : 0 < acc.length := by
   have : 1 ∈ acc := (hA.2 1).2 (Nat.one_dvd _); exact List.length_pos_of_mem this
  refine Ev.mk' 0 fun k _ => ?_
  simp only [qaR.l0]; rw [if_neg (by omega), if_pos ⟨by rw [qfG]; exact hpos, by rw [qfG]; omega⟩, sortI_cz h1 hA]
 | (p, e) :: rest, pre, acc, m, eL, hF, hA, hal => by
  obtain ⟨hp, he, hc, hF2⟩ := hF; have hd := Nat.le_of_dvd h1 (qgo.dvd rest _ n hF2)
  have hm : 1 ≤ m := by
   have h3 : 1 ≤ m * p ^ e := Nat.pos_of_dvd_of_pos (qgo.dvd rest _ n hF2) h1
   exact Nat.pos_of_ne_zero fun h => by subst h; simp at h3
  have hp2 := hp.1; have hee : e < p ^ e := qi7 hp2; have hpe : p ^ e ≤ m * p ^ e := Nat.le_mul_of_pos_left _ hm; have hme : m ≤ m * p ^ e := Nat.le_mul_of_pos_right _ (Nat.pow_pos (by omega))
  have e9 : e ≤ 1000 := by
   refine Nat.le_of_not_lt fun h => ?_
   have hp0 : 0 < p := by omega
   have h5 : 2 ^ 20 ≤ p ^ e := Nat.le_trans (Nat.pow_le_pow_left hp2 20) (Nat.pow_le_pow_right hp0 (by omega)); omega
  have hlm : acc.length * (e + 1) ≤ m * p ^ e := Nat.mul_le_mul hal (by omega)
  have hlen : (acc ++ qlr p acc e).length ≤ m * p ^ e := by
   have hlen2 : ∀ j, (qlr p acc j).length = acc.length * j := by
    intro j
    induction j with
    | zero => rfl
    | succ j ih => rw [qlr, List.length_append, List.length_map, ih, Nat.mul_succ]
   rw [List.length_append, hlen2]; have : acc.length * (e + 1) = acc.length * e + acc.length := Nat.mul_succ _ _; omega
  have hacc : ∀ d ∈ acc, d ≤ 1000000 := fun d hd' => by
   have := Nat.le_of_dvd hm ((hA.2 d).1 hd'); omega
  have h4 := dv_l0 h1 hn L hL rest (pre ++ [(p, e)]) (acc ++ qlr p acc e) (m * p ^ e) (by rw [eL]; simp) hF2 (hA.step hp hc e) hlen; rw [List.length_append, List.length_singleton] at h4
  have hpl : pre.length < L.length := by rw [eL]; simp
  obtain ⟨K, hK⟩ := dv_l1 (R := cz (qpo n)) (x13 := (L.length : Int)) (x12 := L.map qhf) (p := p) (e := e) (i := pre.length) acc e9 (by omega) (by omega) (by omega) hacc (by omega) e 0 (by omega) h4
  refine Ev.mk' K fun k hk => ?_
  have h5 := hK k hk; simp only [qaR.l0]
  have er : qa0 (L.map qhf) (pre.length : Int) = qhf (p, e) := by rw [eL]; exact rdI_row pre rest (p, e)
  rw [if_pos (by omega), if_pos (by omega), if_pos (by rw [List.length_map]; omega), er, if_pos (by simp [qhf]), qfG, show rd (qhf (p, e)) 1 = (e : Int) from rfl]; simp only [qlr, List.append_nil, Nat.pow_zero] at h5; exact h5
theorem qof {n : Nat} (h1 : 1 ≤ n) (hn : n ≤ 1000000) : Ev (fun k => qaR.f k (n : Int)) (cz (qpo n)) := by
 obtain ⟨l, hF, K1, hK1⟩ := qiU h1 hn; have hlen := hF.len; obtain ⟨K2, hK2⟩ := dv_l0 h1 hn l (by omega) l [] [1] 1 rfl hF.all qhS.one (Nat.le_refl _); refine ⟨K1 + K2, fun k hk => ?_⟩; have h3 := hK1 k (by omega); have h4 := hK2 k (by omega); dsimp only at h3 h4; simp only [qaR.f]; rw [h3, qax, List.length_map]; exact h4
section
open Lib
theorem rdz (l : List Nat) (i : Nat) (h : i < l.length) : rd (cz l) (i : Int) = ((l[i] : Nat) : Int) := by
 unfold rd cz; rw [Int.toNat_natCast, List.getD_eq_getElem?_getD, List.getElem?_map, List.getElem?_eq_getElem h]; rfl
theorem qpm {α : Type} (f : α → List UInt8) (l : List α) (i : Nat) (h : i < l.length) : bas ((l.take (i + 1)).map f) = bas ((l.take i).map f) ++ [bs (f l[i])] := by
 rw [List.take_succ_eq_append_getElem h, List.map_append]; unfold bas; rw [List.map_append]; rfl
def LT (l : List Nat) : ByteArray := if l = [] then bs [45] else bs (qfg 44 (l.map decDigits))
structure Sm (l : List Nat) : Prop where
 len : l.length ≤ 1000000
 all : ∀ n ∈ l, n ≤ 10000000
theorem Sm.get {l : List Nat} (h : Sm l) (i : Nat) (hi : i < l.length) : l[i] ≤ 10000000 := h.all _ (List.getElem_mem _)
theorem Sm.word {l : List Nat} (h : Sm l) : ∀ w ∈ l.map decDigits, w.length ≤ 20000000 := fun w hw => by
 obtain ⟨n, hn, rfl⟩ := List.mem_map.1 hw; have := h.all n hn; have := qmQ n; omega
theorem qjZ (l : List Nat) (hs : Sm l) : ∀ (d i : Nat) (x : List UInt8), i + d = l.length → x = qfg 44 ((l.take i).map decDigits) → x.length ≤ 20000000 * i → Ev (fun k => qbU.l0 k (bs x) (cz l) ((cz l).length : Int) (i : Int)) (bs (qfg 44 (l.map decDigits)))
 | 0, i, x, h, hx, hk => Ev.mk' 0 fun k _ => by
  simp only [qbU.l0]; rw [qfG, if_neg (by omega), hx, List.take_of_length_le (by omega)]
 | d + 1, i, x, h, hx, hk => by
  have hm := hs.len; have hn := hs.get i (by omega); obtain ⟨K1, n1⟩ := qpR l[i] (by omega); have l1 := qmQ l[i]; have hr := rdz l i (by omega); by_cases c : i = 0
  ·obtain ⟨K, ih⟩ := qjZ l hs d (i + 1) (x ++ decDigits l[i]) (by omega) (by rw [List.take_succ_eq_append_getElem (by omega), hx]; subst c; simp [qfg]) (by rw [List.length_append]; omega)
   refine Ev.mk' (K + K1) fun k hk => ?_
   have ih := ih k (by omega); have n1 := n1 k (by omega); dsimp only at ih n1; simp only [qbU.l0]; rw [qfG] at ih ⊢; rw [if_pos (by omega), if_pos (by omega), if_pos (by omega), if_neg (by omega), hr, n1, qax, if_pos (by rw [qcN, qcN]; omega), qfb, qa5 (by omega) (by omega), show ((i : Int) + 1) = ((i + 1 : Nat) : Int) by omega, ih]
  ·obtain ⟨K, ih⟩ := qjZ l hs d (i + 1) (x ++ 44 :: decDigits l[i]) (by omega) (by rw [List.take_succ_eq_append_getElem (by omega), List.map_append, List.map_cons, List.map_nil, qiZ _ _ _ (by simp; exact ⟨c, fun e => by rw [e] at h; simp at h⟩), hx]) (by rw [List.length_append, List.length_cons]; omega)
   refine Ev.mk' (K + K1) fun k hk => ?_
   have ih := ih k (by omega); have n1 := n1 k (by omega); dsimp only at ih n1; simp only [qbU.l0]; rw [qfG] at ih ⊢; rw [if_pos (by omega), if_pos (by omega), if_pos (by omega), if_pos (by omega), if_pos (by rw [qcN]; omega), hr, n1, qax, show (⟨#[44]⟩ : ByteArray) = bs [44] from rfl, qfb, if_pos (by rw [qcN, qcN, List.length_append]; simp only [List.length_cons, List.length_nil]; omega), qfb, qa5 (by omega) (by omega), show ((i : Int) + 1) = ((i + 1 : Nat) : Int) by omega, show x ++ [44] ++ decDigits l[i] = x ++ 44 :: decDigits l[i] by simp, ih]
theorem qmO (l : List Nat) (hs : Sm l) : Ev (fun k => qbU.f k (cz l)) (LT l) := by
 unfold LT; by_cases c : l = []
 ·subst c; exact ⟨0, fun k _ => rfl⟩
 ·obtain ⟨K, h⟩ := qjZ l hs l.length 0 [] (by omega) rfl (by simp)
  have h0 : l.length ≠ 0 := fun e => c (List.length_eq_zero_iff.1 e)
  refine ⟨K, fun k hk => ?_⟩
  show qbU.f k (cz l) = _
  unfold qbU.f; rw [if_neg (by rw [qfG]; omega), if_neg c]; exact h k hk
theorem qkp (l : List Nat) (hs : Sm l) : ∀ (d i : Nat), i + d = l.length → Ev (fun k => qbn.l0 k (bas ((l.take i).map decDigits)) (cz l) ((cz l).length : Int) (i : Int)) (LT l)
 | 0, i, h => Ev.mk' 0 fun k _ => by
  simp only [qbn.l0]; unfold LT; rw [qfG, if_neg (by omega), List.take_of_length_le (by omega)]; by_cases c : l = []
  ·subst c; rfl
  ·have h0 : l.length ≠ 0 := fun e => c (List.length_eq_zero_iff.1 e)
   have hk : (bas (l.map decDigits)).length = l.length := by unfold bas; simp
   have hm := hs.len; rw [if_neg (by omega), qoI 44 _ (by simpa using c) (by rw [List.length_map]; omega) hs.word, qax, if_neg c]
 | d + 1, i, h => by
  have hm := hs.len; have hn := hs.get i (by omega); have hr := rdz l i (by omega); obtain ⟨K, ih⟩ := qkp l hs d (i + 1) (by omega)
  refine Ev.mk' K fun k hk => ?_
  have ih := ih k hk; dsimp only at ih
  have hk : (bas ((l.take i).map decDigits)).length ≤ l.length := by unfold bas; rw [List.length_map, List.length_map, List.length_take]; omega
  have hs := qpm decDigits l i (by omega); simp only [qbn.l0]; rw [qfG] at ih ⊢; rw [if_pos (by omega), if_pos (by omega), if_pos (by omega), hr, ql8 _ (by omega), qax, if_pos (by omega), qa5 (by omega) (by omega), show ((i : Int) + 1) = ((i + 1 : Nat) : Int) by omega, ← hs, ih]
theorem qko (l : List Nat) (hs : Sm l) : Ev (fun k => qbn.f k (cz l)) (LT l) := qkp l hs l.length 0 (by omega)
def qoZ (p : Nat × Nat) : List UInt8 := qfg 44 [decDigits p.1, decDigits p.2]
theorem qo0 (p : Nat × Nat) : qhf p = cz [p.1, p.2] := rfl
theorem qqW (p : Nat × Nat) : LT [p.1, p.2] = bs (qoZ p) := by unfold LT; rw [if_neg (by simp)]; rfl
structure Sms (L : List (Nat × Nat)) : Prop where
 len : L.length ≤ 1000000
 all : ∀ p ∈ L, p.1 ≤ 1000000 ∧ p.2 ≤ 1000000
theorem Sms.row {L : List (Nat × Nat)} (h : Sms L) {p : Nat × Nat} (hp : p ∈ L) : Sm [p.1, p.2] := ⟨by simp, fun n hn => by
 have := h.all p hp
 simp at hn; omega⟩
theorem qmg {p : Nat × Nat} (h1 : p.1 ≤ 1000000) (h2 : p.2 ≤ 1000000) : 1 ≤ (qoZ p).length ∧ (qoZ p).length ≤ 20000000 := by
 have l1 := qmQ p.1; have l2 := qmQ p.2; simp only [qoZ, qfg, List.map_cons, List.map_nil, List.flatten_cons, List.flatten_nil, List.append_nil, List.length_append, List.length_cons]; omega
def ST (L : List (Nat × Nat)) : ByteArray := if L = [] then bs [45] else bs (qfg 47 (L.map qoZ))
theorem rdr (L : List (Nat × Nat)) (i : Nat) (h : i < L.length) : qa0 (L.map qhf) (i : Int) = qhf L[i] := by
 unfold qa0; rw [Int.toNat_natCast, List.getD_eq_getElem?_getD, List.getElem?_map, List.getElem?_eq_getElem h]; rfl
theorem qjY (L : List (Nat × Nat)) (hs : Sms L) : ∀ (d i : Nat) (x : List UInt8), i + d = L.length → x = qfg 47 ((L.take i).map qoZ) → x.length ≤ 20000001 * i → Ev (fun k => qcl.l0 k (bs x) (L.map qhf) ((L.map qhf).length : Int) (i : Int)) (ST L)
 | 0, i, x, h, hx, hk => Ev.mk' 0 fun k _ => by
  simp only [qcl.l0]; unfold ST; rw [List.length_map, if_neg (by omega), hx, List.take_of_length_le (by omega), qhk]
  cases L with
  | nil => rw [if_pos (show qfg 47 (List.map qoZ []) = [] from rfl), if_pos rfl]; rfl
  | cons p r =>
   have := (hs.all p List.mem_cons_self)
   have := (qmg this.1 this.2).1; rw [if_neg, if_neg (by simp)]; intro e; rw [List.map_cons, qfg] at e; have := congrArg List.length e; rw [List.length_append, List.length_nil] at this; omega
 | d + 1, i, x, h, hx, hk => by
  have hm := hs.len; have hmem : L[i] ∈ L := List.getElem_mem _; have hw := qmg (hs.all _ hmem).1 (hs.all _ hmem).2; obtain ⟨K1, n1⟩ := qmO _ (hs.row hmem); have hr := rdr L i (by omega); by_cases c : i = 0
  ·obtain ⟨K, ih⟩ := qjY L hs d (i + 1) (x ++ qoZ L[i]) (by omega) (by rw [List.take_succ_eq_append_getElem (by omega), hx]; subst c; simp [qfg]) (by rw [List.length_append]; omega)
   refine Ev.mk' (K + K1) fun k hk => ?_
   have ih := ih k (by omega); have n1 := n1 k (by omega); dsimp only at ih n1; rw [qqW, ← qo0] at n1; simp only [qcl.l0]; rw [List.length_map] at ih ⊢; rw [if_pos (by omega), if_pos (by omega), if_pos (by omega), if_neg (by omega), hr, n1, qax, if_pos (by rw [qcN, qcN]; omega), qfb, qa5 (by omega) (by omega), show ((i : Int) + 1) = ((i + 1 : Nat) : Int) by omega, ih]
  ·obtain ⟨K, ih⟩ := qjY L hs d (i + 1) (x ++ 47 :: qoZ L[i]) (by omega) (by rw [List.take_succ_eq_append_getElem (by omega), List.map_append, List.map_cons, List.map_nil, qiZ _ _ _ (by simp; exact ⟨c, fun e => by rw [e] at h; simp at h⟩), hx]) (by rw [List.length_append, List.length_cons]; omega)
   refine Ev.mk' (K + K1) fun k hk => ?_
   have ih := ih k (by omega); have n1 := n1 k (by omega); dsimp only at ih n1; rw [qqW, ← qo0] at n1; simp only [qcl.l0]; rw [List.length_map] at ih ⊢; rw [if_pos (by omega), if_pos (by omega), if_pos (by omega), if_pos (by omega), if_pos (by rw [qcN]; omega), hr, n1, qax, show (⟨#[47]⟩ : ByteArray) = bs [47] from rfl, qfb, if_pos (by rw [qcN, qcN, List.length_append]; simp only [List.length_cons, List.length_nil]; omega), qfb, qa5 (by omega) (by omega), show ((i : Int) + 1) = ((i + 1 : Nat) : Int) by omega, show x ++ [47] ++ qoZ L[i] = x ++ 47 :: qoZ L[i] by simp, ih]
theorem qrj (L : List (Nat × Nat)) (hs : Sms L) : Ev (fun k => qcl.f k (L.map qhf) true) (ST L) := by
 obtain ⟨K, h⟩ := qjY L hs L.length 0 [] (by omega) rfl (by simp); refine ⟨K, fun k hk => ?_⟩
 show qcl.f k (L.map qhf) true = _
 unfold qcl.f; rw [if_pos rfl]; exact h k hk
theorem qjm (L : List (Nat × Nat)) (hs : Sms L) : ∀ (d i : Nat), i + d = L.length → Ev (fun k => qbQ.l0 k (bas ((L.take i).map qoZ)) (L.map qhf) ((L.map qhf).length : Int) (i : Int)) (ST L)
 | 0, i, h => Ev.mk' 0 fun k _ => by
  simp only [qbQ.l0]; unfold ST; rw [List.length_map, if_neg (by omega), List.take_of_length_le (by omega)]; by_cases c : L = []
  ·subst c; rfl
  ·have h0 : L.length ≠ 0 := fun e => c (List.length_eq_zero_iff.1 e)
   have hk : (bas (L.map qoZ)).length = L.length := by unfold bas; simp
   have hm := hs.len
   rw [if_neg (by omega), qoI 47 _ (by simpa using c) (by rw [List.length_map]; omega) (fun w hw => by
    obtain ⟨p, hp, rfl⟩ := List.mem_map.1 hw
    exact (qmg (hs.all p hp).1 (hs.all p hp).2).2), qax, if_neg c]
 | d + 1, i, h => by
  have hm := hs.len; have hmem : L[i] ∈ L := List.getElem_mem _; obtain ⟨K1, n1⟩ := qko _ (hs.row hmem); have hr := rdr L i (by omega); obtain ⟨K, ih⟩ := qjm L hs d (i + 1) (by omega)
  refine Ev.mk' (K + K1) fun k hk => ?_
  have ih := ih k (by omega); have n1 := n1 k (by omega); dsimp only at ih n1; rw [qqW, ← qo0] at n1
  have hk : (bas ((L.take i).map qoZ)).length ≤ L.length := by unfold bas; rw [List.length_map, List.length_map, List.length_take]; omega
  have hs := qpm qoZ L i (by omega); simp only [qbQ.l0]; rw [List.length_map] at ih ⊢; rw [if_pos (by omega), if_pos (by omega), if_pos (by omega), hr, n1, qax, if_pos (by omega), qa5 (by omega) (by omega), show ((i : Int) + 1) = ((i + 1 : Nat) : Int) by omega, ← hs, ih]
theorem qnj (L : List (Nat × Nat)) (hs : Sms L) : Ev (fun k => qbQ.f k (L.map qhf)) (ST L) := qjm L hs L.length 0 (by omega)
end
theorem gcd_l0 : ∀ (n m : Nat), Ev (fun k => qdd.l0 k (m : Int) (n : Int)) ((Nat.gcd m n : Nat) : Int) := by
 intro n
 induction n using Nat.strongRecOn with
 | _ n ih =>
  intro m; by_cases h : n = 0
  ·subst h
   refine Ev.mk' 0 fun k _ => ?_
   simp only [qdd.l0]; rw [if_neg (by omega)]; simp
  ·obtain ⟨K, h2⟩ := ih (m % n) (Nat.mod_lt _ (by omega)) n
   dsimp only at h2
   refine Ev.mk' K fun k hk => ?_
   simp only [qdd.l0]; rw [if_pos (by omega), if_neg (by omega), show Int.tmod (m : Int) (n : Int) = ((m % n : Nat) : Int) from rfl, h2 k hk]; rw [Nat.gcd_comm m n, Nat.gcd_rec n m, Nat.gcd_comm]
theorem qii : ∀ (k : Nat) (a b : Int), qbO.l0 k a b = qdd.l0 k a b
 | 0, _, _ => rfl
 | k + 1, a, b => by simp only [qbO.l0, qdd.l0, qii k]
def qst : Nat → List qac → Option Nat
 | p, [] => some p
 | p, x :: t => if Nat.lcm p x.f0.toNat > 100000 then none else qst (Nat.lcm p x.f0.toNat) t
theorem qpN (p e : Nat) : p / Nat.gcd p e * e = Nat.lcm p e := by
 rw [Nat.lcm, Nat.mul_comm p e, Nat.mul_div_assoc _ (Nat.gcd_dvd_left p e), Nat.mul_comm]
theorem lcm_pos' {p e : Nat} (h : 0 < p) (h2 : 0 < e) : 0 < Nat.lcm p e := Nat.lcm_pos h h2
theorem step_val (p : Nat) (e : Int) (hp : 0 < p) (hp2 : p ≤ 100000) (h1 : 2 ≤ e) (h2 : e ≤ 60) :
  wrap64 (wrap64 (Int.tdiv (p : Int) ((Nat.gcd p e.toNat : Nat) : Int)) * e) = ((Nat.lcm p e.toNat : Nat) : Int) := by
 have hd : Int.tdiv (p : Int) ((Nat.gcd p e.toNat : Nat) : Int) = ((p / Nat.gcd p e.toNat : Nat) : Int) := rfl; have hq : p / Nat.gcd p e.toNat ≤ 100000 := Nat.le_trans (Nat.div_le_self _ _) hp2; rw [hd, show wrap64 ((p / Nat.gcd p e.toNat : Nat) : Int) = ((p / Nat.gcd p e.toNat : Nat) : Int) from by generalize p / Nat.gcd p e.toNat = q at hq ⊢; exact qa5 (by omega) (by omega)]
 have hm : ((p / Nat.gcd p e.toNat : Nat) : Int) * e = ((Nat.lcm p e.toNat : Nat) : Int) := by
  rw [← qpN p e.toNat, Int.natCast_mul, Int.toNat_of_nonneg (by omega)]
 rw [hm]
 have hl : Nat.lcm p e.toNat ≤ 100000 * 60 := by
  rw [← qpN]; exact Nat.mul_le_mul hq (by omega)
 exact qa5 (by omega) (by omega)
theorem qma (l : List qac) (hm : l.length ≤ 12) (hl : l.all qbC = true) : ∀ (d i p : Nat), i + d = l.length → 0 < p → p ≤ 100000 →
  Ev (fun k => qcV.l0 k p l l.length i) (match qst p (l.drop i) with | some q => ((q : Int), true) | none => (0, false)) ∧
  Ev (fun k => qbd.l0 k p l l.length i) (match qst p (l.drop i) with | some q => (q : Int) | none => 0)
 | 0, i, p, h, h1, h2 => by
  rw [List.drop_eq_nil_of_le (by omega)]; constructor
  ·refine Ev.mk' 0 fun k _ => ?_
   simp only [qcV.l0]; rw [if_neg (by omega)]; rfl
  ·refine Ev.mk' 0 fun k _ => ?_
   simp only [qbd.l0]; rw [if_neg (by omega)]; rfl
 | d + 1, i, p, h, h1, h2 => by
  have ho := (qdh _).1 (List.all_eq_true.mp hl _ (qnt l i (by omega))); have he : ((qae l i).f0.toNat : Int) = (qae l i).f0 := Int.toNat_of_nonneg (by omega); obtain ⟨Kg, hg⟩ := gcd_l0 (qae l i).f0.toNat p; dsimp only at hg; rw [he] at hg; have hs := step_val p (qae l i).f0 h1 h2 ho.1 ho.2.1
  have hg0 : ((Nat.gcd p (qae l i).f0.toNat : Nat) : Int) ≠ 0 := by
   have := Nat.gcd_pos_of_pos_left (qae l i).f0.toNat h1; omega
  have hpos := lcm_pos' (e := (qae l i).f0.toNat) h1 (by omega); rw [qkz l i (by omega), qst]; by_cases hc : Nat.lcm p (qae l i).f0.toNat > 100000
  ·rw [if_pos hc]
   constructor
   ·refine Ev.mk' Kg fun k hk => ?_
    simp only [qcV.l0, qdd.f, hg k hk, Option.bind_some, hs]; rw [if_pos (by omega), if_pos (by omega), if_pos (by omega), if_neg hg0, if_pos (by omega)]
   ·refine Ev.mk' Kg fun k hk => ?_
    simp only [qbd.l0, qbO.f, qii, hg k hk, Option.bind_some, hs]; rw [if_pos (by omega), if_pos (by omega), if_pos (by omega), if_neg hg0, if_pos (by omega)]
  ·rw [if_neg hc]
   obtain ⟨⟨K1, i1⟩, ⟨K2, i2⟩⟩ := qma l hm hl d (i + 1) (Nat.lcm p (qae l i).f0.toNat) (by omega) hpos (by omega); dsimp only at i1 i2; constructor
   ·refine Ev.mk' (Kg + K1) fun k hk => ?_
    simp only [qcV.l0, qdd.f, hg k (by omega), Option.bind_some, hs]; rw [if_pos (by omega), if_pos (by omega), if_pos (by omega), if_neg hg0, if_neg (by omega), show wrap64 ((i : Int) + 1) = ((i + 1 : Nat) : Int) from qa5 (by omega) (by omega), i1 k (by omega)]
   ·refine Ev.mk' (Kg + K2) fun k hk => ?_
    simp only [qbd.l0, qbO.f, qii, hg k (by omega), Option.bind_some, hs]; rw [if_pos (by omega), if_pos (by omega), if_pos (by omega), if_neg hg0, if_neg (by omega), show wrap64 ((i : Int) + 1) = ((i + 1 : Nat) : Int) from qa5 (by omega) (by omega), i2 k (by omega)]
theorem qpT : ∀ (l : List qac) (p q : Nat), l.all qbC = true → 0 < p → p ≤ 100000 → qst p l = some q → 0 < q ∧ q ≤ 100000
 | [], p, q, _, h, h2, he => by simp [qst] at he; omega
 | x :: t, p, q, ha, h, h2, he => by
  rw [qst] at he; simp only [List.all_cons, Bool.and_eq_true] at ha; have hx := (qdh x).1 ha.1; split at he
  ·simp at he
  ·exact qpT t _ q ha.2 (lcm_pos' h (by omega)) (by omega) he
def period (l : List qac) : Option Nat := if qaG l = true then qst 1 l else none
theorem qfB {l : List qac} {p : Nat} (h : period l = some p) : qaG l = true ∧ 0 < p ∧ p ≤ 100000 := by
 unfold period at h; split at h
 ·next hg => exact ⟨hg, qpT l 1 p (qb4 hg).2 (by omega) (by omega) h⟩
 ·simp at h
theorem qih (l : List qac) : Ev (fun k => qcb.f k l) (match period l with | some q => ((q : Int), true) | none => (0, false)) := by
 unfold period; by_cases hg : qaG l = true
 ·rw [if_pos hg]
  obtain ⟨⟨K1, i1⟩, -⟩ := qma l (qb4 hg).1 (qb4 hg).2 l.length 0 1 (by omega) (by omega) (by omega); refine ⟨K1, fun k hk => ?_⟩; have i1 : qcV.l0 k 1 l l.length 0 = _ := i1 k hk; simp only [qcb.f, qds, hg, Option.bind_some, if_true, qcV.f, i1, List.drop_zero]
 ·rw [if_neg hg]
  refine ⟨0, fun k _ => ?_⟩; simp only [qcb.f, qds, Option.bind_some]; rw [if_neg hg]
theorem qij (l : List qac) (hg : qaG l = true) : Ev (fun k => qbd.f k l) (match period l with | some q => (q : Int) | none => 0) := by
 unfold period; rw [if_pos hg]; obtain ⟨-, ⟨K1, i1⟩⟩ := qma l (qb4 hg).1 (qb4 hg).2 l.length 0 1 (by omega) (by omega) (by omega); exact ⟨K1, fun k hk => i1 k hk⟩
def patB (l : List qac) (i : Int) : Nat → ByteArray → ByteArray
 | 0, acc => acc
 | m + 1, acc => patB l (i + 1) m (acc ++ (if left l i = true then (⟨#[111]⟩ : ByteArray) else ⟨#[120]⟩))
def pat (l : List qac) (n : Int) : ByteArray := patB l 1 n.toNat (⟨#[]⟩ : ByteArray)
theorem sz_o (a : ByteArray) : (a ++ (⟨#[111]⟩ : ByteArray)).size = a.size + 1 := by rw [ByteArray.size_append]; rfl
theorem sz_x (a : ByteArray) : (a ++ (⟨#[120]⟩ : ByteArray)).size = a.size + 1 := by rw [ByteArray.size_append]; rfl
theorem qoU (l : List qac) (hm : l.length ≤ 12) (hl : l.all qbC = true) (hi : Int) (h2 : hi ≤ 48) : ∀ (m : Nat) (i : Int) (acc : ByteArray), i + m = hi + 1 → 1 ≤ i → acc.size + m ≤ 1000 → Ev (fun k => qaZ.l0 k l hi acc i) (patB l i m acc, true)
 | 0, i, acc, h, h0, h1 => Ev.mk' 0 fun k _ => by
  simp only [qaZ.l0]; rw [if_neg (by omega)]; rfl
 | m + 1, i, acc, h, h0, h1 => by
  obtain ⟨K1, h3⟩ := qhA i l (by omega) hl; dsimp only at h3; simp only [patB]; by_cases hc : left l i = true
  ·obtain ⟨K, ih⟩ := qoU l hm hl hi h2 m (i + 1) (acc ++ (⟨#[111]⟩ : ByteArray)) (by omega) (by omega) (by rw [sz_o]; omega)
   dsimp only at ih
   refine Ev.mk' (K + K1) fun k hk => ?_
   simp only [qaZ.l0, h3 k (by omega), qax]; rw [if_pos (by omega), if_pos hc, if_pos (by omega), qa5 (by omega) (by omega), ih k (by omega), if_pos hc]
  ·obtain ⟨K, ih⟩ := qoU l hm hl hi h2 m (i + 1) (acc ++ (⟨#[120]⟩ : ByteArray)) (by omega) (by omega) (by rw [sz_x]; omega)
   dsimp only at ih
   refine Ev.mk' (K + K1) fun k hk => ?_
   simp only [qaZ.l0, h3 k (by omega), qax]; rw [if_pos (by omega), if_neg hc, if_pos (by omega), qa5 (by omega) (by omega), ih k (by omega), if_neg hc]
theorem qoT (l : List qac) (hl : l.all qbC = true) (hi : Int) (h2 : hi ≤ 48) : ∀ (m : Nat) (i : Int) (acc : ByteArray), i + m = hi + 1 → 1 ≤ i → acc.size + m ≤ 1000 → Ev (fun k => qbR.l0 k l hi acc i) (patB l i m acc)
 | 0, i, acc, h, h0, h1 => Ev.mk' 0 fun k _ => by
  simp only [qbR.l0]; rw [if_neg (by omega)]; rfl
 | m + 1, i, acc, h, h0, h1 => by
  simp only [patB]; by_cases hc : left l i = true
  ·obtain ⟨K, ih⟩ := qoT l hl hi h2 m (i + 1) (acc ++ (⟨#[111]⟩ : ByteArray)) (by omega) (by omega) (by rw [sz_o]; omega)
   dsimp only at ih
   refine Ev.mk' K fun k hk => ?_
   simp only [qbR.l0, qgd i l hl, qax]; rw [if_pos (by omega), if_pos hc, if_pos (by omega), qa5 (by omega) (by omega), ih k (by omega), if_pos hc]
  ·obtain ⟨K, ih⟩ := qoT l hl hi h2 m (i + 1) (acc ++ (⟨#[120]⟩ : ByteArray)) (by omega) (by omega) (by rw [sz_x]; omega)
   dsimp only at ih
   refine Ev.mk' K fun k hk => ?_
   simp only [qbR.l0, qgd i l hl, qax]; rw [if_pos (by omega), if_neg hc, if_pos (by omega), qa5 (by omega) (by omega), ih k (by omega), if_neg hc]
theorem qno (l : List qac) (hl : l.all qbC = true) (n : Int) (h0 : 1 ≤ n) (h1 : n ≤ 48) : Ev (fun k => qbR.f k l n) (pat l n) := by
 obtain ⟨K, h⟩ := qoT l hl n h1 n.toNat 1 (⟨#[]⟩ : ByteArray) (by omega) (by omega) (by show (0 : Nat) + _ ≤ _; omega); exact ⟨K, fun k hk => h k hk⟩
theorem qkY (l : List qac) (hg : qaG l = true) (n : Int) (h0 : 1 ≤ n) (h1 : n ≤ 48) : Ev (fun k => qaZ.f k l n) (pat l n, true) := by
 obtain ⟨K1, h2⟩ := qe0 l; dsimp only at h2; obtain ⟨K2, h3⟩ := qoU l (qb4 hg).1 (qb4 hg).2 n h1 n.toNat 1 (⟨#[]⟩ : ByteArray) (by omega) (by omega) (by show (0 : Nat) + _ ≤ _; omega); have h3 : ∀ k, K2 ≤ k → qaZ.l0 k l n (⟨#[]⟩ : ByteArray) 1 = _ := h3
 have e : (decide (1 ≤ n) && decide (n ≤ 48)) = true := by simp [h0, h1]
 refine Ev.mk' (K1 + K2) fun k hk => ?_
 simp (disch := omega) only [qaZ.f, h2, qax, hg, if_true, qdX, e]
 simp (disch := omega) only [qaZ.j0, h3, Bool.not_true, Bool.false_eq_true, if_false]
 rfl
def qpS (l : List qac) (n : Int) : ByteArray × Bool := if qaG l = true ∧ 1 ≤ n ∧ n ≤ 48 then (pat l n, true) else ((⟨#[]⟩ : ByteArray), false)
theorem qkP (l : List qac) (n : Int) : Ev (fun k => qaZ.f k l n) (qpS l n) ∧ Ev (fun k => qdv.f k l n) (qpS l n) := by
 unfold qpS; obtain ⟨K1, h1⟩ := qe0 l; dsimp only at h1; by_cases hc : qaG l = true ∧ 1 ≤ n ∧ n ≤ 48
 ·obtain ⟨K2, h2⟩ := qno l (qb4 hc.1).2 n hc.2.1 hc.2.2
  dsimp only at h2; rw [if_pos hc]; refine ⟨qkY l hc.1 n hc.2.1 hc.2.2, ⟨K2, fun k hk => ?_⟩⟩; simp only [qdv.f, qds, qax, hc.1, if_true, h2 k hk]; rw [if_neg (by omega), if_neg (by omega)]
 ·rw [if_neg hc]
  constructor
  ·refine Ev.mk' K1 fun k hk => ?_
   simp (disch := omega) only [qaZ.f, h1, qax, qdX]
   by_cases hg : qaG l = true
   ·have e : (decide (1 ≤ n) && decide (n ≤ 48)) = false := by
     rw [Bool.and_eq_false_iff]; simp only [decide_eq_false_iff_not]; by_cases h : 1 ≤ n
     ·right; intro h'; exact hc ⟨hg, h, h'⟩
     ·left; exact h
    rw [if_pos hg, e]
    simp [qaZ.j0]
   ·rw [if_neg hg]; simp [qaZ.j0]
  ·refine ⟨0, fun k _ => ?_⟩
   simp only [qdv.f, qds, qax]; by_cases hg : qaG l = true
   ·rw [if_pos hg]
    by_cases h : n < 1
    ·rw [if_pos h]
    ·rw [if_neg h, if_pos (by apply Decidable.byContradiction; intro h'; exact hc ⟨hg, by omega, by omega⟩)]
   ·rw [if_neg hg]
theorem qlA (a b : Int) : qcw.f a b = qfo.f a b := rfl
theorem qpy {f : qac → qac} (hf : ∀ r, qbC r = true → qbC (f r) = true) {l : List qac} (h : qaG l = true) : qaG (l.map f) = true := by
 obtain ⟨h1, h2⟩ := qb4 h; unfold qaG; rw [Bool.and_eq_true, decide_eq_true_eq, List.length_map, List.all_map]; exact ⟨h1, List.all_eq_true.2 fun r hr => hf r (List.all_eq_true.1 h2 r hr)⟩
def turned (z : qac → Int) (r : qac) : qac := ⟨r.f0, z r % r.f0⟩
theorem qnH (z : qac → Int) {r : qac} (h : qbC r = true) : qbC (turned z r) = true := by
 have h1 := (qdh r).1 h; refine (qdh _).2 ⟨h1.1, h1.2.1, Int.emod_nonneg _ (by omega), Int.emod_lt_of_pos _ (by omega)⟩
theorem qpQ (n : Int) {r : qac} (h : qbC r = true) : qfo.f n r.f0 = some (n % r.f0) := qsm n r.f0 ((qdh r).1 h).1 ((qdh r).1 h).2.1
def qoQ (n : Int) : qac → qac := turned fun r => r.f1 + n
theorem qsn (n : Int) (hn : -600 ≤ n ∧ n ≤ 600) (l : List qac) (hm : l.length ≤ 12) (hl : l.all qbC = true) : ∀ (d i : Nat), i + d = l.length → Ev (fun k => qaD.l0 k n ((l.take i).map (qoQ n)) l (l.length : Int) (i : Int)) (l.map (qoQ n), true)
 | 0, i, h => Ev.mk' 0 fun k _ => by
  simp only [qaD.l0]; rw [if_neg (by omega), List.take_of_length_le (by omega)]
 | d + 1, i, h => by
  have hr := qqw hl i (by omega); have ho := (qdh _).1 hr; obtain ⟨K, ih⟩ := qsn n hn l hm hl d (i + 1) (by omega)
  refine Ev.mk' K fun k hk => ?_
  have ih := ih k hk; dsimp only at ih; rw [qkI l i (by omega), List.map_append] at ih; simp only [qaD.l0]; rw [if_pos (by omega), if_pos (by omega), if_pos (by omega), qa5 (n := (qae l (i : Int)).f1 + n) (by omega) (by omega), qpQ _ hr, qax, if_pos (by rw [List.length_map, List.length_take]; omega), qa5 (by omega) (by omega), show ((i : Int) + 1) = ((i + 1 : Nat) : Int) by omega]; exact ih
theorem qnl : ∀ (k : Nat) (n : Int) (x l : List qac) (a i : Int), qaM.l0 k n x l a i = qaD.l0 k n x l a i
 | 0, _, _, _, _, _ => rfl
 | k + 1, n, x, l, a, i => by simp only [qaM.l0, qaD.l0, qlA, qnl k]
def vMove (l : List qac) (n : Int) : List qac × Bool := if qaG l = true ∧ -600 ≤ n ∧ n ≤ 600 then (l.map (qoQ n), true) else ([], false)
theorem qqZ (l : List qac) (n : Int) : Ev (fun k => qaD.f k l n) (vMove l n) ∧ Ev (fun k => qaM.f k l n) (vMove l n) := by
 unfold vMove; obtain ⟨K1, h1⟩ := qe0 l
 have hN : qep.f n = some (decide (-600 ≤ n) && decide (n ≤ 600)) := by
  unfold qep.f; by_cases c : -600 ≤ n
  ·rw [if_pos c, decide_eq_true c, Bool.true_and]
  ·rw [if_neg c, decide_eq_false c, Bool.false_and]
 have hS : qet.f n = some (decide (-600 ≤ n) && decide (n ≤ 600)) := by
  unfold qet.f; rw [qdX, qax]
 by_cases hg : qaG l = true
 ·by_cases hn : -600 ≤ n ∧ n ≤ 600
  ·rw [if_pos ⟨hg, hn⟩]
   obtain ⟨K2, h2⟩ := qsn n hn l (qb4 hg).1 (qb4 hg).2 l.length 0 (by omega); have h2 : ∀ k, K2 ≤ k → qaD.l0 k n [] l l.length 0 = _ := h2
   have e : (decide (-600 ≤ n) && decide (n ≤ 600)) = true := by rw [decide_eq_true hn.1, decide_eq_true hn.2]; rfl
   refine ⟨⟨K2 + 1, fun k hk => ?_⟩, ⟨K1 + K2 + 1, fun k hk => ?_⟩⟩ <;> obtain ⟨j, rfl⟩ : ∃ j, k = j + 1 := ⟨k - 1, by omega⟩
   ·show qaD.f (j + 1) l n = _
    unfold qaD.f; rw [qds, qax, hg, if_pos rfl, hN, qax, e]; simp only [qaD.j0, Bool.not_true, Bool.false_eq_true, if_false]; exact h2 j (by omega)
   ·have h1 := h1 (j + 1) (by omega)
    dsimp only at h1
    show qaM.f (j + 1) l n = _
    unfold qaM.f; rw [h1, qax, hg, if_pos rfl, hS, qax, e]; simp only [qaM.j0, Bool.not_true, Bool.false_eq_true, if_false, qnl]; exact h2 j (by omega)
  ·rw [if_neg (fun h => hn h.2)]
   have e : (decide (-600 ≤ n) && decide (n ≤ 600)) = false := by rw [← Bool.not_eq_true, Bool.and_eq_true, decide_eq_true_eq, decide_eq_true_eq]; exact hn
   refine ⟨Ev.mk' 0 fun k hk => ?_, Ev.mk' K1 fun k hk => ?_⟩
   ·unfold qaD.f
    rw [qds, qax, hg, if_pos rfl, hN, qax, e]; simp only [qaD.j0, Bool.not_false, if_true]
   ·have h1 := h1 (k + 1) (by omega)
    dsimp only at h1; unfold qaM.f; rw [h1, qax, hg, if_pos rfl, hS, qax, e]; simp only [qaM.j0, Bool.not_false, if_true]
 ·rw [if_neg (fun h => hg h.1)]
  refine ⟨Ev.mk' 0 fun k hk => ?_, Ev.mk' K1 fun k hk => ?_⟩
  ·unfold qaD.f
   rw [qds, qax, if_neg hg]; simp only [qaD.j0, if_true]
  ·have h1 := h1 (k + 1) (by omega)
   dsimp only at h1; unfold qaM.f; rw [h1, qax, if_neg hg]; simp only [qaM.j0, if_true]
def qjK : qac → qac := turned fun r => -r.f1
theorem qnk (l : List qac) (hm : l.length ≤ 12) (hl : l.all qbC = true) : ∀ (d i : Nat), i + d = l.length → Ev (fun k => qaQ.l0 k ((l.take i).map qjK) l (l.length : Int) (i : Int)) (l.map qjK, true)
 | 0, i, h => Ev.mk' 0 fun k _ => by
  simp only [qaQ.l0]; rw [if_neg (by omega), List.take_of_length_le (by omega)]
 | d + 1, i, h => by
  have hr := qqw hl i (by omega); have ho := (qdh _).1 hr; obtain ⟨K, ih⟩ := qnk l hm hl d (i + 1) (by omega)
  refine Ev.mk' K fun k hk => ?_
  have ih := ih k hk; dsimp only at ih; rw [qkI l i (by omega), List.map_append] at ih; simp only [qaQ.l0]; rw [if_pos (by omega), if_pos (by omega), if_pos (by omega), qa5 (n := -(qae l (i : Int)).f1) (by omega) (by omega), qpQ _ hr, qax, if_pos (by rw [List.length_map, List.length_take]; omega), qa5 (by omega) (by omega), show ((i : Int) + 1) = ((i + 1 : Nat) : Int) by omega]; exact ih
theorem qku : ∀ (k : Nat) (x l : List qac) (a i : Int), qa1.l0 k x l a i = qaQ.l0 k x l a i
 | 0, _, _, _, _ => rfl
 | k + 1, x, l, a, i => by simp only [qa1.l0, qaQ.l0, qlA, qku k]
theorem qnV (l : List qac) (hg : qaG l = true) : Ev (fun k => qaQ.f k l) (l.map qjK, true) ∧ Ev (fun k => qa1.f k l) (l.map qjK, true) := by
 obtain ⟨K1, h1⟩ := qe0 l; obtain ⟨K2, h2⟩ := qnk l (qb4 hg).1 (qb4 hg).2 l.length 0 (by omega); have h2 : ∀ k, K2 ≤ k → qaQ.l0 k [] l l.length 0 = _ := h2; refine ⟨⟨K2, fun k hk => ?_⟩, ⟨K1 + K2, fun k hk => ?_⟩⟩
 ·show qaQ.f k l = _
  unfold qaQ.f; rw [qds, qax, hg, if_pos rfl]; exact h2 k hk
 ·have h1 := h1 k (by omega)
  dsimp only at h1
  show qa1.f k l = _
  unfold qa1.f; rw [h1, qax, hg, if_pos rfl, qku]; exact h2 k (by omega)
theorem qiX {l : List qac} (h : qaG l = true) (i : Nat) : qaG (l.eraseIdx i) = true := by
 obtain ⟨h1, h2⟩ := qb4 h; unfold qaG; rw [Bool.and_eq_true, decide_eq_true_eq]; exact ⟨Nat.le_trans (List.length_eraseIdx_le l i) h1, List.all_eq_true.2 fun r hr => List.all_eq_true.1 h2 r (List.mem_of_mem_eraseIdx hr)⟩
theorem qja {l : List qac} (hm : l.length ≤ 12) (i : Nat) (h : i < l.length) : qbD.f l (i : Int) = some (l.eraseIdx i) := by
 unfold qbD.f
 have hw : wrap64 ((i : Int) + 1) = ((i + 1 : Nat) : Int) := by rw [qa5 (by omega) (by omega)]; omega
 have h1 : ((i : Int)).toNat = i := by omega
 have h2 : (((i + 1 : Nat) : Int)).toNat = i + 1 := by omega
 rw [qax, if_pos (by omega), if_pos (by omega), qax, if_pos (by simp; omega), qax, hw, if_pos (by omega), if_pos (by omega), qax, h1, h2, List.nil_append, if_pos (by simp; omega), List.eraseIdx_eq_take_drop_succ]
theorem qj1 (l : List qac) (i : Nat) (h : i < l.length) (hm : l.length ≤ 12) : qcy.f l (i : Int) (wrap64 ((i : Int) + 1)) = some (l.eraseIdx i) := by
 unfold qcy.f; rw [qa5 (by omega) (by omega), if_pos ⟨by omega, by omega, rfl⟩]; rfl
theorem qkv (l t : List qac) (i : Nat) (hi : i < l.length) (hl : l.all qbC = true) (hm : l.length ≤ 12) (ht : t.all qbC = true) (htm : t.length ≤ 12) (p : Int) (hp : p ≤ 100000) : ∀ (d : Nat) (n : Int), 0 ≤ n → p - n ≤ d → ∃ b, Ev (fun k => qbl.l0 k l (i : Int) p t n) b ∧ Ev (fun k => qbu.l0 k l (i : Int) p t n) b
 | 0, n, h0, h => ⟨true, Ev.mk' 0 fun k _ => by simp only [qbl.l0]; rw [if_neg (by omega)], Ev.mk' 0 fun k _ => by simp only [qbu.l0]; rw [if_neg (by omega)]⟩
 | d + 1, n, h0, h => by
  by_cases c : n < p
  ·obtain ⟨K1, h1⟩ := qhA n t (by omega) ht
   cases hb : left t n with
   | true =>
    rw [hb] at h1; refine ⟨false, Ev.mk' 0 fun k _ => ?_, Ev.mk' K1 fun k hk => ?_⟩
    ·simp only [qbl.l0]
     rw [if_pos c, qgd n t ht, hb, qax, if_pos rfl]
    ·have h1 := h1 k (by omega)
     dsimp only at h1; simp only [qbu.l0]; rw [if_pos c, h1, qax, if_pos rfl]
   | false =>
    rw [hb] at h1; have ho := (qdh _).1 (qqw hl i hi); obtain ⟨b, ⟨K2, h2⟩, ⟨K3, h3⟩⟩ := qkv l t i hi hl hm ht htm p hp d (n + (qae l (i : Int)).f0) (by omega) (by omega); refine ⟨b, Ev.mk' K2 fun k hk => ?_, Ev.mk' (K1 + K3) fun k hk => ?_⟩
    ·simp only [qbl.l0]
     rw [if_pos c, qgd n t ht, hb, qax, if_neg (by decide), if_pos (by omega), if_pos (by omega), qa5 (by omega) (by omega)]; exact h2 k hk
    ·have h1 := h1 k (by omega)
     dsimp only at h1; simp only [qbu.l0]; rw [if_pos c, h1, qax, if_neg (by decide), if_pos (by omega), if_pos (by omega), qa5 (by omega) (by omega)]; exact h3 k (by omega)
  ·exact ⟨true, Ev.mk' 0 fun k _ => by simp only [qbl.l0]; rw [if_neg c], Ev.mk' 0 fun k _ => by simp only [qbu.l0]; rw [if_neg c]⟩
theorem qoS {l : List qac} (hg : qaG l = true) (i : Nat) (hi : i < l.length) (p : Nat) (hp : p ≤ 100000) : ∃ b, Ev (fun k => qbl.f k l (i : Int) (p : Int)) b ∧ Ev (fun k => qbu.f k l (i : Int) (p : Int)) b := by
 obtain ⟨hm, hl⟩ := qb4 hg; obtain ⟨hm2, hl2⟩ := qb4 (qiX hg i); have ho := (qdh _).1 (qqw hl i hi); obtain ⟨b, ⟨K2, h2⟩, ⟨K3, h3⟩⟩ := qkv l (l.eraseIdx i) i hi hl hm hl2 hm2 (p : Int) (by omega) p (qae l (i : Int)).f1 (by omega) (by omega); refine ⟨b, ⟨K2, fun k hk => ?_⟩, ⟨K3, fun k hk => ?_⟩⟩
 ·show qbl.f k l i p = _
  unfold qbl.f; rw [qax, if_pos (by simp; omega), List.nil_append, qj1 l i hi hm, qax, if_pos (by omega), if_pos (by omega)]; exact h2 k hk
 ·show qbu.f k l i p = _
  unfold qbu.f; rw [qja hm i hi, qax, if_pos (by omega), if_pos (by omega)]; exact h3 k hk
theorem qog (p : Nat) (hp : p ≤ 100000) : ∀ (d : Nat) (l : List qac), qaG l = true → d ≤ l.length → ∃ r, qaG r = true ∧ Ev (fun k => qa6.l0 k (p : Int) l ((d : Int) - 1)) (r, true) ∧ Ev (fun k => qaK.l0 k (p : Int) l ((d : Int) - 1)) (r, true)
 | 0, l, hg, h => ⟨l, hg, Ev.mk' 0 fun k _ => by simp only [qa6.l0]; rw [if_neg (by omega)], Ev.mk' 0 fun k _ => by simp only [qaK.l0]; rw [if_neg (by omega)]⟩
 | d + 1, l, hg, h => by
  have hm := (qb4 hg).1
  have e1 : ((d + 1 : Nat) : Int) - 1 = (d : Int) := by omega
  have e2 : wrap64 ((d : Int) - 1) = (d : Int) - 1 := qa5 (by omega) (by omega); rw [e1]; obtain ⟨b, ⟨K1, h1⟩, ⟨K2, h2⟩⟩ := qoS hg d (by omega) p hp
  cases b with
  | true =>
   obtain ⟨r, hr, ⟨K3, h3⟩, ⟨K4, h4⟩⟩ := qog p hp d (l.eraseIdx d) (qiX hg d) (by rw [List.length_eraseIdx_of_lt (by omega)]; omega); refine ⟨r, hr, Ev.mk' (K1 + K3) fun k hk => ?_, Ev.mk' (K2 + K4) fun k hk => ?_⟩
   ·have h1 := h1 k (by omega)
    dsimp only at h1; simp only [qa6.l0]; rw [if_pos (by omega), h1, qax, if_pos rfl, qj1 l d (by omega) hm, qax, e2]; exact h3 k (by omega)
   ·have h2 := h2 k (by omega)
    dsimp only at h2; simp only [qaK.l0]; rw [if_pos (by omega), h2, qax, if_pos rfl, qja hm d (by omega), qax, e2]; exact h4 k (by omega)
  | false =>
   obtain ⟨r, hr, ⟨K3, h3⟩, ⟨K4, h4⟩⟩ := qog p hp d l hg (by omega); refine ⟨r, hr, Ev.mk' (K1 + K3) fun k hk => ?_, Ev.mk' (K2 + K4) fun k hk => ?_⟩
   ·have h1 := h1 k (by omega)
    dsimp only at h1; simp only [qa6.l0]; rw [if_pos (by omega), h1, qax, if_neg (by decide), e2]; exact h3 k (by omega)
   ·have h2 := h2 k (by omega)
    dsimp only at h2; simp only [qaK.l0]; rw [if_pos (by omega), h2, qax, if_neg (by decide), e2]; exact h4 k (by omega)
theorem qqS (l : List qac) (hg : qaG l = true) : ∃ v : List qac × Bool, (v.2 = true → qaG v.1 = true) ∧ Ev (fun k => qa6.f k l) v ∧ Ev (fun k => qaK.f k l) v := by
 obtain ⟨K1, h1⟩ := qih l; obtain ⟨K2, h2⟩ := qij l hg; obtain ⟨K3, h3⟩ := qe0 l; have hm := (qb4 hg).1
 cases hp : period l with
 | none =>
  rw [hp] at h1 h2; refine ⟨([], false), fun h => absurd h (by decide), ⟨K1, fun k hk => ?_⟩, Ev.mk' (K2 + K3) fun k hk => ?_⟩
  ·have h1 := h1 k (by omega)
   dsimp only at h1
   show qa6.f k l = _
   unfold qa6.f; rw [h1, qax, if_neg (by decide)]
  ·have h2 := h2 (k + 1) (by omega)
   have h3 := h3 (k + 1) (by omega); dsimp only at h2 h3; unfold qaK.f; rw [h3, qax, hg, if_pos rfl, h2, qax]; simp only [qaK.j0]; rfl
 | some q =>
  rw [hp] at h1 h2; obtain ⟨-, q0, q1⟩ := qfB hp; obtain ⟨r, hr, ⟨K4, h4⟩, ⟨K5, h5⟩⟩ := qog q q1 l.length l hg (Nat.le_refl _); refine ⟨(r, true), fun _ => hr, ⟨K1 + K4, fun k hk => ?_⟩, Ev.mk' (K2 + K3 + K5) fun k hk => ?_⟩
  ·have h1 := h1 k (by omega)
   have h4 := h4 k (by omega); dsimp only at h1 h4
   show qa6.f k l = _
   unfold qa6.f; rw [h1, qax, if_pos rfl, qax, if_pos (by simp; omega), qax, List.nil_append, qa5 (by omega) (by omega)]; exact h4
  ·have h2a := h2 (k + 1) (by omega)
   have h2b := h2 k (by omega); have h3 := h3 (k + 1) (by omega); have h5 := h5 k (by omega); dsimp only at h2a h2b h3 h5; unfold qaK.f; rw [h3, qax, hg, if_pos rfl, h2a, qax]; simp only [qaK.j0]; rw [if_neg (by simp; omega), h2b, qax, qax, if_pos (by simp; omega), qax, List.nil_append, qa5 (by omega) (by omega)]; exact h5
theorem qlm : ∀ (k : Nat) (x d : Int), qco.l0 k x d = qbc.l0 k x d
 | 0, _, _ => rfl
 | k + 1, x, d => by simp only [qco.l0, qbc.l0, qlm k]
theorem qkn (k : Nat) (x : Int) : qco.f k x = qbc.f k x := qlm k x 2
theorem qqA (k : Nat) (x : Int) : qe1.f k x = qdj.f k x := by unfold qe1.f qdj.f; rw [qkn]
theorem qjc : ∀ (k : Nat) (h : Int) (x : List Int) (i : Int), qbY.l0 k h x i = qaP.l0 k h x i
 | 0, _, _, _ => rfl
 | k + 1, h, x, i => by simp only [qbY.l0, qaP.l0, qqA, qjc k]
theorem qje : ∀ k : Nat, (∀ x l, qa4.l0 k x l = qaW.l0 k x l) ∧ ∀ x l p e, qa4.l1 k x l p e = qaW.l1 k x l p e
 | 0 => ⟨fun _ _ => rfl, fun _ _ _ _ => rfl⟩
 | k + 1 => by
  have ih := qje k; exact ⟨fun x l => by simp only [qa4.l0, qaW.l0, qkn, ih.2], fun x l p e => by simp only [qa4.l1, qaW.l1, ih.1, ih.2]⟩
theorem qiB (k : Nat) (x : Int) : qa4.f k x = qaW.f k x := (qje k).1 x []
theorem qjs : ∀ (k : Nat) (x : Int) (l : List (List Int)) (n i : Int), qcg.l0 k x l n i = qcc.l0 k x l n i
 | 0, _, _, _, _ => rfl
 | k + 1, x, l, n, i => by simp only [qcg.l0, qcc.l0, qjs k]
theorem qqp {x : Nat} (hx : x ≤ 1000000) : ∃ b, Ev (fun k => qdj.f k (x : Int)) b := by
 by_cases c : 2 ≤ x
 ·obtain ⟨p, -, K, h⟩ := qhV c hx
  refine ⟨((p : Int) == (x : Int)), K, fun k hk => ?_⟩; have h := h k hk; dsimp only at h
  show qdj.f k x = _
  unfold qdj.f; rw [if_pos (by omega), h, qax]
 ·refine ⟨false, 0, fun k hk => ?_⟩
  show qdj.f k x = _
  unfold qdj.f; rw [if_neg (by omega)]
theorem qiS {n : Nat} (hn : n ≤ 100000) : ∀ (d i : Nat) (x : List Int), i + d = n + 1 → x.length ≤ i → ∃ L : List Int, L.length ≤ n + 1 ∧ Ev (fun k => qaP.l0 k (n : Int) x (i : Int)) L
 | 0, i, x, h, hx => ⟨x, by omega, Ev.mk' 0 fun k _ => by simp only [qaP.l0]; rw [if_neg (by omega)]⟩
 | d + 1, i, x, h, hx => by
  obtain ⟨b, K1, h1⟩ := qqp (x := i) (by omega)
  have hw : wrap64 ((i : Int) + 1) = ((i + 1 : Nat) : Int) := by rw [qa5 (by omega) (by omega)]; omega
  cases b with
  | true =>
   obtain ⟨L, hL, K2, h2⟩ := qiS hn d (i + 1) (x ++ [(i : Int)]) (by omega) (by simp; omega); refine ⟨L, hL, Ev.mk' (K1 + K2) fun k hk => ?_⟩; have h1 := h1 k (by omega); dsimp only at h1; simp only [qaP.l0]; rw [if_pos (by omega), h1, qax, if_pos rfl, if_pos (by omega), hw]; exact h2 k (by omega)
  | false =>
   obtain ⟨L, hL, K2, h2⟩ := qiS hn d (i + 1) x (by omega) (by omega); refine ⟨L, hL, Ev.mk' (K1 + K2) fun k hk => ?_⟩; have h1 := h1 k (by omega); dsimp only at h1; simp only [qaP.l0]; rw [if_pos (by omega), h1, qax, if_neg (by decide), hw]; exact h2 k (by omega)
def Num2 (f g : Nat → Option (Int × Bool)) : Prop := ∃ (v : Nat) (ok : Bool), v ≤ 4611686018427387904 ∧ Ev f ((v : Int), ok) ∧ Ev g ((v : Int), ok)
theorem qp4 (n : Nat) (hn : n ≤ 999999) : Num2 (fun k => qc0.f k (n : Int)) (fun k => qc3.f k (n : Int)) := by
 by_cases c : n ≤ 10000
 ·obtain ⟨L, hL, K, h⟩ := qiS (n := n) (by omega) (n + 1) 0 [] (by omega) (by simp)
  have h : ∀ k, K ≤ k → qaP.l0 k (n : Int) [] 0 = some L := h; refine ⟨L.length, true, by omega, ⟨K, fun k hk => ?_⟩, ⟨K, fun k hk => ?_⟩⟩
  ·show qc0.f k n = _
   unfold qc0.f qaP.f; rw [if_neg (by omega), if_neg (by omega), h k hk, qax]
  ·show qc3.f k n = _
   unfold qc3.f qdP.f qbY.f; rw [qdX, qax, qax, decide_eq_true (show (0 : Int) ≤ n by omega), decide_eq_true (show (n : Int) ≤ 10000 by omega), qjc, h k hk]; rfl
 ·refine ⟨0, false, by omega, ⟨0, fun k hk => ?_⟩, ⟨0, fun k hk => ?_⟩⟩
  ·show qc0.f k n = _
   unfold qc0.f; rw [if_neg (by omega), if_pos (by omega)]; rfl
  ·show qc3.f k n = _
   unfold qc3.f qdP.f; rw [qdX, qax, qax, decide_eq_true (show (0 : Int) ≤ n by omega), decide_eq_false (show ¬ (n : Int) ≤ 10000 by omega)]; rfl
theorem Fac.sm {l : List (Nat × Nat)} {n : Nat} (h : Fac l n) : ∀ p ∈ l, 2 ≤ p.1 ∧ p.1 ≤ n ∧ p.2 ≤ n := by
 induction h with
 | one => simp
 | @snoc l m p e hF hp he hc ih =>
  have hm := hF.pos; have h1 : p ^ 1 ≤ p ^ e := Nat.pow_le_pow_right (by have := hp.1; omega) he; have h2 := qi7 (e := e) hp.1; have h3 : 1 * p ^ e ≤ m * p ^ e := Nat.mul_le_mul_right _ hm; have h4 : m * 1 ≤ m * p ^ e := Nat.mul_le_mul_left _ (by omega); intro q hq
  rcases List.mem_append.1 hq with hq | hq
  ·have := ih q hq; omega
  ·obtain rfl := List.mem_singleton.1 hq
   have := hp.1; simp only [Nat.pow_one] at h1; omega
theorem Fac.sms {l : List (Nat × Nat)} {n : Nat} (h : Fac l n) (hn : n ≤ 1000000) : Sms l := ⟨by have := h.len; omega, fun p hp => by have := h.sm p hp; omega⟩
theorem qmx (n : Nat) (hn : n ≤ 999999) : ∃ (L : List (Nat × Nat)) (ok : Bool), Sms L ∧ Ev (fun k => qcJ.f k (n : Int)) (L.map qhf, ok) ∧ Ev (fun k => qcL.f k (n : Int)) (L.map qhf, ok) := by
 by_cases c : 1 ≤ n
 ·obtain ⟨L, hF, K, h⟩ := qiU c (by omega)
  refine ⟨L, true, hF.sms (by omega), ⟨K, fun k hk => ?_⟩, ⟨K, fun k hk => ?_⟩⟩ <;> have h := h k hk <;> dsimp only at h
  ·show qcJ.f k n = _
   unfold qcJ.f qdA.f; rw [if_pos (by omega), qax, if_pos (decide_eq_true (by omega)), h, qax]
  ·show qcL.f k n = _
   unfold qcL.f qdB.f; rw [qdX, qax, qax, decide_eq_true (show (1 : Int) ≤ n by omega), decide_eq_true (show (n : Int) ≤ 1000000000 by omega), qiB, h]; rfl
 ·refine ⟨[], false, ⟨by simp, by simp⟩, ⟨0, fun k hk => ?_⟩, ⟨0, fun k hk => ?_⟩⟩
  ·show qcJ.f k n = _
   unfold qcJ.f qdA.f; rw [if_neg (by omega), qax]; rfl
  ·show qcL.f k n = _
   unfold qcL.f qdB.f; rw [qdX, qax, qax, decide_eq_false (show ¬ (1 : Int) ≤ n by omega)]; rfl
theorem qlH (L : List (Nat × Nat)) (hs : ∀ p ∈ L, 2 ≤ p.1 ∧ p.1 ≤ 1000000) (hl : L.length ≤ 1000000) : ∀ (d i x : Nat), i + d = L.length → x ≤ 1000000 → ∃ y : Nat, y ≤ 1000000 ∧ Ev (fun k => qcc.l0 k (x : Int) (L.map qhf) ((L.map qhf).length : Int) (i : Int)) (y : Int)
 | 0, i, x, h, hx => ⟨x, hx, Ev.mk' 0 fun k _ => by simp only [qcc.l0]; rw [List.length_map, if_neg (by omega)]⟩
 | d + 1, i, x, h, hx => by
  have hp := hs _ (List.getElem_mem (show i < L.length by omega)); have hr := rdr L i (by omega); have hr0 : rd (qhf L[i]) 0 = ((L[i].1 : Nat) : Int) := rfl; have hlen : (qhf L[i]).length = 2 := rfl
  generalize L[i].1 = p at hp hr0
  have hm : x / p * (p - 1) ≤ x := Nat.le_trans (Nat.mul_le_mul_left _ (by omega)) (Nat.div_mul_le_self x p); have hq : x / p ≤ x := Nat.div_le_self _ _; obtain ⟨y, hy, K, ih⟩ := qlH L hs hl d (i + 1) (x / p * (p - 1)) (by omega) (by omega); refine ⟨y, hy, Ev.mk' K fun k hk => ?_⟩; have ih := ih k hk; dsimp only at ih; simp only [qcc.l0]; rw [List.length_map] at ih ⊢; rw [if_pos (by omega), if_pos (by omega), if_pos (by omega), hr, hlen, if_pos (by omega), hr0, if_neg (by omega), qjO, wn (by omega), show wrap64 ((p : Int) - 1) = ((p - 1 : Nat) : Int) from wsub (b := 1) (by omega) (by omega), wmul (by omega) (by omega), qpd (by omega)]; exact ih
theorem qmD (n : Nat) (hn : n ≤ 999999) : Num2 (fun k => qdw.f k (n : Int)) (fun k => qdx.f k (n : Int)) := by
 by_cases c : 1 ≤ n
 ·obtain ⟨L, hF, K, h⟩ := qiU c (by omega)
  obtain ⟨y, hy, K2, h2⟩ := qlH L (fun p hp => by have := hF.sm p hp; omega) (by have := hF.len; omega) L.length 0 n (by omega) (by omega)
  refine ⟨y, true, by omega, ⟨K + K2, fun k hk => ?_⟩, ⟨K + K2, fun k hk => ?_⟩⟩ <;> have h := h k (by omega) <;> have h2 : qcc.l0 k (n : Int) (L.map qhf) ((L.map qhf).length : Int) 0 = some (y : Int) := h2 k (by omega) <;> dsimp only at h
  ·show qdw.f k n = _
   unfold qdw.f qcm.f qcc.f; rw [if_pos (by omega), qax, if_pos (decide_eq_true (by omega)), h, qax, h2, qax]
  ·show qdx.f k n = _
   unfold qdx.f qdf.f qcg.f; rw [qdX, qax, qax, decide_eq_true (show (1 : Int) ≤ n by omega), decide_eq_true (show (n : Int) ≤ 1000000 by omega), qiB, h, qax, qjs, h2]; rfl
 ·refine ⟨0, false, by omega, ⟨0, fun k hk => ?_⟩, ⟨0, fun k hk => ?_⟩⟩
  ·show qdw.f k n = _
   unfold qdw.f qcm.f; rw [if_neg (by omega), qax]; rfl
  ·show qdx.f k n = _
   unfold qdx.f qdf.f; rw [qdX, qax, qax, decide_eq_false (show ¬ (1 : Int) ≤ n by omega)]; rfl
theorem qkr (n r : Nat) : qpO n (r + 1) = qpO n r ++ if n % (r + 1) = 0 then [r + 1] else [] := by
 unfold qpO; rw [List.range_succ, List.map_append, List.filter_append]
 by_cases c : n % (r + 1) = 0 <;> simp [c]
theorem qlh (n r : Nat) : qkd n (r + 1) = (if n % (r + 1) = 0 ∧ (r + 1) * (r + 1) < n then [n / (r + 1)] else []) ++ qkd n r := by
 unfold qkd; rw [qkr, List.filter_append, List.map_append, List.reverse_append]
 by_cases c : n % (r + 1) = 0 <;> by_cases c2 : (r + 1) * (r + 1) < n <;> simp [c, c2]
theorem qpP (n : Nat) : ∀ r, (qpO n r).length ≤ r
 | 0 => by simp [qpO]
 | r + 1 => by
  have := qpP n r
  rw [qkr, List.length_append]; split <;> simp <;> omega
theorem qnc (n : Nat) : ∀ r, (qkd n r).length ≤ r
 | 0 => by simp [qkd, qpO]
 | r + 1 => by
  have := qnc n r
  rw [qlh, List.length_append]; split <;> simp <;> omega
theorem qmT {n : Nat} (h1 : 1 ≤ n) (hn : n ≤ 1000000) : ∀ (s r : Nat), r + s = 1001 → r * r ≤ n → Ev (fun k => qb3.l0 k (n : Int) (cz (qpO n r)) (cz (qkd n r)) ((r + 1 : Nat) : Int)) (cz (qpo n))
 | 0, r, h, hr => by
  obtain rfl : r = 1001 := by omega
  omega
 | s + 1, r, h, hr => by
  have l1 := qpP n r; have l2 := qnc n r; have e1 := qfG (qpO n r); have e2 := qfG (qkd n r); by_cases c : (r + 1) * (r + 1) ≤ n
  ·obtain ⟨K, ih⟩ := qmT h1 hn s (r + 1) (by omega) c
   refine Ev.mk' K fun k hk => ?_
   have ih := ih k hk; dsimp only at ih; rw [qkr, qlh] at ih; simp only [qb3.l0]; rw [wmul (by omega) (by omega), if_pos (by omega), if_neg (by omega), qhM, qpd (by omega)]; by_cases c2 : n % (r + 1) = 0
   ·rw [if_pos (by omega), if_pos (by omega), qax]
    rw [if_pos c2] at ih; by_cases c3 : (r + 1) * (r + 1) < n
    ·have hq : n / (r + 1) ≤ n := Nat.div_le_self _ _
     rw [if_pos ⟨c2, c3⟩] at ih; rw [if_pos (by omega), qax, if_pos (by simp only [List.length_cons, List.length_nil]; omega), qjO, wn (by omega)]; rw [qk9, qk9] at ih; exact ih
    ·rw [if_neg (fun h => c3 h.2), List.nil_append, qk9] at ih
     rw [if_neg (by omega)]; exact ih
   ·rw [if_neg c2, if_neg (fun h => c2 h.1), List.append_nil, List.nil_append] at ih
    rw [if_neg (by omega)]; exact ih
  ·refine Ev.mk' 0 fun k hk => ?_
   simp only [qb3.l0]; rw [wmul (by omega) (by omega), if_neg (by omega), if_pos (by omega), ← qk9, qrq n r h1 hr (by omega)]
theorem divs_sm {n : Nat} (h1 : 1 ≤ n) (hn : n ≤ 1000000) : Sm (qpo n) := by
 refine ⟨?_, fun d hd => ?_⟩
 ·unfold qpo
  exact Nat.le_trans (List.length_filter_le _ _) (by simp; omega)
 ·have := Nat.le_of_dvd (by omega) ((ql2 n d h1).1 hd); omega
theorem qlJ (n : Nat) (hn : n ≤ 999999) : ∃ (L : List Nat) (ok : Bool), Sm L ∧ Ev (fun k => qdc.f k (n : Int)) (cz L, ok) ∧ Ev (fun k => qde.f k (n : Int)) (cz L, ok) := by
 by_cases c : 1 ≤ n
 ·obtain ⟨K, h⟩ := qof c (by omega)
  obtain ⟨K2, h2⟩ := qmT c (by omega) 1001 0 rfl (by omega); refine ⟨qpo n, true, divs_sm c (by omega), ⟨K, fun k hk => ?_⟩, ⟨K2, fun k hk => ?_⟩⟩
  ·have h := h k hk
   dsimp only at h
   show qdc.f k n = _
   unfold qdc.f qcm.f; rw [if_pos (by omega), qax, if_pos (decide_eq_true (by omega)), h, qax]
  ·have h2 : qb3.l0 k (n : Int) [] [] 1 = _ := h2 k hk
   show qde.f k n = _
   unfold qde.f qdf.f qb3.f; rw [qdX, qax, qax, decide_eq_true (show (1 : Int) ≤ n by omega), decide_eq_true (show (n : Int) ≤ 1000000 by omega), h2]; rfl
 ·refine ⟨[], false, ⟨by simp, by simp⟩, ⟨0, fun k hk => ?_⟩, ⟨0, fun k hk => ?_⟩⟩
  ·show qdc.f k n = _
   unfold qdc.f qcm.f; rw [if_neg (by omega), qax]; rfl
  ·show qde.f k n = _
   unfold qde.f qdf.f; rw [qdX, qax, qax, decide_eq_false (show ¬ (1 : Int) ≤ n by omega)]; rfl
theorem qnq : ∀ (l : List qac) (p q : Nat), qst p l = some q → p ∣ q ∧ ∀ r ∈ l, r.f0.toNat ∣ q
 | [], p, q, h => by
  simp only [qst, Option.some.injEq] at h; subst h; exact ⟨Nat.dvd_refl _, by simp⟩
 | x :: t, p, q, h => by
  simp only [qst] at h; split at h
  ·cases h
  ·obtain ⟨h1, h2⟩ := qnq t _ q h
   exact ⟨Nat.dvd_trans (Nat.dvd_lcm_left _ _) h1, fun r hr => by
    rcases List.mem_cons.1 hr with rfl | hr
    ·exact Nat.dvd_trans (Nat.dvd_lcm_right _ _) h1
    ·exact h2 r hr⟩
theorem qoV {l : List qac} {p : Nat} (h : period l = some p) (z : Int) : left l (z + p) = left l z := by
 have hg := (qfB h).1
 have hd : ∀ r ∈ l, r.f0.toNat ∣ p := by
  unfold period at h; rw [if_pos hg] at h; exact (qnq l 1 p h).2
 have hok := (qb4 hg).2; unfold left
 congr 1
 rw [Bool.eq_iff_iff, List.any_eq_true, List.any_eq_true]
 have e : ∀ r ∈ l, (z + p) % r.f0 = z % r.f0 := fun r hr => by
  have h2 := (qdh r).1 (List.all_eq_true.1 hok r hr); obtain ⟨c, hc⟩ := hd r hr
  have e1 : (p : Int) = r.f0 * c := by
   have h3 : ((r.f0.toNat : Nat) : Int) = r.f0 := by omega
   rw [hc, Int.natCast_mul, h3]
  rw [e1, Int.add_mul_emod_self_left]
 exact ⟨fun ⟨r, hr, h1⟩ => ⟨r, hr, by have h2 : ((z + p) % r.f0 == r.f1) = true := h1; rw [e r hr] at h2; exact h2⟩, fun ⟨r, hr, h1⟩ => ⟨r, hr, by show ((z + p) % r.f0 == r.f1) = true; rw [e r hr]; exact h1⟩⟩
theorem qeZ (l : List qac) : ∀ (m : Nat) (i x : Int), x ∈ lefts l i m ↔ i ≤ x ∧ x < i + m ∧ left l x = true
 | 0, i, x => by simp [lefts]; omega
 | m + 1, i, x => by
  have ih := qeZ l m (i + 1) x
  cases hb : left l i with
  | true =>
   have e : lefts l i (m + 1) = i :: lefts l (i + 1) m := by simp only [lefts, hb]; rfl
   rw [e, List.mem_cons, ih]; constructor
   ·rintro (h | h)
    ·exact ⟨by omega, by omega, by rw [h]; exact hb⟩
    ·exact ⟨by omega, by omega, h.2.2⟩
   ·intro h
    by_cases c : x = i
    ·exact .inl c
    ·exact .inr ⟨by omega, by omega, h.2.2⟩
  | false =>
   have e : lefts l i (m + 1) = lefts l (i + 1) m := by simp only [lefts, hb]; rfl
   rw [e, ih]; constructor
   ·intro h; exact ⟨by omega, by omega, h.2.2⟩
   ·intro h
    have c : x ≠ i := fun e => by rw [e, hb] at h; exact absurd h.2.2 (by decide)
    exact ⟨by omega, by omega, h.2.2⟩
theorem qlo (l : List qac) : ∀ (m : Nat) (i : Int), (lefts l i m).Pairwise (· < ·)
 | 0, i => by simp [lefts]
 | m + 1, i => by
  have ih := qlo l m (i + 1)
  cases hb : left l i with
  | true =>
   have e : lefts l i (m + 1) = i :: lefts l (i + 1) m := by simp only [lefts, hb]; rfl
   rw [e]; exact List.pairwise_cons.2 ⟨fun x hx => by have := (qeZ l m (i + 1) x).1 hx; omega, ih⟩
  | false =>
   have e : lefts l i (m + 1) = lefts l (i + 1) m := by simp only [lefts, hb]; rfl
   rw [e]; exact ih
theorem qrn (L : List Int) (h : ∀ x ∈ L, 0 ≤ x) : cz (L.map Int.toNat) = L := by
 unfold cz; rw [List.map_map]
 conv => rhs; rw [← List.map_id L]
 exact List.map_congr_left fun x hx => by have := h x hx; show ((x.toNat : Nat) : Int) = x; omega
theorem qsG {L : List Int} (h : ∀ x ∈ L, 0 ≤ x ∧ x ≤ 10000000) (hl : L.length ≤ 1000000) : Sm (L.map Int.toNat) := ⟨by rw [List.length_map]; exact hl, fun n hn => by
 obtain ⟨x, hx, rfl⟩ := List.mem_map.1 hn
 have := h x hx; omega⟩
theorem qkF : ∀ (k : Nat) (l : List qac) (h : Int) (x : List Int) (i : Int), qbo.l0 k l h x i = qbV.l0 k l h x i
 | 0, _, _, _, _ => rfl
 | k + 1, l, h, x, i => by simp only [qbo.l0, qbV.l0, qkF k]
theorem qkG (l : List qac) (hm : l.length ≤ 12) (hl : l.all qbC = true) (q : Nat) (hq : q ≤ 5000) : Ev (fun k => qbo.f k l (q : Int)) (lefts l 1 q) := by
 obtain ⟨K, h⟩ := qiJ l hm hl (q : Int) (by omega) q 1 [] (by omega) (by omega) (by simp; omega); exact ⟨K, fun k hk => by show qbo.l0 k l q [] 1 = _; rw [qkF]; exact h k hk⟩
theorem qim (l : List qac) (hm : l.length ≤ 12) (hl : l.all qbC = true) (q : Nat) (hq : q ≤ 5000) : ∀ (d i : Nat), i + d = q → Ev (fun k => qaS.l0 k l (q : Int) (i : Int)) (if lefts l i d = [] then 0 else (q : Int))
 | 0, i, h => Ev.mk' 0 fun k _ => by simp only [qaS.l0]; rw [if_neg (by omega)]; rfl
 | d + 1, i, h => by
  obtain ⟨K1, h1⟩ := qhA (i : Int) l (by omega) hl
  cases hb : left l (i : Int) with
  | true =>
   have e : lefts l (i : Int) (d + 1) = (i : Int) :: lefts l ((i : Int) + 1) d := by simp only [lefts, hb]; rfl
   rw [hb] at h1; rw [e, if_neg (by simp)]
   refine Ev.mk' K1 fun k hk => ?_
   have h1 := h1 k hk; dsimp only at h1; simp only [qaS.l0]; rw [if_pos (by omega), h1, qax, if_pos rfl]
  | false =>
   have e : lefts l (i : Int) (d + 1) = lefts l ((i + 1 : Nat) : Int) d := by simp only [lefts, hb]; rfl
   rw [hb] at h1; rw [e]; obtain ⟨K, ih⟩ := qim l hm hl q hq d (i + 1) (by omega)
   refine Ev.mk' (K + K1) fun k hk => ?_
   have h1 := h1 k (by omega); have ih := ih k (by omega); dsimp only at h1 ih; simp only [qaS.l0]; rw [if_pos (by omega), h1, qax, if_neg (by decide), qa5 (by omega) (by omega), show ((i : Int) + 1) = ((i + 1 : Nat) : Int) by omega, ih]
def qkZ (l : List qac) : Option (Nat × List Int) := match period l with
 | none => none
 | some q => if q ≤ 5000 ∧ lefts l 1 q ≠ [] then some (q, lefts l 1 q) else none
theorem qhN {l : List qac} {q : Nat} {S : List Int} (h : qkZ l = some (q, S)) : 0 < q ∧ q ≤ 5000 ∧ S = lefts l 1 q ∧ S ≠ [] ∧ S.length ≤ 5000 := by
 unfold qkZ at h
 cases hp : period l with
 | none => rw [hp] at h; cases h
 | some p =>
  rw [hp] at h; simp only [] at h; split at h
  ·rename_i c
   simp only [Option.some.injEq, Prod.mk.injEq] at h; obtain ⟨rfl, rfl⟩ := h; have := qjl l p 1; exact ⟨(qfB hp).2.1, c.1, rfl, c.2, by omega⟩
  ·cases h
theorem qi9 (l : List qac) : ∃ a b, Ev (fun k => qbS.f k l) (match qkZ l with | some (q, S) => ((q : Int), S, true) | none => (a, b, false)) := by
 obtain ⟨K, h⟩ := qih l; unfold qkZ
 cases hp : period l with
 | none =>
  rw [hp] at h; refine ⟨0, [], K, fun k hk => ?_⟩; have h := h k hk; dsimp only at h
  show qbS.f k l = _
  unfold qbS.f; rw [h, qax, if_neg (by decide)]
 | some q =>
  rw [hp] at h; obtain ⟨hg, q0, q1⟩ := qfB hp; by_cases c : q ≤ 5000
  ·obtain ⟨K2, h2⟩ := qhW l (qb4 hg).2 1 (q : Int) (by omega) (by omega) (by omega)
   have e : qgv l 1 (q : Int) = lefts l 1 q := by unfold qgv; congr 1; omega
   rw [e] at h2; refine ⟨(q : Int), [], K + K2, fun k hk => ?_⟩; have h := h k (by omega); have h2 := h2 k (by omega); dsimp only at h h2
   show qbS.f k l = _
   unfold qbS.f; rw [h, qax, if_pos rfl, if_neg (by omega), h2, qax]; by_cases c2 : lefts l 1 q = []
   ·simp only []
    rw [if_neg (fun h => h.2 c2), c2]; rfl
   ·have : 0 < (lefts l 1 q).length := List.length_pos_iff.2 c2
    simp only []; rw [if_pos ⟨c, c2⟩, decide_eq_true (by omega)]
  ·refine ⟨0, [], K, fun k hk => ?_⟩
   have h := h k (by omega); dsimp only at h
   show qbS.f k l = _
   unfold qbS.f; rw [h, qax, if_pos rfl, if_pos (by omega)]; simp only []; rw [if_neg (fun h => c h.1)]
theorem qil (l : List qac) (hg : qaG l = true) : Ev (fun k => qaS.f k l) (match qkZ l with | some (q, _) => (q : Int) | none => 0) := by
 obtain ⟨K1, h1⟩ := qe0 l; obtain ⟨K2, h2⟩ := qij l hg; obtain ⟨hm, hl⟩ := qb4 hg; unfold qkZ
 cases hp : period l with
 | none =>
  rw [hp] at h2; obtain ⟨K3, h3⟩ := qim l hm hl 0 (by omega) 0 0 rfl; refine ⟨K1 + K2 + K3, fun k hk => ?_⟩; have h1 := h1 k (by omega); have h2 := h2 k (by omega); dsimp only at h1 h2
  show qaS.f k l = _
  unfold qaS.f; rw [h1, qax, hg, if_pos rfl, h2, qax, if_neg (by omega)]; exact h3 k (by omega)
 | some q =>
  rw [hp] at h2; obtain ⟨-, q0, q1⟩ := qfB hp; by_cases c : q ≤ 5000
  ·obtain ⟨K3, h3⟩ := qim l hm hl q c q 0 (by omega)
   refine ⟨K1 + K2 + K3, fun k hk => ?_⟩; have h1 := h1 k (by omega); have h2 := h2 k (by omega); have h3 : qaS.l0 k l (q : Int) 0 = _ := h3 k (by omega); dsimp only at h1 h2; have hpl := qoV hp 0
   have e : lefts l ((0 : Nat) : Int) q = [] ↔ lefts l 1 q = [] := by
    rw [List.eq_nil_iff_forall_not_mem, List.eq_nil_iff_forall_not_mem]; constructor
    ·intro h x hx
     have hx := (qeZ l q 1 x).1 hx; by_cases c : x = q
     ·refine h 0 ((qeZ l q _ 0).2 ⟨by omega, by omega, ?_⟩)
      rw [c, show ((q : Nat) : Int) = 0 + (q : Int) by omega, hpl] at hx; exact hx.2.2
     ·exact h x ((qeZ l q _ x).2 ⟨by omega, by omega, hx.2.2⟩)
    ·intro h x hx
     have hx := (qeZ l q _ x).1 hx; by_cases c : x = 0
     ·refine h q ((qeZ l q 1 q).2 ⟨by omega, by omega, ?_⟩)
      rw [show ((q : Nat) : Int) = 0 + (q : Int) by omega, hpl, ← c]; exact hx.2.2
     ·exact h x ((qeZ l q 1 x).2 ⟨by omega, by omega, hx.2.2⟩)
   show qaS.f k l = _
   unfold qaS.f; rw [h1, qax, hg, if_pos rfl, h2, qax, if_neg (by omega), h3]; simp only []; by_cases c2 : lefts l 1 q = []
   ·rw [if_pos (e.2 c2), if_neg (fun h => h.2 c2)]
   ·rw [if_neg (fun h => c2 (e.1 h)), if_pos ⟨c, c2⟩]
  ·refine ⟨K1 + K2, fun k hk => ?_⟩
   have h1 := h1 k (by omega); have h2 := h2 k (by omega); dsimp only at h1 h2
   show qaS.f k l = _
   unfold qaS.f; rw [h1, qax, hg, if_pos rfl, h2, qax, if_pos (by omega)]; simp only []; rw [if_neg (fun h => c h.1)]
def List2 (f g : Nat → Option (List Int × Bool)) : Prop := ∃ (L : List Nat) (ok : Bool), Sm L ∧ Ev f (cz L, ok) ∧ Ev g (cz L, ok)
theorem nil_sm : Sm [] := ⟨by simp, by simp⟩
theorem qik {l : List qac} {q : Nat} {S : List Int} (h : qkZ l = some (q, S)) : ∀ x ∈ S, 1 ≤ x ∧ x ≤ (q : Int) := fun x hx => by
 obtain ⟨-, -, rfl, -⟩ := qhN h; have := (qeZ l q 1 x).1 hx; omega
theorem qn2 (l : List qac) (hg : qaG l = true) : List2 (fun k => qdM.f k l) (fun k => qdN.f k l) := by
 obtain ⟨a, b, K1, h1⟩ := qi9 l; obtain ⟨K2, h2⟩ := qil l hg
 cases hw : qkZ l with
 | none =>
  rw [hw] at h1 h2; refine ⟨[], false, nil_sm, ⟨K1, fun k hk => ?_⟩, ⟨K2, fun k hk => ?_⟩⟩
  ·have h1 := h1 k hk
   dsimp only at h1
   show qdM.f k l = _
   unfold qdM.f; rw [h1, qax]; rfl
  ·have h2 := h2 k hk
   dsimp only at h2
   show qdN.f k l = _
   unfold qdN.f; rw [h2, qax]; rfl
 | some v =>
  obtain ⟨q, S⟩ := v; rw [hw] at h1 h2; obtain ⟨q0, q1, e, -, hl⟩ := qhN hw; have hb := qik hw; obtain ⟨K3, h3⟩ := qkG l (qb4 hg).1 (qb4 hg).2 q q1; rw [← e] at h3; have hc := qrn S (fun x hx => by have := hb x hx; omega)
  refine ⟨S.map Int.toNat, true, qsG (fun x hx => by have := hb x hx; omega) (by omega), ?_, ?_⟩ <;> rw [hc]
  ·refine ⟨K1, fun k hk => ?_⟩
   have h1 := h1 k hk; dsimp only at h1
   show qdM.f k l = _
   unfold qdM.f; rw [h1, qax]; rfl
  ·refine ⟨K2 + K3, fun k hk => ?_⟩
   have h2 := h2 k (by omega); have h3 := h3 k (by omega); dsimp only at h2 h3
   show qdN.f k l = _
   unfold qdN.f; rw [h2, qax, if_neg (by omega), h3, qax]
theorem rdi (S : List Int) (i : Nat) (h : i < S.length) : rd S (i : Int) = S[i] := by
 unfold rd; rw [Int.toNat_natCast, List.getD_eq_getElem?_getD, List.getElem?_eq_getElem h]; rfl
theorem qmk (q : Nat) (hq : q ≤ 5000) (S : List Int) (hS : S ≠ []) (hl : S.length ≤ 5000) (hb : ∀ x ∈ S, 1 ≤ x ∧ x ≤ (q : Int)) (hr : S.Pairwise (· < ·)) : ∀ (d i : Nat) (x : List Int), i + d = S.length → x.length = i → (∀ y ∈ x, 0 ≤ y ∧ y ≤ 10000) → ∃ L : List Int, (∀ y ∈ L, 0 ≤ y ∧ y ≤ 10000) ∧ L.length = S.length ∧ Ev (fun k => qaL.l0 k x S (S.length : Int) (i : Int) (q : Int) S) L ∧ Ev (fun k => qbT.l0 k (q : Int) S x S (S.length : Int) (i : Int)) L
 | 0, i, x, h, hx, hy => ⟨x, hy, by omega, Ev.mk' 0 fun k _ => by simp only [qaL.l0]; rw [if_neg (by omega)], Ev.mk' 0 fun k _ => by simp only [qbT.l0]; rw [if_neg (by omega)]⟩
 | d + 1, i, x, h, hx, hy => by
  have h0 : 0 < S.length := List.length_pos_iff.2 hS; have bi := hb _ (List.getElem_mem (show i < S.length by omega)); have b0 := hb _ (List.getElem_mem h0); have ri := rdi S i (by omega); have r0 : rd S 0 = S[0] := rdi S 0 h0
  have hw : wrap64 ((i : Int) + 1) = ((i + 1 : Nat) : Int) := by rw [qa5 (by omega) (by omega)]; omega
  by_cases c : i + 1 < S.length
  ·have bn := hb _ (List.getElem_mem c)
   have hlt : S[i] < S[i + 1] := List.pairwise_iff_getElem.1 hr i (i + 1) (by omega) c (by omega); have rn := rdi S (i + 1) c
   obtain ⟨L, g1, g2, ⟨K1, h1⟩, ⟨K2, h2⟩⟩ := qmk q hq S hS hl hb hr d (i + 1) (x ++ [S[i + 1] - S[i]]) (by omega) (by simp; omega) (fun y hy2 => by
    rcases List.mem_append.1 hy2 with h | h
    ·exact hy y h
    ·rw [List.mem_singleton.1 h]; omega)
   refine ⟨L, g1, g2, Ev.mk' K1 fun k hk => ?_, Ev.mk' K2 fun k hk => ?_⟩
   ·simp only [qaL.l0]
    rw [if_pos (by omega), if_pos (by omega), if_pos (by omega), hw, if_pos (by omega), if_pos (by omega), if_pos (by omega), rn, ri, qa5 (n := S[i + 1] - S[i]) (by omega) (by omega)]; exact h1 k hk
   ·simp only [qbT.l0]
    rw [if_pos (by omega), if_pos (by omega), if_pos (by omega), if_pos (by omega), hw, if_pos (by omega), if_pos (by omega), if_pos (by omega), rn, ri, qa5 (n := S[i + 1] - S[i]) (by omega) (by omega)]; exact h2 k hk
  ·obtain ⟨L, g1, g2, ⟨K1, h1⟩, ⟨K2, h2⟩⟩ := qmk q hq S hS hl hb hr d (i + 1) (x ++ [S[0] + q - S[i]]) (by omega) (by simp; omega) (fun y hy2 => by
    rcases List.mem_append.1 hy2 with h | h
    ·exact hy y h
    ·rw [List.mem_singleton.1 h]; omega)
   refine ⟨L, g1, g2, Ev.mk' K1 fun k hk => ?_, Ev.mk' K2 fun k hk => ?_⟩
   ·simp only [qaL.l0]
    rw [if_pos (by omega), if_pos (by omega), if_pos (by omega), hw, if_neg (by omega), if_pos (by omega), if_pos (by omega), r0, ri, qa5 (n := S[0] + (q : Int)) (by omega) (by omega), qa5 (n := S[0] + (q : Int) - S[i]) (by omega) (by omega)]; exact h1 k hk
   ·simp only [qbT.l0]
    rw [if_pos (by omega), if_pos (by omega), if_pos (by omega), if_pos (by omega), hw, if_neg (by omega), if_pos (by omega), r0, ri, qa5 (n := S[0] + (q : Int)) (by omega) (by omega), qa5 (n := S[0] + (q : Int) - S[i]) (by omega) (by omega)]; exact h2 k hk
theorem qp8 (l : List qac) (hg : qaG l = true) : List2 (fun k => qd1.f k l) (fun k => qd2.f k l) := by
 obtain ⟨a, b, K1, h1⟩ := qi9 l; obtain ⟨K2, h2⟩ := qil l hg
 cases hw : qkZ l with
 | none =>
  rw [hw] at h1 h2; refine ⟨[], false, nil_sm, ⟨K1, fun k hk => ?_⟩, ⟨K2, fun k hk => ?_⟩⟩
  ·have h1 := h1 k hk
   dsimp only at h1
   show qd1.f k l = _
   unfold qd1.f; rw [h1, qax]; rfl
  ·have h2 := h2 k hk
   dsimp only at h2
   show qd2.f k l = _
   unfold qd2.f; rw [h2, qax]; rfl
 | some v =>
  obtain ⟨q, S⟩ := v; rw [hw] at h1 h2; obtain ⟨q0, q1, e, hne, hl⟩ := qhN hw; have hb := qik hw; obtain ⟨K3, h3⟩ := qkG l (qb4 hg).1 (qb4 hg).2 q q1; rw [← e] at h3; obtain ⟨L, g1, g2, ⟨K4, h4⟩, ⟨K5, h5⟩⟩ := qmk q q1 S hne hl hb (by rw [e]; exact qlo l q 1) S.length 0 [] (by omega) rfl (by simp); have hc := qrn L (fun x hx => (g1 x hx).1)
  refine ⟨L.map Int.toNat, true, qsG (fun x hx => by have := g1 x hx; omega) (by omega), ?_, ?_⟩ <;> rw [hc]
  ·refine ⟨K1 + K4, fun k hk => ?_⟩
   have h1 := h1 k (by omega); have h4 : qaL.l0 k [] S (S.length : Int) 0 (q : Int) S = some L := h4 k (by omega); dsimp only at h1
   show qd1.f k l = _
   unfold qd1.f qaL.f; rw [h1, qax, if_pos rfl, h4, qax]
  ·refine ⟨K2 + K3 + K5, fun k hk => ?_⟩
   have h2 := h2 k (by omega); have h3 := h3 k (by omega); have h5 : qbT.l0 k (q : Int) S [] S (S.length : Int) 0 = some L := h5 k (by omega); dsimp only at h2 h3
   show qd2.f k l = _
   unfold qd2.f qbT.f; rw [h2, qax, if_neg (by omega), h3, qax, h5, qax]
theorem qq2 (l : List qac) (hg : qaG l = true) (n : Nat) (hn : n ≤ 999999) : Num2 (fun k => qbz.f k l (n : Int)) (fun k => qc4.f k l (n : Int)) := by
 obtain ⟨a, b, K1, h1⟩ := qi9 l; obtain ⟨K2, h2⟩ := qil l hg
 have hF : qeV.f (n : Int) = some true := by unfold qeV.f; rw [if_pos (by omega), decide_eq_true (by omega)]
 have hG : qdY.f (n : Int) = some true := by unfold qdY.f; rw [qdX, qax, decide_eq_true (by omega), decide_eq_true (by omega)]; rfl
 cases hw : qkZ l with
 | none =>
  rw [hw] at h1 h2; refine ⟨0, false, by omega, Ev.mk' K1 fun k hk => ?_, ⟨K2, fun k hk => ?_⟩⟩
  ·have h1 := h1 (k + 1) (by omega)
   dsimp only at h1; unfold qbz.f; rw [h1, qax]; simp only [qbz.j0, Bool.false_eq_true, if_false, if_true]; rfl
  ·have h2 := h2 k hk
   dsimp only at h2
   show qc4.f k l n = _
   unfold qc4.f; rw [h2, qax]; rfl
 | some v =>
  obtain ⟨q, S⟩ := v; rw [hw] at h1 h2; obtain ⟨q0, q1, e, hne, hl⟩ := qhN hw; have h0 : 0 < S.length := List.length_pos_iff.2 hne; have hb := qik hw; obtain ⟨K3, h3⟩ := qkG l (qb4 hg).1 (qb4 hg).2 q q1; rw [← e] at h3; have hm : n % S.length < S.length := Nat.mod_lt _ h0; have hbm := hb _ (List.getElem_mem hm); have rm := rdi S (n % S.length) hm; have hd : n / S.length ≤ n := Nat.div_le_self _ _; have hmul : n / S.length * q ≤ 999999 * 5000 := Nat.mul_le_mul (by omega) (by omega); have et : Int.tdiv (n : Int) (S.length : Int) = ((n / S.length : Nat) : Int) := qjO _ _; have em : Int.tmod (n : Int) (S.length : Int) = ((n % S.length : Nat) : Int) := qhM _ _; have ew := qag.mk (show wrap64 (wrap64 (((n / S.length : Nat) : Int)) * (q : Int)) = ((n / S.length * q : Nat) : Int) from by rw [wn (by omega), wmul (by omega) (by omega)])
  generalize n / S.length * q = u at hmul ew
  refine ⟨u + S[n % S.length].toNat, true, by omega, Ev.mk' K1 fun k hk => ?_, ⟨K2 + K3, fun k hk => ?_⟩⟩
  ·have h1 := h1 (k + 1) (by omega)
   dsimp only at h1; unfold qbz.f; rw [h1, qax, if_pos rfl, hF, qax]; simp only [qbz.j0, Bool.not_true, Bool.false_eq_true, if_false]; rw [if_neg (by omega), em, if_pos (by omega), if_pos (by omega), et, ew.out, rm, qa5 (by omega) (by omega), if_neg (by omega)]
   congr 2; omega
  ·have h2 := h2 k (by omega)
   have h3 := h3 k (by omega); dsimp only at h2 h3
   show qc4.f k l n = _
   unfold qc4.f; rw [h2, qax, if_neg (by omega), hG, qax, if_pos rfl, h3, qax, if_neg (by omega), em, if_pos (by omega), if_pos (by omega), et, ew.out, rm, qa5 (by omega) (by omega)]
   congr 2; omega
def sign (b : UInt8) : Bool := b == 111 || (b == 120 || b == 63)
def qh9 (s : ByteArray) (n : Int) : Bool := decide (1 ≤ s.size) && (decide (s.size ≤ 48) && (s.data.toList.all sign && (decide (0 ≤ n) && decide (n ≤ 3))))
theorem qlO (l : List UInt8) : (l.dropWhile ([111, 120, 63] : List UInt8).contains = []) ↔ l.all sign = true := by
 induction l with
 | nil => simp
 | cons x l ih =>
  have e : ([111, 120, 63] : List UInt8).contains x = sign x := by simp [sign, List.contains_cons]; rfl
  rw [List.dropWhile_cons, e, List.all_cons]
  cases hx : sign x
  ·simp
  ·simpa using ih
theorem qsQ (l : List UInt8) : (Lib.trimS l [111, 120, 63] = []) ↔ l.all sign = true := by
 have e : ∀ m : List UInt8, Lib.trimLeftS m [111, 120, 63] = [] ↔ m.all sign = true := fun m => qlO m
 have e2 : ∀ m : List UInt8, Lib.trimRightS m [111, 120, 63] = (Lib.trimLeftS m.reverse [111, 120, 63]).reverse := fun m => rfl
 unfold Lib.trimS; rw [e, e2, List.all_reverse]; constructor
 ·intro h
  have h2 := (e (Lib.trimLeftS l.reverse [111, 120, 63])).2 h
  have h3 : Lib.trimLeftS l.reverse [111, 120, 63] = [] := by
   cases hd : Lib.trimLeftS l.reverse [111, 120, 63] with
   | nil => rfl
   | cons x m =>
    exfalso
    have hx : ([111, 120, 63] : List UInt8).contains x = false := by
     have := List.head?_dropWhile_not (p := fun b => ([111, 120, 63] : List UInt8).contains b) (l := l.reverse); unfold Lib.trimLeftS at hd; rw [hd] at this
     simpa using this
    rw [hd, List.all_cons] at h
    have e3 : ([111, 120, 63] : List UInt8).contains x = sign x := by simp [sign, List.contains_cons]; rfl
    rw [e3] at hx; rw [hx] at h
    simp at h
  have := (e l.reverse).1 h3
  simpa using this
 ·intro h
  have h3 := (e l.reverse).2 (by simpa using h); rw [h3]; rfl
theorem qgT (s : ByteArray) (n : Int) : qcA.f s n = some (qh9 s n) := by
 unfold qcA.f qh9; by_cases h1 : (s.size : Int) ≥ 1
 ·by_cases h2 : (s.size : Int) ≤ 48
  ·have e : qdQ.f s (⟨#[111, 120, 63]⟩ : ByteArray) = some ⟨(Lib.trimS s.data.toList [111, 120, 63]).toArray⟩ := by
    unfold qdQ.f; rw [if_pos ⟨by omega, rfl⟩]
   rw [if_pos h1, if_pos h2, e, qax]; have d1 : decide (1 ≤ s.size) = true := decide_eq_true (by omega); have d2 : decide (s.size ≤ 48) = true := decide_eq_true (by omega); rw [d1, d2, Bool.true_and, Bool.true_and]
   have e3 : (ByteArray.toList ⟨(Lib.trimS s.data.toList [111, 120, 63]).toArray⟩ = ([] : List UInt8)) ↔ s.data.toList.all sign = true := by
    rw [← qsQ, ByteArray.toList_eq]
   by_cases h3 : s.data.toList.all sign = true
   ·rw [if_pos (e3.2 h3), h3, Bool.true_and]
    by_cases h4 : n ≥ 0
    ·rw [if_pos h4, decide_eq_true (show 0 ≤ n by omega), Bool.true_and]
    ·rw [if_neg h4, decide_eq_false (show ¬ 0 ≤ n by omega), Bool.false_and]
   ·rw [if_neg (fun h => h3 (e3.1 h)), Bool.eq_false_iff.2 h3, Bool.false_and]
  ·rw [if_pos h1, if_neg h2, decide_eq_false (show ¬ s.size ≤ 48 by omega), Bool.false_and, Bool.and_false]
 ·rw [if_neg h1, decide_eq_false (show ¬ 1 ≤ s.size by omega), Bool.false_and]
theorem qrc (s : ByteArray) (i : Nat) (h : i < s.size) : (bt s i = 111 ∨ bt s i = 120 ∨ bt s i = 63) ↔ sign (s.data.toList[i]'(by simpa using h)) = true := by
 have e : bt s i = ((s[i]'h).toNat : Int) := (qel s (i : Int) h).symm
 have e2 : s.data.toList[i]'(by simpa using h) = s[i]'h := by simp; rfl
 rw [e2]
 generalize s[i]'h = b at e
 rw [e]; simp only [sign, Bool.or_eq_true, beq_iff_eq]; constructor
 ·rintro (h | h | h)
  ·left; exact UInt8.toNat_inj.mp (by simpa using (by omega : b.toNat = 111))
  ·right; left; exact UInt8.toNat_inj.mp (by simpa using (by omega : b.toNat = 120))
  ·right; right; exact UInt8.toNat_inj.mp (by simpa using (by omega : b.toNat = 63))
 ·rintro (rfl | rfl | rfl) <;> simp
theorem qjn (s : ByteArray) (hm : s.size ≤ 48) : ∀ d i : Nat, i + d = s.size → Ev (fun k => qbw.l0 k s i) ((s.data.toList.drop i).all sign)
 | 0, i, h => Ev.mk' 0 fun k _ => by
  simp only [qbw.l0]; rw [if_neg (by omega), List.drop_of_length_le (by simp; omega)]; rfl
 | d + 1, i, h => by
  obtain ⟨K, ih⟩ := qjn s hm d (i + 1) (by omega); dsimp only at ih
  have hi : i < s.data.toList.length := by simp; show i < s.size; omega
  have hb := qrc s i (by omega)
  refine Ev.mk' K fun k hk => ?_
  rw [List.drop_eq_getElem_cons hi, List.all_cons]; simp only [qbw.l0]; rw [if_pos (by omega), if_pos (by omega), qa5 (by omega) (by omega), show ((i : Int) + 1) = ((i + 1 : Nat) : Int) by omega, ih k hk]; by_cases h1 : bt s i = 111
  ·rw [if_pos h1, hb.1 (.inl h1), Bool.true_and]
  ·by_cases h2 : bt s i = 120
   ·rw [if_neg h1, if_pos h2, hb.1 (.inr (.inl h2)), Bool.true_and]
   ·by_cases h3 : bt s i = 63
    ·rw [if_neg h1, if_neg h2, if_pos h3, hb.1 (.inr (.inr h3)), Bool.true_and]
    ·have hn : sign (s.data.toList[i]'hi) = false := Bool.eq_false_iff.2 (fun h => by rcases hb.2 h with h | h | h <;> contradiction)
     rw [if_neg h1, if_neg h2, if_neg h3, hn, Bool.false_and]
theorem qkx (s : ByteArray) (n : Int) : Ev (fun k => qdu.f k s n) (qh9 s n) := by
 unfold qh9; by_cases h : 1 ≤ s.size ∧ s.size ≤ 48
 ·obtain ⟨K, h3⟩ := qjn s h.2 s.size 0 (by omega)
  have h3 : ∀ k, K ≤ k → qbw.l0 k s 0 = some (s.data.toList.all sign) := fun k hk => by have := h3 k hk; rwa [List.drop_zero] at this
  refine ⟨K, fun k hk => ?_⟩
  have d1 : (decide ((1 : Int) ≤ (s.size : Int)) && decide ((s.size : Int) ≤ 48)) = true := by simp; omega
  simp only [qdu.f, qbw.f, qdX, qax, d1, if_true, h3 k hk]; rw [decide_eq_true h.1, decide_eq_true h.2, Bool.true_and, Bool.true_and]
  cases s.data.toList.all sign <;> simp
 ·refine ⟨0, fun k hk => ?_⟩
  have d1 : (decide ((1 : Int) ≤ (s.size : Int)) && decide ((s.size : Int) ≤ 48)) = false := by
   rw [Bool.and_eq_false_iff]; simp only [decide_eq_false_iff_not]; omega
  have d2 : (decide (1 ≤ s.size) && (decide (s.size ≤ 48) && (s.data.toList.all sign && (decide (0 ≤ n) && decide (n ≤ 3))))) = false := by
   rw [← Bool.and_assoc, Bool.and_eq_false_iff]; left; rw [Bool.and_eq_false_iff]; simp only [decide_eq_false_iff_not]; omega
  simp only [qdu.f, qbw.f, qdX, qax, d1, Bool.false_eq_true, if_false, d2]
def qjH (s : ByteArray) (e t : Int) (pos : Nat) : Nat → Bool
 | 0 => true
 | d + 1 => !(bt s pos == 111 && (((pos : Int) + 1) % e == t)) && qjH s e t (pos + 1) d
def qfR (s : ByteArray) (e t : Int) : Nat → List qac
 | 0 => []
 | d + 1 => (cond (qjH s e t 0 s.size) [(⟨e, t⟩ : qac)] []) ++ qfR s e (t + 1) d
def allFit (s : ByteArray) (e : Int) : Nat → List qac
 | 0 => []
 | d + 1 => qfR s e 0 e.toNat ++ allFit s (e + 1) d
def qhb (s : ByteArray) : List qac := allFit s 2 9
theorem qfU (s : ByteArray) (e : Int) : ∀ d t, (qfR s e t d).length ≤ d
 | 0, t => by simp [qfR]
 | d + 1, t => by
  have := qfU s e d (t + 1); simp only [qfR, List.length_append]
  cases qjH s e t 0 s.size <;> simp <;> omega
theorem qiv (s : ByteArray) : ∀ (d : Nat) (e : Int), e + d = 11 → (allFit s e d).length ≤ 11 * d
 | 0, e, h => by simp [allFit]
 | d + 1, e, h => by
  have := qiv s d (e + 1) (by omega); have h2 := qfU s e e.toNat 0; simp only [allFit, List.length_append]; omega
theorem qjf (s : ByteArray) : (qhb s).length ≤ 99 := qiv s 9 2 (by omega)
theorem qo5 {s : ByteArray} (hs : s.data.toList.all sign = true) (i : Nat) (h : i < s.size) : bt s i = 111 ∨ bt s i = 120 ∨ bt s i = 63 :=
 (qrc s i h).2 (List.all_eq_true.1 hs _ (List.getElem_mem _))
theorem qns (s : ByteArray) (hs : s.data.toList.all sign = true) (hz : s.size ≤ 48) (e t : Int) (h0 : 2 ≤ e) (h1 : e ≤ 10) (h2 : 0 ≤ t) (h3 : t < e) : ∀ d pos : Nat, pos + d = s.size → Ev (fun k => qcI.l0 k s e t pos) (qjH s e t pos d)
 | 0, pos, h => Ev.mk' 0 fun k _ => by
  simp only [qcI.l0, qjH]; rw [if_neg (by omega)]
 | d + 1, pos, h => by
  obtain ⟨K, ih⟩ := qns s hs hz e t h0 h1 h2 h3 d (pos + 1) (by omega); dsimp only at ih; have hb := qo5 hs pos (by omega); have hr := qny ((pos : Int) + 1) ⟨e, t⟩ ((qdh _).2 ⟨h0, by show e ≤ 60; omega, h2, h3⟩); have hr : qcw.f ((pos : Int) + 1) e = some (((pos : Int) + 1) % e) := hr
  refine Ev.mk' K fun k hk => ?_
  simp only [qcI.l0, qjH]; rw [if_pos (by omega), if_pos (by omega), qa5 (by omega) (by omega), hr, qax, ih k hk]; by_cases c : bt s pos = 111
  ·rw [if_pos c, beq_iff_eq.2 c, Bool.true_and]
   by_cases c2 : ((pos : Int) + 1) % e = t
   ·rw [if_pos c2, beq_iff_eq.2 c2]; rfl
   ·rw [if_neg c2, beq_eq_false_iff_ne.2 c2]; simp
  ·rw [if_neg c, beq_eq_false_iff_ne.2 c]; simp
theorem qsu (s : ByteArray) (hs : s.data.toList.all sign = true) (hz : s.size ≤ 48) (e t : Int) (h0 : 2 ≤ e) (h1 : e ≤ 10) (h2 : 0 ≤ t) (h3 : t < e) : Ev (fun k => qcI.f k s e t) (qjH s e t 0 s.size) :=
 qns s hs hz e t h0 h1 h2 h3 s.size 0 (by omega)
theorem qmf (s : ByteArray) (hs : s.data.toList.all sign = true) (hz : s.size ≤ 48) (e : Int) (h0 : 2 ≤ e) (h1 : e ≤ 10) (r : List qac) : ∀ (d : Nat) (t : Int) (acc : List qac), t + d = e → 0 ≤ t → acc.length + d ≤ 300 → Ev (fun k => qbI.l0 k s (acc ++ qfR s e t d) (e + 1)) r → Ev (fun k => qbI.l1 k s acc e t) r
 | 0, t, acc, h, h2, h3, ⟨K, hk⟩ => Ev.mk' K fun k hk' => by
  simp only [qfR, List.append_nil] at hk; simp only [qbI.l1]; rw [if_neg (by omega), qa5 (by omega) (by omega), hk k hk']
 | d + 1, t, acc, h, h2, h3, hc => by
  obtain ⟨K1, hf⟩ := qsu s hs hz e t h0 h1 h2 (by omega); dsimp only at hf; simp only [qfR] at hc
  cases c : qjH s e t 0 s.size with
  | true =>
   rw [c, cond_true, ← List.append_assoc] at hc; rw [c] at hf; obtain ⟨K, ih⟩ := qmf s hs hz e h0 h1 r d (t + 1) (acc ++ [⟨e, t⟩]) (by omega) (by omega) (by simp; omega) hc; dsimp only at ih
   refine Ev.mk' (K + K1) fun k hk => ?_
   simp only [qbI.l1, hf k (by omega), qax]; rw [if_pos (by omega), if_pos trivial, if_pos (by omega), qa5 (by omega) (by omega), ih k (by omega)]
  | false =>
   rw [c, cond_false, List.nil_append] at hc; rw [c] at hf; obtain ⟨K, ih⟩ := qmf s hs hz e h0 h1 r d (t + 1) acc (by omega) (by omega) (by omega) hc; dsimp only at ih
   refine Ev.mk' (K + K1) fun k hk => ?_
   simp only [qbI.l1, hf k (by omega), qax]; rw [if_pos (by omega), if_neg (by decide), qa5 (by omega) (by omega), ih k (by omega)]
theorem qpV (s : ByteArray) (hs : s.data.toList.all sign = true) (hz : s.size ≤ 48) : ∀ (d : Nat) (e : Int) (acc : List qac), e + d = 11 → 2 ≤ e → acc.length + 11 * d ≤ 200 → Ev (fun k => qbI.l0 k s acc e) (acc ++ allFit s e d)
 | 0, e, acc, h, h2, h3 => Ev.mk' 0 fun k _ => by
  simp only [qbI.l0, allFit, List.append_nil]; rw [if_neg (by omega)]
 | d + 1, e, acc, h, h2, h3 => by
  have hl := qfU s e e.toNat 0; have ih := qpV s hs hz d (e + 1) (acc ++ qfR s e 0 e.toNat) (by omega) (by omega) (by rw [List.length_append]; omega); obtain ⟨K, h4⟩ := qmf s hs hz e h2 (by omega) _ e.toNat 0 acc (by omega) (by omega) (by omega) ih; dsimp only at h4
  refine Ev.mk' K fun k hk => ?_
  simp only [qbI.l0, allFit]; rw [if_pos (by omega), h4 k hk, List.append_assoc]
theorem pzFit_ev (s : ByteArray) (hs : s.data.toList.all sign = true) (hz : s.size ≤ 48) : Ev (fun k => qbI.f k s) (qhb s) := by
 obtain ⟨K, h⟩ := qpV s hs hz 9 2 [] (by omega) (by omega) (by simp); exact ⟨K, fun k hk => h k hk⟩
theorem qhH (s : ByteArray) (hz : s.size ≤ 48) (e t : Int) (h0 : 2 ≤ e) (h1 : e ≤ 10) (acc : List qac) (hl : acc.length ≤ 300) (r : List qac) : ∀ (d pos : Nat) (b : Bool), pos + d = s.size → Ev (fun k => qaX.l1 k s (acc ++ cond (b && qjH s e t pos d) [(⟨e, t⟩ : qac)] []) e e (wrap64 (t + 1))) r → Ev (fun k => qaX.l2 k s acc e t b e t (s.size : Int) pos) r
 | 0, pos, b, h, ⟨K, hk⟩ => Ev.mk' K fun k hk' => by
  have hk := hk k hk'; simp only [qjH, Bool.and_true] at hk; simp only [qaX.l2]; rw [if_neg (by omega)]
  cases b with
  | true => rw [cond_true] at hk; rw [if_pos rfl, if_pos (by omega)]; exact hk
  | false => rw [cond_false, List.append_nil] at hk; rw [if_neg (by decide)]; exact hk
 | d + 1, pos, b, h, hc => by
  simp only [qjH] at hc
  cases b with
  | false =>
   obtain ⟨K, ih⟩ := qhH s hz e t h0 h1 acc hl r d (pos + 1) false (by omega) hc; dsimp only at ih
   refine Ev.mk' K fun k hk => ?_
   simp only [qaX.l2]; rw [if_pos (by omega), if_neg (by decide), qa5 (by omega) (by omega)]; exact ih k hk
  | true =>
   have hm : Int.tmod ((pos : Int) + 1) e = ((pos : Int) + 1) % e := Int.tmod_eq_emod_of_nonneg (by omega); rw [Bool.true_and] at hc; by_cases c : bt s pos = 111
   ·rw [beq_iff_eq.2 c, Bool.true_and] at hc
    obtain ⟨K, ih⟩ := qhH s hz e t h0 h1 acc hl r d (pos + 1) (((pos : Int) + 1) % e != t) (by omega) hc; dsimp only at ih
    refine Ev.mk' K fun k hk => ?_
    simp only [qaX.l2]; rw [if_pos (by omega), if_pos (by first | rfl | trivial), if_pos (by omega), if_pos (by omega), if_pos c, if_neg (by omega), qa5 (n := (pos : Int) + 1) (by omega) (by omega), hm]; exact ih k hk
   ·rw [beq_eq_false_iff_ne.2 c, Bool.false_and] at hc
    obtain ⟨K, ih⟩ := qhH s hz e t h0 h1 acc hl r d (pos + 1) true (by omega) hc; dsimp only at ih
    refine Ev.mk' K fun k hk => ?_
    simp only [qaX.l2]; rw [if_pos (by omega), if_pos (by first | rfl | trivial), if_pos (by omega), if_pos (by omega), if_neg c, qa5 (n := (pos : Int) + 1) (by omega) (by omega)]; exact ih k hk
theorem qlf (s : ByteArray) (hz : s.size ≤ 48) (e : Int) (h0 : 2 ≤ e) (h1 : e ≤ 10) (r : List qac) : ∀ (d : Nat) (t : Int) (acc : List qac), t + d = e → 0 ≤ t → acc.length + d ≤ 300 → Ev (fun k => qaX.l0 k s (acc ++ qfR s e t d) (e + 1)) r → Ev (fun k => qaX.l1 k s acc e e t) r
 | 0, t, acc, h, h2, h3, ⟨K, hk⟩ => Ev.mk' K fun k hk' => by
  simp only [qfR, List.append_nil] at hk; simp only [qaX.l1]; rw [if_neg (by omega), qa5 (by omega) (by omega), hk k hk']
 | d + 1, t, acc, h, h2, h3, hc => by
  simp only [qfR] at hc; rw [← List.append_assoc] at hc; have ih := qlf s hz e h0 h1 r d (t + 1) (acc ++ cond (qjH s e t 0 s.size) [(⟨e, t⟩ : qac)] []) (by omega) (by omega) (by rw [List.length_append]; cases qjH s e t 0 s.size <;> simp <;> omega) hc; obtain ⟨K, h4⟩ := qhH s hz e t h0 h1 acc (by omega) r s.size 0 true (by omega) (by rw [Bool.true_and, qa5 (by omega) (by omega)]; exact ih); dsimp only at h4
  refine Ev.mk' K fun k hk => ?_
  simp only [qaX.l1]; rw [if_pos (by omega)]; exact h4 k hk
theorem qle (s : ByteArray) (hz : s.size ≤ 48) : ∀ (d : Nat) (e : Int) (acc : List qac), e + d = 11 → 2 ≤ e → acc.length + 11 * d ≤ 200 → Ev (fun k => qaX.l0 k s acc e) (acc ++ allFit s e d)
 | 0, e, acc, h, h2, h3 => Ev.mk' 0 fun k _ => by
  simp only [qaX.l0, allFit, List.append_nil]; rw [if_neg (by omega)]
 | d + 1, e, acc, h, h2, h3 => by
  have hl := qfU s e e.toNat 0; have ih := qle s hz d (e + 1) (acc ++ qfR s e 0 e.toNat) (by omega) (by omega) (by rw [List.length_append]; omega); obtain ⟨K, h4⟩ := qlf s hz e h2 (by omega) _ e.toNat 0 acc (by omega) (by omega) (by omega) ih; dsimp only at h4
  refine Ev.mk' K fun k hk => ?_
  simp only [qaX.l0, allFit]; rw [if_pos (by omega), h4 k hk, List.append_assoc]
theorem qqe (s : ByteArray) (hz : s.size ≤ 48) : Ev (fun k => qaX.f k s) (qhb s) := by
 obtain ⟨K, h⟩ := qle s hz 9 2 [] (by omega) (by omega) (by simp); exact ⟨K, fun k hk => h k hk⟩
def qrm (s : ByteArray) (l : List qac) (pos : Nat) : Nat → Bool
 | 0 => true
 | d + 1 => !(bt s pos == 120 && left l ((pos : Int) + 1)) && qrm s l (pos + 1) d
def agD (s : ByteArray) (l : List qac) (pos : Nat) : Nat → Bool
 | 0 => true
 | d + 1 => !(bt s pos != 63 && (left l ((pos : Int) + 1) != (bt s pos == 111))) && agD s l (pos + 1) d
theorem qq7 {α : Type} (p q : α → Bool) : ∀ l : List α, l.all (fun x => p x && q x) = (l.all p && l.all q)
 | [] => rfl
 | x :: l => by
  simp only [List.all_cons, qq7 p q l]
  cases p x <;> cases q x <;> cases l.all p <;> cases l.all q <;> rfl
theorem left_all (l : List qac) (n : Int) : left l n = l.all (fun r => !qfm n r) := by
 unfold left
 induction l with
 | nil => rfl
 | cons x l ih => rw [List.any_cons, List.all_cons, ← ih]; cases qfm n x <;> simp
theorem agD_eq (s : ByteArray) (hs : s.data.toList.all sign = true) (l : List qac) : ∀ d pos : Nat, pos + d = s.size → agD s l pos d = (l.all (fun r => qjH s r.f0 r.f1 pos d) && qrm s l pos d)
 | 0, pos, h => by
  have e : (fun r : qac => qjH s r.f0 r.f1 pos 0) = fun _ => true := rfl
  rw [e]; simp [agD, qrm]
 | d + 1, pos, h => by
  have ih := agD_eq s hs l d (pos + 1) (by omega); simp only [agD, qrm, qjH]; rw [qq7 (fun r : qac => !(bt s pos == 111 && ((pos : Int) + 1) % r.f0 == r.f1)) (fun r => qjH s r.f0 r.f1 (pos + 1) d), ih]
  rcases qo5 hs pos (by omega) with hb | hb | hb <;> rw [hb]
  ·have e : l.all (fun r : qac => !((111 : Int) == 111 && ((pos : Int) + 1) % r.f0 == r.f1)) = left l ((pos : Int) + 1) := (left_all l _).symm
   rw [e]
   generalize left l ((pos : Int) + 1) = x
   generalize l.all (fun r => qjH s r.f0 r.f1 (pos + 1) d) = y
   generalize qrm s l (pos + 1) d = z
   cases x <;> cases y <;> cases z <;> rfl
  ·have e : l.all (fun r : qac => !((120 : Int) == 111 && ((pos : Int) + 1) % r.f0 == r.f1)) = true := List.all_eq_true.2 fun _ _ => rfl
   rw [e]
   generalize left l ((pos : Int) + 1) = x
   generalize l.all (fun r => qjH s r.f0 r.f1 (pos + 1) d) = y
   generalize qrm s l (pos + 1) d = z
   cases x <;> cases y <;> cases z <;> rfl
  ·have e : l.all (fun r : qac => !((63 : Int) == 111 && ((pos : Int) + 1) % r.f0 == r.f1)) = true := List.all_eq_true.2 fun _ _ => rfl
   rw [e]
   generalize left l ((pos : Int) + 1) = x
   generalize l.all (fun r => qjH s r.f0 r.f1 (pos + 1) d) = y
   generalize qrm s l (pos + 1) d = z
   cases x <;> cases y <;> cases z <;> rfl
theorem qmE (s : ByteArray) (hs : s.data.toList.all sign = true) (hz : s.size ≤ 48) (l : List qac) (hl : l.all qbC = true) : ∀ d pos : Nat, pos + d = s.size → Ev (fun k => qbs.l0 k s l (s.size : Int) pos) (agD s l pos d)
 | 0, pos, h => Ev.mk' 0 fun k _ => by
  simp only [qbs.l0, agD]; rw [if_neg (by omega)]
 | d + 1, pos, h => by
  obtain ⟨K, ih⟩ := qmE s hs hz l hl d (pos + 1) (by omega); dsimp only at ih
  refine Ev.mk' K fun k hk => ?_
  have ih : qbs.l0 k s l (s.size : Int) ((pos : Int) + 1) = some (agD s l (pos + 1) d) := ih k hk; simp only [qbs.l0, agD, qgd _ l hl, qax]; rw [if_pos (by omega), if_pos (by omega), if_pos (by omega), qa5 (by omega) (by omega), ih]; by_cases c : bt s pos = 63
  ·rw [if_pos c, c]; rfl
  ·rw [if_neg c, bne_iff_ne.2 c, Bool.true_and]
   cases (left l ((pos : Int) + 1) != (bt s pos == 111)) <;> simp
theorem qkw (s : ByteArray) (hs : s.data.toList.all sign = true) (hz : s.size ≤ 48) (l : List qac) (hm : l.length ≤ 12) (hl : l.all qbC = true) : ∀ d pos : Nat, pos + d = s.size → Ev (fun k => qcd.l0 k s l pos) (qrm s l pos d)
 | 0, pos, h => Ev.mk' 0 fun k _ => by
  simp only [qcd.l0, qrm]; rw [if_neg (by omega)]
 | d + 1, pos, h => by
  obtain ⟨K, ih⟩ := qkw s hs hz l hm hl d (pos + 1) (by omega); dsimp only at ih; obtain ⟨K1, h3⟩ := qhA ((pos : Int) + 1) l (by omega) hl; dsimp only at h3; have hb := qo5 hs pos (by omega)
  refine Ev.mk' (K + K1) fun k hk => ?_
  simp only [qcd.l0, qrm]; rw [if_pos (by omega), if_pos (by omega), qa5 (by omega) (by omega), h3 k (by omega), qax, ih k (by omega)]; by_cases c : bt s pos = 120
  ·rw [if_pos c, c]
   cases left l ((pos : Int) + 1) <;> simp
  ·rw [if_neg c, beq_eq_false_iff_ne.2 c, Bool.false_and]; rfl
def qqJ : Nat → List qac → List (List qac)
 | 0, _ => [[]]
 | _ + 1, [] => []
 | n + 1, r :: t => (qqJ n t).map (fun l => r :: l) ++ qqJ (n + 1) t
theorem qjD : ∀ (n : Nat) (fit l : List qac), l ∈ qqJ n fit → l.length = n ∧ ∀ r ∈ l, r ∈ fit
 | 0, fit, l, h => by
  simp only [qqJ, List.mem_singleton] at h; subst h; simp
 | n + 1, [], l, h => by simp [qqJ] at h
 | n + 1, x :: t, l, h => by
  simp only [qqJ, List.mem_append, List.mem_map] at h
  rcases h with ⟨l', h', rfl⟩ | h
  ·have ih := qjD n t l' h'
   refine ⟨by simp [ih.1], fun r hr => ?_⟩
   rcases List.mem_cons.1 hr with hr | hr
   ·rw [hr]; exact List.mem_cons_self
   ·exact List.mem_cons_of_mem _ (ih.2 r hr)
  ·have ih := qjD (n + 1) t l h
   exact ⟨ih.1, fun r hr => List.mem_cons_of_mem _ (ih.2 r hr)⟩
def res (P : List qac → Bool) (n : Nat) (out : List (List qac)) (list : List qac) (m : Nat) (fit : List qac) : List (List qac) := (out ++ (((qqJ m fit).map (fun l => list ++ l)).filter P)).take n
theorem take_app {α : Type} (A B : List α) (n : Nat) : (A.take n ++ B).take n = (A ++ B).take n := by
 rw [List.take_append, List.take_append, List.take_take, Nat.min_self, List.length_take]
 congr 2
 omega
theorem qpX (P : List qac → Bool) (n : Nat) (out : List (List qac)) (list : List qac) (m : Nat) (fit : List qac) (h : out.length = n) : res P n out list m fit = out := by
 unfold res; rw [List.take_append, List.take_of_length_le (by omega)]
 simp [h]
theorem qsB (P : List qac → Bool) (n : Nat) (out : List (List qac)) (list : List qac) (m : Nat) (h : out.length ≤ n) : res P n out list (m + 1) [] = out := by
 unfold res
 simp [qqJ, List.take_of_length_le h]
theorem qpY (P : List qac → Bool) (n : Nat) (out : List (List qac)) (list : List qac) (m : Nat) (r : qac) (t : List qac) : res P n (res P n out (list ++ [r]) m t) list (m + 1) t = res P n out list (m + 1) (r :: t) := by
 unfold res; rw [take_app]; simp only [qqJ, List.map_append, List.filter_append, List.map_map, List.append_assoc]
 congr 4
theorem qlx (P : List qac → Bool) (n : Nat) (out : List (List qac)) (list : List qac) (m : Nat) (fit : List qac) : (res P n out list m fit).length ≤ n := by
 unfold res; rw [List.length_take]; omega
theorem qpZ (P : List qac → Bool) (n : Nat) (out : List (List qac)) (list fit : List qac) (h : out.length < n) : res P n out list 0 fit = if P list = true then out ++ [list] else out := by
 unfold res; simp only [qqJ, List.map_cons, List.map_nil, List.append_nil]; by_cases c : P list = true
 ·rw [if_pos c, List.filter_cons, if_pos c, List.filter_nil, List.take_of_length_le (by simp; omega)]
 ·rw [if_neg c, List.filter_cons, if_neg c, List.filter_nil, List.append_nil, List.take_of_length_le (by omega)]
def agB (s : ByteArray) (l : List qac) : Bool := agD s l 0 s.size
def cvB (s : ByteArray) (l : List qac) : Bool := qrm s l 0 s.size
theorem qpj (l : List qac) (r : qac) (h : l.all qbC = true) (hr : qbC r = true) : (l ++ [r]).all qbC = true := by simp [h, hr]
theorem qpJ (s : ByteArray) (hs : s.data.toList.all sign = true) (hz : s.size ≤ 48) (F : List qac) (R most : Nat) (hR : R ≤ 3) (hM : most ≤ 301) (i : Nat)
  (hl0 : ∀ (m : Nat) (list : List qac) (out : List (List qac)), list.length + (m + 1) = R → list.all qbC = true → out.length ≤ most → Ev (fun k => qa2.l0 k s R most F list out (i : Int)) (res (agB s) most out list (m + 1) (F.drop i))) :
  ∀ (m : Nat) (list : List qac) (out : List (List qac)), list.length + m = R → list.all qbC = true → out.length ≤ most → Ev (fun k => qa2.f k s R most F list (i : Int) out) (res (agB s) most out list m (F.drop i)) := by
 intro m list out h1 h2 h3; by_cases c : out.length = most
 ·rw [qpX _ _ _ _ _ _ c]
  refine Ev.mk' 0 fun k hk => ?_
  simp only [qa2.f]; rw [if_pos (by omega)]
 ·cases m with
  | zero =>
   obtain ⟨K, ha⟩ := qmE s hs hz list h2 s.size 0 (by omega); have ha : ∀ k, K ≤ k → qbs.f k s list = some (agB s list) := ha; rw [qpZ _ _ _ _ _ (by omega)]
   refine Ev.mk' K fun k hk => ?_
   simp only [qa2.f, ha k hk, qax]; rw [if_neg (by omega), if_pos (by omega)]; by_cases c2 : agB s list = true
   ·rw [if_pos c2, if_pos c2, if_pos (by omega)]
   ·rw [if_neg c2, if_neg c2]
  | succ m =>
   obtain ⟨K, hk⟩ := hl0 m list out h1 h2 h3
   refine Ev.mk' K fun k hk' => ?_
   simp only [qa2.f]; rw [if_neg (by omega), if_neg (by omega)]; exact hk k hk'
theorem qne (s : ByteArray) (hs : s.data.toList.all sign = true) (hz : s.size ≤ 48) (F : List qac) (hF : F.all qbC = true) (hL : F.length ≤ 99) (R most : Nat) (hR : R ≤ 3) (hM : most ≤ 301) :
  ∀ (d i : Nat), i + d = F.length → ∀ (m : Nat) (list : List qac) (out : List (List qac)), list.length + (m + 1) = R → list.all qbC = true → out.length ≤ most → Ev (fun k => qa2.l0 k s R most F list out (i : Int)) (res (agB s) most out list (m + 1) (F.drop i))
 | 0, i, h, m, list, out, h1, h2, h3 => by
  rw [List.drop_of_length_le (by omega), qsB _ _ _ _ _ h3]
  refine Ev.mk' 0 fun k hk => ?_
  simp only [qa2.l0]; rw [if_neg (by omega)]
 | d + 1, i, h, m, list, out, h1, h2, h3 => by
  have IH := qne s hs hz F hF hL R most hR hM d (i + 1) (by omega); have hr : qbC (qae F i) = true := List.all_eq_true.1 hF _ (qnt F i (by omega)); obtain ⟨K1, e1⟩ := qpJ s hs hz F R most hR hM (i + 1) IH m (list ++ [qae F i]) out (by simp; omega) (qpj _ _ h2 hr) h3; obtain ⟨K2, e2⟩ := IH m list (res (agB s) most out (list ++ [qae F i]) m (F.drop (i + 1))) h1 h2 (qlx _ _ _ _ _ _); dsimp only at e1 e2; rw [qj3 F i (by omega), ← qpY]
  refine Ev.mk' (K1 + K2) fun k hk => ?_
  simp only [qa2.l0]; rw [if_pos (by omega), if_pos (by omega), if_pos (by omega), show wrap64 ((i : Int) + 1) = ((i + 1 : Nat) : Int) from qa5 (by omega) (by omega), e1 k (by omega), qax, e2 k (by omega)]
theorem qnC (s : ByteArray) (hs : s.data.toList.all sign = true) (hz : s.size ≤ 48) (fit : List qac)
  (hl0 : ∀ (m : Nat) (rules : List qac) (out : List (List qac)), rules.length + (m + 1) ≤ 3 → rules.all qbC = true → out.length ≤ 301 → Ev (fun k => qbZ.l0 k s fit rules ((m + 1 : Nat) : Int) out 0) (res (cvB s) 301 out rules (m + 1) fit)) :
  ∀ (m : Nat) (rules : List qac) (out : List (List qac)), rules.length + m ≤ 3 → rules.all qbC = true → out.length ≤ 300 → Ev (fun k => qbZ.f k s fit rules (m : Int) out) (res (cvB s) 301 out rules m fit) := by
 intro m rules out h1 h2 h3
 cases m with
 | zero =>
  obtain ⟨K, ha⟩ := qkw s hs hz rules (by omega) h2 s.size 0 (by omega); have ha : ∀ k, K ≤ k → qcd.f k s rules = some (cvB s rules) := ha; rw [qpZ _ _ _ _ _ (by omega)]
  refine Ev.mk' K fun k hk => ?_
  simp only [qbZ.f, ha k hk, qax]; rw [if_pos (by omega)]; by_cases c2 : cvB s rules = true
  ·rw [if_pos c2, if_pos c2, if_pos (by omega), if_pos (by omega)]
  ·rw [if_neg c2, if_neg c2]
 | succ m =>
  obtain ⟨K, hk⟩ := hl0 m rules out h1 h2 (by omega)
  refine Ev.mk' K fun k hk' => ?_
  simp only [qbZ.f]; rw [if_neg (by omega)]; exact hk k hk'
theorem qi3 (s : ByteArray) (hs : s.data.toList.all sign = true) (hz : s.size ≤ 48) :
  ∀ (d : Nat) (fit : List qac) (i : Nat), fit.all qbC = true → fit.length ≤ 99 → i + d = fit.length → ∀ (m : Nat) (rules : List qac) (out : List (List qac)), rules.length + (m + 1) ≤ 3 → rules.all qbC = true → out.length ≤ 301 → Ev (fun k => qbZ.l0 k s fit rules ((m + 1 : Nat) : Int) out i) (res (cvB s) 301 out rules (m + 1) (fit.drop i))
 | 0, fit, i, hF, hL, h, m, rules, out, h1, h2, h3 => by
  rw [List.drop_of_length_le (by omega), qsB _ _ _ _ _ h3]
  refine Ev.mk' 0 fun k hk => ?_
  simp only [qbZ.l0]; rw [if_neg (by omega)]
 | d + 1, fit, i, hF, hL, h, m, rules, out, h1, h2, h3 => by
  by_cases c : 300 < out.length
  ·rw [qpX _ _ _ _ _ _ (by omega)]
   refine Ev.mk' 0 fun k hk => ?_
   simp only [qbZ.l0]; rw [if_pos (by omega), if_pos c]
  ·have hr : qbC (qae fit i) = true := List.all_eq_true.1 hF _ (qnt fit i (by omega))
   have hFd : (fit.drop (i + 1)).all qbC = true := List.all_eq_true.2 fun x hx => List.all_eq_true.1 hF x (List.mem_of_mem_drop hx)
   have hdl : (fit.drop (i + 1)).length = d := by rw [List.length_drop]; omega
   obtain ⟨K1, e1⟩ := qnC s hs hz (fit.drop (i + 1)) (fun m' rules' out' g1 g2 g3 => by have := qi3 s hs hz d (fit.drop (i + 1)) 0 hFd (by omega) (by omega) m' rules' out' g1 g2 g3; rwa [List.drop_zero] at this) m (rules ++ [qae fit i]) out (by simp; omega) (qpj _ _ h2 hr) (by omega); obtain ⟨K2, e2⟩ := qi3 s hs hz d fit (i + 1) hF hL (by omega) m rules (res (cvB s) 301 out (rules ++ [qae fit i]) m (fit.drop (i + 1))) h1 h2 (qlx _ _ _ _ _ _); dsimp only at e1 e2; rw [qj3 fit i (by omega), ← qpY]
   refine Ev.mk' (K1 + K2) fun k hk => ?_
   simp only [qbZ.l0]; rw [if_pos (by omega), if_neg c, if_pos (by omega), show wrap64 (((m + 1 : Nat) : Int) - 1) = (m : Int) by rw [qa5 (by omega) (by omega)]; omega, e1 k (by omega), qax, e2 k (by omega)]
theorem qly (s : ByteArray) (e : Int) (h0 : 2 ≤ e) (h1 : e ≤ 10) : ∀ (d : Nat) (t : Int), 0 ≤ t → t + d = e → ∀ r ∈ qfR s e t d, qbC r = true ∧ qjH s r.f0 r.f1 0 s.size = true
 | 0, t, _, _, r, h => by simp [qfR] at h
 | d + 1, t, ht, hd, r, h => by
  simp only [qfR, List.mem_append] at h
  rcases h with h | h
  ·cases c : qjH s e t 0 s.size with
   | true =>
    rw [c, cond_true, List.mem_singleton] at h; subst h; exact ⟨(qdh _).2 ⟨h0, by show e ≤ 60; omega, ht, by show t < e; omega⟩, c⟩
   | false => rw [c] at h; simp at h
  ·exact qly s e h0 h1 d (t + 1) (by omega) (by omega) r h
theorem qk5 (s : ByteArray) : ∀ (d : Nat) (e : Int), 2 ≤ e → e + d = 11 → ∀ r ∈ allFit s e d, qbC r = true ∧ qjH s r.f0 r.f1 0 s.size = true
 | 0, e, _, _, r, h => by simp [allFit] at h
 | d + 1, e, h0, hd, r, h => by
  simp only [allFit, List.mem_append] at h
  rcases h with h | h
  ·exact qly s e h0 (by omega) e.toNat 0 (by omega) (by omega) r h
  ·exact qk5 s d (e + 1) (by omega) (by omega) r h
theorem qj5 (s : ByteArray) : ∀ r ∈ qhb s, qbC r = true ∧ qjH s r.f0 r.f1 0 s.size = true := qk5 s 9 2 (by omega) (by omega)
theorem qpx (s : ByteArray) : (qhb s).all qbC = true := List.all_eq_true.2 fun r h => (qj5 s r h).1
def answers (s : ByteArray) (R : Nat) : List (List qac) := (qqJ R (qhb s)).filter (agB s)
theorem qks (L : List (List qac)) : L.map (fun l => ([] : List qac) ++ l) = L := by
 induction L with
 | nil => rfl
 | cons x t ih => rw [List.map_cons, ih]; rfl
theorem qn5 (s : ByteArray) (hs : s.data.toList.all sign = true) (R : Nat) : (qqJ R (qhb s)).filter (cvB s) = answers s R := by
 unfold answers
 refine List.filter_congr fun l hl => ?_
 have hm := qjD R (qhb s) l hl; unfold agB cvB; rw [agD_eq s hs l s.size 0 (by omega), List.all_eq_true.2 (fun r hr => (qj5 s r (hm.2 r hr)).2), Bool.true_and]
theorem qkX (s : ByteArray) (hs : s.data.toList.all sign = true) (hz : s.size ≤ 48) (R most : Nat) (hR : R ≤ 3) (hM : most ≤ 301) : Ev (fun k => qcK.f k s R most) ((answers s R).take most) := by
 obtain ⟨K1, h1⟩ := qqe s hz; obtain ⟨K2, h2⟩ := qpJ s hs hz (qhb s) R most hR hM 0 (qne s hs hz (qhb s) (qpx s) (qjf s) R most hR hM (qhb s).length 0 (by omega)) R [] [] (by simp) rfl (by simp); dsimp only at h1 h2; refine ⟨K1 + K2, fun k hk => ?_⟩; have h2 : qa2.f k s R most (qhb s) [] 0 [] = _ := h2 k (by omega); simp only [qcK.f, h1 k (by omega), qax, h2]; unfold res answers; rw [List.drop_zero, qks]; rfl
theorem pzAll_ev (s : ByteArray) (hs : s.data.toList.all sign = true) (hz : s.size ≤ 48) (R : Nat) (hR : R ≤ 3) : Ev (fun k => qbZ.f k s (qhb s) [] (R : Int) []) ((answers s R).take 301) := by
 have h := qnC s hs hz (qhb s) (fun m rules out g1 g2 g3 => by have := qi3 s hs hz (qhb s).length (qhb s) 0 (qpx s) (qjf s) (by omega) m rules out g1 g2 g3; rwa [List.drop_zero] at this) R [] [] (by simp; omega) rfl (by simp); unfold res at h; rw [qks, qn5 s hs] at h; exact h
theorem qiY {s : ByteArray} {n : Int} (h : qh9 s n = true) : 1 ≤ s.size ∧ s.size ≤ 48 ∧ s.data.toList.all sign = true ∧ 0 ≤ n ∧ n ≤ 3 := by
 unfold qh9 at h; simp only [Bool.and_eq_true, decide_eq_true_eq] at h; exact ⟨h.1, h.2.1, h.2.2.1, h.2.2.2.1, h.2.2.2.2⟩
def ansV (s : ByteArray) (n : Int) : List (List qac) × Bool := if qh9 s n = true ∧ (answers s n.toNat).length ≤ 300 then (answers s n.toNat, true) else ([], false)
theorem qn6 (s : ByteArray) (R : Nat) : ∀ l ∈ answers s R, l.length = R ∧ ∀ r ∈ l, r ∈ qhb s := fun l hl => qjD R (qhb s) l ((List.mem_filter.1 hl).1)
theorem qml {α : Type} (L : List α) : (((L.take 301).length : Int) > 300) ↔ ¬ L.length ≤ 300 := by rw [List.length_take]; omega
theorem take301' {α : Type} (L : List α) (h : L.length ≤ 300) : L.take 301 = L := List.take_of_length_le (by omega)
theorem qnr (s : ByteArray) (n : Int) : Ev (fun k => qbv.f k s n) (ansV s n) := by
 obtain ⟨K1, h1⟩ := qkx s n; dsimp only at h1; unfold ansV; by_cases hg : qh9 s n = true
 ·obtain ⟨g1, g2, g3, g4, g5⟩ := qiY hg
  obtain ⟨K2, h2⟩ := pzFit_ev s g3 g2; obtain ⟨K3, h3⟩ := pzAll_ev s g3 g2 n.toNat (by omega); rw [show ((n.toNat : Nat) : Int) = n by omega] at h3; dsimp only at h2 h3; refine ⟨K1 + K2 + K3, fun k hk => ?_⟩
  simp (disch := omega) only [qbv.f, h1, h2, h3, qax, hg, if_true]
  by_cases c : (answers s n.toNat).length ≤ 300
  ·rw [if_neg (fun h => (qml _).1 h c), if_pos ⟨trivial, c⟩, take301' _ c]
  ·rw [if_pos ((qml _).2 c), if_neg (fun h => c h.2)]
 ·have hf := Bool.eq_false_iff.2 hg
  rw [if_neg (fun h => hg h.1)]; refine ⟨K1, fun k hk => ?_⟩; simp only [qbv.f, h1 k hk, qax, hf, Bool.false_eq_true, if_false]
theorem qmF (s : ByteArray) (n : Int) : Ev (fun k => qdb.f k s n) (ansV s n) := by
 unfold ansV; by_cases hg : qh9 s n = true
 ·obtain ⟨g1, g2, g3, g4, g5⟩ := qiY hg
  obtain ⟨K3, h3⟩ := qkX s g3 g2 n.toNat 301 (by omega) (by omega); rw [show ((n.toNat : Nat) : Int) = n by omega] at h3; have h3 : ∀ k, K3 ≤ k → qcK.f k s n 301 = _ := h3; refine ⟨K3, fun k hk => ?_⟩
  simp (disch := omega) only [qdb.f, qgT, h3, qax, hg, if_true]
  by_cases c : (answers s n.toNat).length ≤ 300
  ·rw [if_neg (fun h => (qml _).1 h c), if_pos ⟨trivial, c⟩, take301' _ c]
  ·rw [if_pos ((qml _).2 c), if_neg (fun h => c h.2)]
 ·have hf := Bool.eq_false_iff.2 hg
  rw [if_neg (fun h => hg h.1)]; refine ⟨0, fun k hk => ?_⟩; simp only [qdb.f, qgT, qax, hf, Bool.false_eq_true, if_false]
def qlc (s : ByteArray) (n : Int) : List qac × Bool := if (ansV s n).2 = true ∧ (ansV s n).1 ≠ [] then (qer (ansV s n).1 0, true) else ([], false)
theorem rdR_mem (L : List (List qac)) (h : L ≠ []) : qer L 0 ∈ L := by
 cases L with
 | nil => exact absurd rfl h
 | cons x t => simp [qer]
theorem qju (s : ByteArray) (n : Int) : Ev (fun k => qdk.f k s n) (qlc s n) ∧ Ev (fun k => qc1.f k s n) (qlc s n) := by
 obtain ⟨K1, h1⟩ := qnr s n; obtain ⟨K2, h2⟩ := qmF s n; dsimp only at h1 h2; unfold qlc; constructor
 ·refine ⟨K1, fun k hk => ?_⟩
  simp only [qdk.f, h1 k hk, qax]
  cases ansV s n with
  | mk L b => cases b <;> cases L <;> simp <;> omega
 ·refine ⟨K2, fun k hk => ?_⟩
  simp only [qc1.f, h2 k hk, qax]
  cases ansV s n with
  | mk L b => cases b <;> cases L <;> simp <;> omega
def qnZ (s : ByteArray) (b : List UInt8) (n : Nat) : Prop := s.data.toList = b ++ [58, UInt8.ofNat (48 + n)] ∧ n ≤ 3 ∧ qh9 ⟨b.toArray⟩ (n : Int) = true
theorem qpz {s : ByteArray} {n : Int} (h : qh9 s n = true) : 1 ≤ s.size ∧ s.size ≤ 48 ∧ s.data.toList.all sign = true ∧ 0 ≤ n ∧ n ≤ 3 := by
 unfold qh9 at h; simp only [Bool.and_eq_true, decide_eq_true_eq] at h; exact ⟨h.1, h.2.1, h.2.2.1, h.2.2.2.1, h.2.2.2.2⟩
theorem qsF (b : List UInt8) (h : b.all sign = true) : (58 : UInt8) ∉ b := fun hy => by
 have := List.all_eq_true.1 h _ hy; exact absurd this (by decide)
theorem digit_ne (n : Nat) (h : n ≤ 3) : UInt8.ofNat (48 + n) ≠ 58 := by
 have : n = 0 ∨ n = 1 ∨ n = 2 ∨ n = 3 := by omega
 rcases this with rfl | rfl | rfl | rfl <;> decide
theorem qqd (n : Nat) (h : n ≤ 3) : rdP [UInt8.ofNat (48 + n)] = some n := (qky _ n).2 ⟨by omega, (Lib.decDigits_one (by omega)).symm⟩
theorem qqB (n : Nat) (h : n ≤ 3) : Ev (fun k => qaV.f k (bs [UInt8.ofNat (48 + n)])) (n : Int) := by
 have h1 := qoX (bs [UInt8.ofNat (48 + n)]); rw [qgr, qqd n h] at h1; exact h1
theorem spl_two {c : UInt8} {l p q : List UInt8} (h : spl c l = [p, q]) : l = p ++ c :: q := by
 rcases qhL c l with hn | ⟨b, r, rfl, hb⟩
 ·rw [qfV c l hn] at h; cases h
 ·rw [qhC c b r hb] at h
  obtain ⟨rfl, h2⟩ := List.cons.inj h
  rcases qhL c r with hn | ⟨b2, r2, rfl, hb2⟩
  ·rw [qfV c r hn] at h2
   rw [(List.cons.inj h2).1]
  ·rw [qhC c b2 r2 hb2] at h2
   exact absurd (List.cons.inj h2).2 (qjr c r2)
theorem qmZ {s : ByteArray} {b : List UInt8} {n : Nat} (h : qnZ s b n) : s.size = b.length + 2 ∧ 1 ≤ b.length ∧ b.length ≤ 48 ∧ b.all sign = true := by
 have h1 := congrArg List.length h.1; obtain ⟨g1, g2, g3, -, -⟩ := qpz h.2.2
 have e : (⟨b.toArray⟩ : ByteArray).size = b.length := by show b.toArray.size = b.length; simp
 have hl : s.data.toList.length = s.size := Array.length_toList; simp only [List.length_append, List.length_cons, List.length_nil] at h1; exact ⟨by omega, by omega, by omega, g3⟩
theorem qsJ {s : ByteArray} {b : List UInt8} {n : Nat} (h : qnZ s b n) : Ev (fun k => qaB.f k s) ((⟨b.toArray⟩ : ByteArray), (n : Int), true) := by
 obtain ⟨z1, z2, z3, z4⟩ := qmZ h; obtain ⟨K1, h1⟩ := qjN 58 s (by omega); rw [h.1, qhC 58 b _ (qsF b z4), qfV 58 _ (by rw [List.mem_singleton]; exact fun e => digit_ne n h.2.1 e.symm)] at h1; obtain ⟨K2, h2⟩ := qqB n h.2.1; obtain ⟨K3, h3⟩ := qkx ⟨b.toArray⟩ n; rw [h.2.2] at h3; dsimp only at h1 h2 h3; simp only [bas, List.map_cons, List.map_nil] at h1; have h1 : ∀ k, K1 ≤ k → qbi.f k s 58 = _ := h1; refine ⟨K1 + K2 + K3 + 1, fun k hk => ?_⟩
 obtain ⟨j, rfl⟩ : ∃ j, k = j + 1 := ⟨k - 1, by omega⟩
 simp only [qaB.f, h1 (j + 1) (by omega), qax]; rw [if_neg (by omega)]; simp only [qaB.j0, List.length_cons, List.length_nil]; have e0 : qeW ByteArray.empty [(⟨b.toArray⟩ : ByteArray), (⟨[UInt8.ofNat (48 + n)].toArray⟩ : ByteArray)] 0 = ⟨b.toArray⟩ := rfl; have e1 : qeW ByteArray.empty [(⟨b.toArray⟩ : ByteArray), (⟨[UInt8.ofNat (48 + n)].toArray⟩ : ByteArray)] 1 = bs [UInt8.ofNat (48 + n)] := rfl; rw [if_neg (by decide), if_pos (by decide), if_pos (by decide), e0, e1, h2 j (by omega), qax, h3 j (by omega), qax, if_pos rfl]
theorem qsK {s : ByteArray} (hz : s.size ≤ 1048576) (h : ∀ b n, ¬ qnZ s b n) : Ev (fun k => qaB.f k s) ((⟨#[]⟩ : ByteArray), (0 : Int), false) := by
 obtain ⟨K1, h1⟩ := qjN 58 s hz; have h1 : ∀ k, K1 ≤ k → qbi.f k s 58 = _ := h1; by_cases c1 : (s.size : Int) > 50
 ·refine ⟨K1 + 1, fun k hk => ?_⟩
  obtain ⟨j, rfl⟩ : ∃ j, k = j + 1 := ⟨k - 1, by omega⟩
  simp only [qaB.f, h1 (j + 1) (by omega), qax]; rw [if_pos c1]; simp only [qaB.j0, if_true]
 ·by_cases c2 : (spl 58 s.data.toList).length = 2
  ·obtain ⟨p, q, hpq⟩ : ∃ p q, spl 58 s.data.toList = [p, q] := by
    match hm : spl 58 s.data.toList, c2 with
    | [p, q], _ => exact ⟨p, q, rfl⟩
   have hs := spl_two hpq; rw [hpq] at h1
   obtain ⟨n, ⟨K2, h2⟩, hn⟩ : ∃ n : Int, Ev (fun k => qaV.f k (bs q)) n ∧ ∀ m : Nat, n = (m : Int) → m ≤ 3 → q = [UInt8.ofNat (48 + m)] := by
    refine ⟨_, qoX (bs q), fun m hm h3 => ?_⟩; rw [qgr] at hm
    cases hr : rdP q with
    | none => rw [hr] at hm; simp only [] at hm; omega
    | some v =>
     rw [hr] at hm; simp only [] at hm; rw [((qky q v).1 hr).2, show v = m by omega, Lib.decDigits_one (by omega)]
   obtain ⟨K3, h3⟩ := qkx ⟨p.toArray⟩ n; dsimp only at h2 h3
   have hf : qh9 ⟨p.toArray⟩ n = false := by
    rw [Bool.eq_false_iff]; intro hg; obtain ⟨-, -, -, g4, g5⟩ := qpz hg; have hq := hn n.toNat (by omega) (by omega); refine h p n.toNat ⟨?_, by omega, by rw [show ((n.toNat : Nat) : Int) = n by omega]; exact hg⟩; rw [hs, show q = [UInt8.ofNat (48 + n.toNat)] from hq]
   rw [hf] at h3; refine ⟨K1 + K2 + K3 + 1, fun k hk => ?_⟩
   obtain ⟨j, rfl⟩ : ∃ j, k = j + 1 := ⟨k - 1, by omega⟩
   simp only [qaB.f, h1 (j + 1) (by omega), qax, bas, List.map_cons, List.map_nil]; rw [if_neg c1]; simp only [qaB.j0, List.length_cons, List.length_nil]; have e0 : qeW ByteArray.empty [(⟨p.toArray⟩ : ByteArray), (⟨q.toArray⟩ : ByteArray)] 0 = ⟨p.toArray⟩ := rfl; have e1 : qeW ByteArray.empty [(⟨p.toArray⟩ : ByteArray), (⟨q.toArray⟩ : ByteArray)] 1 = bs q := rfl; rw [if_neg (by decide), if_pos (by decide), if_pos (by decide), e0, e1, h2 j (by omega), qax, h3 j (by omega), qax, if_neg (by decide)]
  ·refine ⟨K1 + 1, fun k hk => ?_⟩
   obtain ⟨j, rfl⟩ : ∃ j, k = j + 1 := ⟨k - 1, by omega⟩
   simp only [qaB.f, h1 (j + 1) (by omega), qax, bas, List.length_map]; rw [if_neg c1, bne_iff_ne.2 (by omega)]; simp only [qaB.j0, if_true]
theorem itoa_ok (n : Int) (h0 : 0 ≤ n) (h1 : n ≤ 3) : strconv_Itoa.f n = some ⟨#[UInt8.ofNat (48 + n.toNat)]⟩ := by
 have e : strconv_Itoa.f n = some ⟨(Lib.decDigits n.toNat).toArray⟩ := by unfold strconv_Itoa.f; rw [if_pos (by omega)]
 rw [Lib.decDigits_one (by omega)] at e; exact e
theorem qsP (b : ByteArray) (n : Int) (hg : qh9 b n = true) : ∃ t, qbJ.f b n = some t ∧ t.data.toList = b.data.toList ++ [58, UInt8.ofNat (48 + n.toNat)] := by
 obtain ⟨g1, g2, -, g4, g5⟩ := qpz hg
 have e1 : (b ++ (⟨#[58]⟩ : ByteArray)).size = b.size + 1 := by rw [ByteArray.size_append]; rfl
 refine ⟨(b ++ (⟨#[58]⟩ : ByteArray)) ++ ⟨#[UInt8.ofNat (48 + n.toNat)]⟩, ?_, by simp [ByteArray.data_append]⟩; have e2 : (⟨#[UInt8.ofNat (48 + n.toNat)]⟩ : ByteArray).size = 1 := rfl; simp only [qbJ.f, itoa_ok n g4 g5, qax]; rw [if_pos (by omega), if_pos (by rw [e1, e2]; omega)]
theorem qsc {s : ByteArray} {b : List UInt8} {n : Nat} (h : qnZ s b n) : qb9.f s = some ((⟨b.toArray⟩ : ByteArray), (n : Int), true) := by
 obtain ⟨z1, z2, z3, z4⟩ := qmZ h; obtain ⟨t, ht, hl⟩ := qsP ⟨b.toArray⟩ n h.2.2
 have hc : Lib.cut s.data.toList [58] = (b, [UInt8.ofNat (48 + n)], true) := by
  rw [h.1]; exact ql1 58 b _ (qsF b z4)
 have ha : Lib.atoiAll [UInt8.ofNat (48 + n)] = .ok (n : Int) := by
  have hn := h.2.1
  have : n = 0 ∨ n = 1 ∨ n = 2 ∨ n = 3 := by omega
  rcases this with rfl | rfl | rfl | rfl <;> rfl
 have hts : t.toList = s.toList := by
  rw [ByteArray.toList_eq, ByteArray.toList_eq, hl, h.1, Int.toNat_natCast]
 unfold qb9.f; rw [if_pos (by omega), hc]; simp only [ha]; rw [qgT, h.2.2, qax, if_pos rfl, ht, qax, if_pos hts]
theorem qsd {s : ByteArray} (hz : s.size ≤ 1048576) (h : ∀ b n, ¬ qnZ s b n) : qb9.f s = some ((⟨#[]⟩ : ByteArray), (0 : Int), false) := by
 unfold qb9.f; rw [if_pos hz]
 obtain ⟨c, hc⟩ : ∃ c, c = Lib.cut s.data.toList [58] := ⟨_, rfl⟩
 rw [← hc]
 cases ha : Lib.atoiAll c.2.1 with
 | ok v =>
  simp only []; rw [qgT, qax]; by_cases hg : qh9 ⟨c.1.toArray⟩ v = true
  ·obtain ⟨t, ht, hl⟩ := qsP ⟨c.1.toArray⟩ v hg
   obtain ⟨-, -, -, g4, g5⟩ := qpz hg; rw [if_pos hg, ht, qax]
   have hne : ¬ t.toList = s.toList := by
    intro he; rw [ByteArray.toList_eq, ByteArray.toList_eq] at he; refine h c.1 v.toNat ⟨?_, by omega, by rw [show ((v.toNat : Nat) : Int) = v by omega]; exact hg⟩; rw [← he, hl]
   rw [if_neg hne]
  ·rw [if_neg hg]
 | _ => rfl
theorem qjw (s : ByteArray) (hz : s.size ≤ 1048576) : ∃ v : ByteArray × Int × Bool, Ev (fun k => qaB.f k s) v ∧ qb9.f s = some v := by
 by_cases h : ∃ b n, qnZ s b n
 ·obtain ⟨b, n, h⟩ := h
  exact ⟨_, qsJ h, qsc h⟩
 ·have h : ∀ b n, ¬ qnZ s b n := fun b n hp => h ⟨b, n, hp⟩
  exact ⟨_, qsK hz h, qsd hz h⟩
theorem qok (s : ByteArray) (n : Int) : qaG (qlc s n).1 = true := by
 unfold qlc; split
 ·next h =>
  have hm := rdR_mem _ h.2; unfold ansV at hm ⊢; split at hm
  ·next h2 =>
   rw [if_pos h2]; obtain ⟨h3, h4⟩ := qn6 s n.toNat _ hm; have := qiY h2.1; unfold qaG; rw [Bool.and_eq_true, decide_eq_true_eq]; exact ⟨show (qer (answers s n.toNat) 0).length ≤ 12 by have h3 : (qer (answers s n.toNat) 0).length = n.toNat := h3; omega, List.all_eq_true.2 fun r hr => (qj5 s r (h4 r hr)).1⟩
  ·simp at hm
 ·rfl
section
open Lib
def Both (f g : Nat → Option (List qac × Int × ByteArray)) : Prop := ∃ v : List qac × Int × ByteArray, qaG v.1 = true ∧ qex v.2.1 = true ∧ Ev f v ∧ Ev g v
theorem Both.of {f g f' g' : Nat → Option (List qac × Int × ByteArray)} (h : Both f g) (K : Nat) (hf : ∀ k, K ≤ k → f' k = f k) (hg : ∀ k, K ≤ k → g' k = g k) : Both f' g' := by
 obtain ⟨v, h1, h2, ⟨K1, h3⟩, ⟨K2, h4⟩⟩ := h; exact ⟨v, h1, h2, ⟨K + K1, fun k hk => by rw [hf k (by omega)]; exact h3 k (by omega)⟩, ⟨K + K2, fun k hk => by rw [hg k (by omega)]; exact h4 k (by omega)⟩⟩
theorem qfF {rs : List qac} {mo : Int} (hg : qaG rs = true) (hm : qex mo = true) (z : ByteArray) : Both (fun _ => some (rs, mo, z)) (fun _ => some (rs, mo, z)) := ⟨(rs, mo, z), hg, hm, ⟨0, fun _ _ => rfl⟩, ⟨0, fun _ _ => rfl⟩⟩
theorem qix {rs : List qac} {mo : Int} (hg : qaG rs = true) (hm : qex mo = true) {f g : Nat → Option (Int × Bool)} (h : Num2 f g) : Both (fun k => (f k).bind fun q => (qbk.f q.1).bind fun s => (qbX.f s q.2).bind fun z => some (rs, mo, z)) (fun k => ((g k).bind fun q => qcD.f k q.1 q.2).bind fun z => some (rs, mo, z)) := by
 obtain ⟨v, ok, hv, ⟨K1, h1⟩, ⟨K2, h2⟩⟩ := h; obtain ⟨K3, h3⟩ := int_ev v hv
 cases ok with
 | true =>
  refine ⟨(rs, mo, bs (decDigits v)), hg, hm, ⟨K1, fun k hk => ?_⟩, ⟨K2 + K3, fun k hk => ?_⟩⟩
  ·show (f k).bind _ = _
   rw [h1 k hk, qax, ql8 v hv]; rfl
  ·have h3 := h3 k (by omega)
   dsimp only at h3
   show ((g k).bind _).bind _ = _
   rw [h2 k (by omega), qax]; unfold qcD.f; rw [if_pos rfl, h3]; rfl
 | false =>
  refine ⟨(rs, mo, ⟨#[110, 111]⟩), hg, hm, ⟨K1, fun k hk => ?_⟩, ⟨K2, fun k hk => ?_⟩⟩
  ·show (f k).bind _ = _
   rw [h1 k hk, qax, ql8 v hv]; rfl
  ·show ((g k).bind _).bind _ = _
   rw [h2 k hk]; rfl
theorem qiw {rs : List qac} {mo : Int} (hg : qaG rs = true) (hm : qex mo = true) {f g : Nat → Option (List Int × Bool)} (h : List2 f g) : Both (fun k => (f k).bind fun q => (qbn.f k q.1).bind fun s => (qbX.f s q.2).bind fun z => some (rs, mo, z)) (fun k => ((g k).bind fun q => qdE.f k q.1 q.2).bind fun z => some (rs, mo, z)) := by
 obtain ⟨L, ok, hs, ⟨K1, h1⟩, ⟨K2, h2⟩⟩ := h; obtain ⟨K3, h3⟩ := qko L hs; obtain ⟨K4, h4⟩ := qmO L hs
 cases ok with
 | true =>
  refine ⟨(rs, mo, LT L), hg, hm, ⟨K1 + K3, fun k hk => ?_⟩, ⟨K2 + K4, fun k hk => ?_⟩⟩
  ·have h3 := h3 k (by omega)
   dsimp only at h3
   show (f k).bind _ = _
   rw [h1 k (by omega), qax, h3]; rfl
  ·have h4 := h4 k (by omega)
   dsimp only at h4
   show ((g k).bind _).bind _ = _
   rw [h2 k (by omega), qax]; unfold qdE.f; rw [if_pos rfl, h4]; rfl
 | false =>
  refine ⟨(rs, mo, ⟨#[110, 111]⟩), hg, hm, ⟨K1 + K3, fun k hk => ?_⟩, ⟨K2, fun k hk => ?_⟩⟩
  ·have h3 := h3 k (by omega)
   dsimp only at h3
   show (f k).bind _ = _
   rw [h1 k (by omega), qax, h3]; rfl
  ·show ((g k).bind _).bind _ = _
   rw [h2 k hk]; rfl
theorem qra {rs : List qac} {mo : Int} (hg : qaG rs = true) (hm : qex mo = true) (n : Nat) (hn : n ≤ 999999) : Both (fun k => (qcJ.f k (n : Int)).bind fun q => (qbQ.f k q.1).bind fun s => (qbX.f s q.2).bind fun z => some (rs, mo, z)) (fun k => ((qcL.f k (n : Int)).bind fun q => qcl.f k q.1 q.2).bind fun z => some (rs, mo, z)) := by
 obtain ⟨L, ok, hs, ⟨K1, h1⟩, ⟨K2, h2⟩⟩ := qmx n hn; obtain ⟨K3, h3⟩ := qnj L hs; obtain ⟨K4, h4⟩ := qrj L hs
 cases ok with
 | true =>
  refine ⟨(rs, mo, ST L), hg, hm, ⟨K1 + K3, fun k hk => ?_⟩, ⟨K2 + K4, fun k hk => ?_⟩⟩
  ·have h1 := h1 k (by omega)
   have h3 := h3 k (by omega); dsimp only at h1 h3
   show (qcJ.f k n).bind _ = _
   rw [h1, qax, h3]; rfl
  ·have h2 := h2 k (by omega)
   have h4 := h4 k (by omega); dsimp only at h2 h4
   show ((qcL.f k n).bind _).bind _ = _
   rw [h2, qax, h4]; rfl
 | false =>
  refine ⟨(rs, mo, ⟨#[110, 111]⟩), hg, hm, ⟨K1 + K3, fun k hk => ?_⟩, ⟨K2, fun k hk => ?_⟩⟩
  ·have h1 := h1 k (by omega)
   have h3 := h3 k (by omega); dsimp only at h1 h3
   show (qcJ.f k n).bind _ = _
   rw [h1, qax, h3]; rfl
  ·have h2 := h2 k (by omega)
   dsimp only at h2
   show ((qcL.f k n).bind _).bind _ = _
   rw [h2]; rfl
theorem qiy {rs : List qac} {mo : Int} (hg : qaG rs = true) (hm : qex mo = true) (xs : List qac) (ok : Bool) (hx : ok = true → qaG xs = true) : Both (fun k => (qe3 k rs xs ok).bind fun p => some (p.1, mo, p.2)) (fun k => (qiW k rs xs ok).bind fun p => some (p.1, mo, p.2)) := by
 cases ok with
 | true =>
  obtain ⟨K1, h1⟩ := qfK xs (hx rfl); obtain ⟨K2, h2⟩ := qiT xs (hx rfl); refine ⟨(xs, mo, RT xs), hx rfl, hm, ⟨K1, fun k hk => ?_⟩, ⟨K2, fun k hk => ?_⟩⟩
  ·have h1 := h1 k hk
   dsimp only at h1
   show (qe3 k rs xs true).bind _ = _
   unfold qe3; rw [if_pos rfl, qds, qax, hx rfl, if_pos rfl, h1]; rfl
  ·have h2 := h2 k hk
   dsimp only at h2
   show (qiW k rs xs true).bind _ = _
   unfold qiW; rw [h2]; rfl
 | false => exact ⟨(rs, mo, ⟨#[110, 111]⟩), hg, hm, ⟨0, fun k hk => rfl⟩, ⟨0, fun k hk => rfl⟩⟩
theorem qhF {rs : List qac} {mo : Int} (hg : qaG rs = true) (hm : qex mo = true) {f g : Nat → Option (List qac × Bool)} (h : ∃ v : List qac × Bool, (v.2 = true → qaG v.1 = true) ∧ Ev f v ∧ Ev g v) : Both (fun k => (f k).bind fun q => (qe3 k rs q.1 q.2).bind fun p => some (p.1, mo, p.2)) (fun k => (g k).bind fun q => (qiW k rs q.1 q.2).bind fun p => some (p.1, mo, p.2)) := by
 obtain ⟨v, hv, ⟨K1, h1⟩, ⟨K2, h2⟩⟩ := h; refine (qiy hg hm v.1 v.2 hv).of (K1 + K2) (fun k hk => ?_) (fun k hk => ?_)
 ·rw [h1 k (by omega)]; rfl
 ·rw [h2 k (by omega)]; rfl
theorem qmH {rs : List qac} (hg : qaG rs = true) (mo' : Int) (hm' : qex mo' = true) : Both (fun k => (qaE.f k rs).bind fun s => some (rs, mo', s)) (fun k => (qci.f k rs true).bind fun s => some (rs, mo', s)) := by
 obtain ⟨K1, h1⟩ := qfK rs hg; obtain ⟨K2, h2⟩ := qiT rs hg; refine ⟨(rs, mo', RT rs), hg, hm', ⟨K1, fun k hk => ?_⟩, ⟨K2, fun k hk => ?_⟩⟩
 ·have h1 := h1 k hk
  dsimp only at h1
  show (qaE.f k rs).bind _ = _
  rw [h1]; rfl
 ·have h2 := h2 k hk
  dsimp only at h2
  show (qci.f k rs true).bind _ = _
  rw [h2]; rfl
def qqG (k : Nat) (rs : List qac) (mo : Int) (c : Cmd) (lr : List qac) (tx : ByteArray) (n : Int) : Option (List qac × Int × ByteArray) := if c.moves = true then qdC.f k rs mo lr n c else (qgG.f k rs mo tx n c).bind fun z => some (rs, mo, z)
theorem left2 {rs : List qac} {mo : Int} (hg : qaG rs = true) (hm : qex mo = true) : List2 (fun k => (qaA.f k rs 1 mo).bind fun l => some (l, true)) (fun k => qes.f k rs mo) ∧ Num2 (fun k => (qaA.f k rs 1 mo).bind fun l => some ((l.length : Int), true)) (fun k => qd6.f k rs mo) := by
 obtain ⟨hl, ha⟩ := qb4 hg; have hm2 := hm; unfold qex at hm2; rw [Bool.and_eq_true, decide_eq_true_eq, decide_eq_true_eq] at hm2; obtain ⟨K1, h1⟩ := qhW rs ha 1 mo (by omega) (by omega) (by omega); obtain ⟨K2, h2⟩ := qsC rs hl ha mo hm2.1 hm2.2; obtain ⟨K3, h3⟩ := qsD rs mo; rw [hg, hm, Bool.and_self] at h3
 have hb : ∀ x ∈ qgv rs 1 mo, 0 ≤ x ∧ x ≤ 10000000 := fun x hx => by have := (qeZ rs _ 1 x).1 hx; omega
 have hlen := qkT rs 1 mo; have hc := qrn (qgv rs 1 mo) (fun x hx => (hb x hx).1); refine ⟨⟨(qgv rs 1 mo).map Int.toNat, true, qsG hb (by omega), ?_, ?_⟩, ⟨(qgv rs 1 mo).length, true, by omega, ?_, ?_⟩⟩
 ·rw [hc]
  refine ⟨K1, fun k hk => ?_⟩; have h1 := h1 k hk; dsimp only at h1
  show (qaA.f k rs 1 mo).bind _ = _
  rw [h1]; rfl
 ·rw [hc]
  refine ⟨K2 + K3, fun k hk => ?_⟩; have h2 := h2 k (by omega); have h3 := h3 k (by omega); dsimp only at h2 h3
  show qes.f k rs mo = _
  unfold qes.f; rw [h3, qax, if_pos rfl, h2]; rfl
 ·refine ⟨K1, fun k hk => ?_⟩
  have h1 := h1 k hk; dsimp only at h1
  show (qaA.f k rs 1 mo).bind _ = _
  rw [h1]; rfl
 ·refine ⟨K2 + K3, fun k hk => ?_⟩
  have h2 := h2 k (by omega); have h3 := h3 k (by omega); dsimp only at h2 h3
  show qd6.f k rs mo = _
  unfold qd6.f; rw [h3, qax, if_pos rfl, h2]; rfl
theorem period2 {rs : List qac} (hg : qaG rs = true) : Num2 (fun k => qcb.f k rs) (fun k => qcB.f k rs) := by
 obtain ⟨K1, h1⟩ := qih rs; obtain ⟨K2, h2⟩ := qij rs hg; obtain ⟨K3, h3⟩ := qe0 rs; rw [hg] at h3
 cases hp : period rs with
 | none =>
  rw [hp] at h1 h2; refine ⟨0, false, by omega, ⟨K1, h1⟩, ⟨K2 + K3, fun k hk => ?_⟩⟩; have h2 := h2 k (by omega); have h3 := h3 k (by omega); dsimp only at h2 h3
  show qcB.f k rs = _
  unfold qcB.f; rw [h3, qax, if_pos rfl, h2]; rfl
 | some q =>
  rw [hp] at h1 h2; obtain ⟨-, q0, q1⟩ := qfB hp; refine ⟨q, true, by omega, ⟨K1, h1⟩, ⟨K2 + K3, fun k hk => ?_⟩⟩; have h2 := h2 k (by omega); have h3 := h3 k (by omega); dsimp only at h2 h3
  show qcB.f k rs = _
  unfold qcB.f; rw [h3, qax, if_pos rfl, h2, qax, if_neg (by omega), qax]
theorem qqz {rs : List qac} {mo : Int} (hg : qaG rs = true) (hm : qex mo = true) (c : Cmd) (hk : c.kind = []) : Both (fun k => qfZ.f k rs mo c) (fun k => qqG k rs mo c [] ⟨#[]⟩ 0) := by
 cases c with
 | cMirror => exact qhF hg hm ⟨_, fun _ => qpy (fun _ => qnH _) hg, qnV rs hg⟩
 | cTidy => exact qhF hg hm (qqS rs hg)
 | cShow => exact qmH hg mo hm
 | cLeft =>
  refine (qiw hg hm (left2 hg hm).1).of 0 (fun k _ => ?_) (fun k _ => rfl)
  show (qaA.f k rs 1 mo).bind _ = ((qaA.f k rs 1 mo).bind _).bind _
  cases qaA.f k rs 1 mo <;> rfl
 | cCount =>
  refine (qix hg hm (left2 hg hm).2).of 0 (fun k _ => ?_) (fun k _ => rfl)
  show (qaA.f k rs 1 mo).bind _ = ((qaA.f k rs 1 mo).bind _).bind _
  cases qaA.f k rs 1 mo with
  | none => rfl
  | some l =>
   show (qbk.f (l.length : Int)).bind _ = (qbk.f (l.length : Int)).bind _
   cases qbk.f (l.length : Int) <;> rfl
 | cPeriod => exact qix hg hm (period2 hg)
 | cSpokes => exact qiw hg hm (qn2 rs hg)
 | cSteps => exact qiw hg hm (qp8 rs hg)
 | _ => cases hk
theorem qnp {rs : List qac} {mo : Int} (hg : qaG rs = true) (hm : qex mo = true) (n : Int) : Both (fun k => (qdv.f k rs n).bind fun q => (qbX.f q.1 q.2).bind fun z => some (rs, mo, z)) (fun k => ((qaZ.f k rs n).bind fun q => if q.2 = true then some q.1 else some (⟨#[110, 111]⟩ : ByteArray)).bind fun z => some (rs, mo, z)) := by
 obtain ⟨⟨K1, h1⟩, ⟨K2, h2⟩⟩ := qkP rs n
 obtain ⟨v, hv⟩ : ∃ v, v = qpS rs n := ⟨_, rfl⟩
 rw [← hv] at h1 h2; refine ⟨(rs, mo, if v.2 = true then v.1 else ⟨#[110, 111]⟩), hg, hm, ⟨K2, fun k hk => ?_⟩, ⟨K1, fun k hk => ?_⟩⟩
 ·have h2 := h2 k hk
  dsimp only at h2
  show (qdv.f k rs n).bind _ = _
  rw [h2, qax]; unfold qbX.f
  split <;> rfl
 ·have h1 := h1 k hk
  dsimp only at h1
  show ((qaZ.f k rs n).bind _).bind _ = _
  rw [h1, qax]
  split <;> rfl
theorem qmc {rs : List qac} {mo : Int} (hg : qaG rs = true) (hm : qex mo = true) (c : Cmd) (hk : c.kind = [110]) (n : Nat) (hn : n ≤ 999999) : Both (fun k => qck.f k rs mo c (n : Int)) (fun k => qqG k rs mo c [] ⟨#[]⟩ (n : Int)) := by
 obtain ⟨hl, ha⟩ := qb4 hg
 cases c with
 | cDrop =>
  by_cases c : n < rs.length
  ·refine (qiy hg hm (rs.eraseIdx n) true (fun _ => qiX hg n)).of 0 (fun k _ => ?_) (fun k _ => ?_)
   ·show qck.f k rs mo .cDrop n = _
    unfold qck.f; dsimp only; rw [if_neg (by omega), qj1 rs n c hl, qax]
   ·show qdC.f k rs mo [] n .cDrop = _
    unfold qdC.f; dsimp only; rw [if_neg (by omega), qja hl n c, qax]
  ·refine (qfF hg hm ⟨#[110, 111]⟩).of 0 (fun k _ => ?_) (fun k _ => ?_)
   ·show qck.f k rs mo .cDrop n = _
    unfold qck.f; dsimp only; rw [if_pos (by omega)]
   ·show qdC.f k rs mo [] n .cDrop = _
    unfold qdC.f; dsimp only; rw [if_pos (by omega)]
 | cMost =>
  have e1 := qsf (n : Int)
  have e2 : qe9.f (n : Int) = some (qex (n : Int)) := by unfold qe9.f; rw [qdX]; rfl
  cases hq : qex (n : Int) with
  | true =>
   refine (qmH hg (n : Int) hq).of 0 (fun k _ => ?_) (fun k _ => ?_)
   ·show qck.f k rs mo .cMost n = _
    unfold qck.f; dsimp only; rw [e1, qax, hq, if_pos rfl]
   ·show qdC.f k rs mo [] n .cMost = _
    unfold qdC.f; dsimp only; rw [e2, qax, hq, if_pos rfl]
  | false =>
   refine (qfF hg hm ⟨#[110, 111]⟩).of 0 (fun k _ => ?_) (fun k _ => ?_)
   ·show qck.f k rs mo .cMost n = _
    unfold qck.f; dsimp only; rw [e1, qax, hq, if_neg (by decide)]
   ·show qdC.f k rs mo [] n .cMost = _
    unfold qdC.f; dsimp only; rw [e2, qax, hq, if_neg (by decide)]
 | cMove => exact qhF hg hm ⟨_, fun h => by
   unfold vMove at h ⊢; split
   ·exact qpy (fun _ => qnH _) hg
   ·rfl, qqZ rs n⟩
 | cPrimes => exact qhF hg hm (qn0 n)
 | cRank => exact qix hg hm (qq2 rs hg n hn)
 | cFactors => exact qra hg hm n hn
 | cPi => exact qix hg hm (qp4 n hn)
 | cDivisors => exact qiw hg hm (qlJ n hn)
 | cTotient => exact qix hg hm (qmD n hn)
 | cPattern => exact qnp hg hm n
 | _ => cases hk
def qsb (k : Nat) (rs : List qac) (mo : Int) (c : Cmd) (y : ByteArray) : Option (List qac × Int × ByteArray) := (qaT.f k y).bind fun q => if q.2 = true then ((if c.bytes = [97, 100, 100] then (if rs.length + q.1.length < 8796093022208 then some (rs ++ q.1) else none) else some q.1).bind fun xs => (qe3 k rs xs true).bind fun p => some (p.1, mo, p.2)) else some (rs, mo, (⟨#[119, 104, 97, 116]⟩ : ByteArray))
def qsI (k : Nat) (rs : List qac) (mo : Int) (c : Cmd) (y : ByteArray) : Option (List qac × Int × ByteArray) := (qby.f k y).bind fun q => if q.2 = true then qqG k rs mo c q.1 ⟨#[]⟩ 0 else some (rs, mo, (⟨#[119, 104, 97, 116]⟩ : ByteArray))
theorem qqD {rs : List qac} {mo : Int} (hg : qaG rs = true) (hm : qex mo = true) (c : Cmd) (hk : c.kind = [114]) (y : ByteArray) (hy : y.size ≤ 1048576) : Both (fun k => qsb k rs mo c y) (fun k => qsI k rs mo c y) := by
 obtain ⟨⟨lr, ok⟩, ⟨K1, h1⟩, ⟨K2, h2⟩, hv⟩ := qjR y hy; have i1 : ∀ k, K2 ≤ k → qaT.f k y = some (lr, ok) := h2; have i2 : ∀ k, K1 ≤ k → qby.f k y = some (lr, ok) := h1
 cases ok with
 | false =>
  refine (qfF hg hm ⟨#[119, 104, 97, 116]⟩).of (K1 + K2) (fun k hk => ?_) (fun k hk => ?_)
  ·unfold qsb; rw [i1 k (by omega)]; rfl
  ·unfold qsI; rw [i2 k (by omega)]; rfl
 | true =>
  have hlr : qaG lr = true := hv rfl; obtain ⟨hl, ha⟩ := qb4 hg; obtain ⟨hl2, ha2⟩ := qb4 hlr
  cases c with
  | cRules =>
   refine (qiy hg hm lr true (fun _ => hlr)).of (K1 + K2) (fun k hk => ?_) (fun k hk => ?_)
   ·unfold qsb; rw [i1 k (by omega)]; rfl
   ·unfold qsI; rw [i2 k (by omega)]; rfl
  | cAdd =>
   have hq : qaG (rs ++ lr) = decide (((rs ++ lr).length : Int) ≤ 12) := by
    unfold qaG; rw [List.all_append, ha, ha2, Bool.and_true, Bool.and_true, decide_eq_decide]; omega
   refine (qiy hg hm (rs ++ lr) (decide (((rs ++ lr).length : Int) ≤ 12)) (fun h => by rw [hq]; exact h)).of (K1 + K2) (fun k hk => ?_) (fun k hk => ?_)
   ·unfold qsb
    rw [i1 k (by omega), qax, if_pos rfl, if_pos (show Cmd.cAdd.bytes = [97, 100, 100] from rfl), if_pos (show rs.length + lr.length < 8796093022208 by omega), qax, ← hq]
    cases hgg : qaG (rs ++ lr) with
    | true => rfl
    | false =>
     unfold qe3; rw [if_pos rfl, qds, qax, hgg]; rfl
   ·unfold qsI
    rw [i2 k (by omega), qax, if_pos rfl]; unfold qqG; rw [if_pos (show Cmd.cAdd.moves = true from rfl)]; unfold qdC.f; dsimp only; rw [if_pos (show rs.length + lr.length < 8796093022208 by omega)]
  | _ => cases hk
def implP (k : Nat) (rs : List qac) (mo : Int) (y : ByteArray) : Option (List qac × Int × ByteArray) := (qb9.f y).bind fun q => if q.2.2 = true then ((qc1.f k q.1 q.2.1).bind fun u => (qaE.f k u.1).bind fun z => (qbX.f z u.2).bind fun z => some (rs, mo, z)) else some (rs, mo, (⟨#[110, 111]⟩ : ByteArray))
theorem qn4 {rs : List qac} {mo : Int} (hg : qaG rs = true) (hm : qex mo = true) (y : ByteArray) (hy : y.size ≤ 1048576) : Both (fun k => implP k rs mo y) (fun k => qqG k rs mo .cAnswer [] y 0) := by
 obtain ⟨⟨p, n, ok⟩, ⟨K1, h1⟩, h2⟩ := qjw y hy; have i1 : ∀ k, K1 ≤ k → qaB.f k y = some (p, n, ok) := h1
 have hst : ∀ k, qqG k rs mo .cAnswer [] y 0 = (((qaB.f k y).bind fun q => if q.2.2 = true then ((qdk.f k q.1 q.2.1).bind fun u => qci.f k u.1 u.2) else some (⟨#[110, 111]⟩ : ByteArray))).bind fun z => some (rs, mo, z) := fun k => rfl
 cases ok with
 | false =>
  refine (qfF hg hm ⟨#[110, 111]⟩).of K1 (fun k hk => ?_) (fun k hk => ?_)
  ·unfold implP; rw [h2]; rfl
  ·rw [hst, i1 k hk]; rfl
 | true =>
  obtain ⟨⟨K3, h3⟩, ⟨K4, h4⟩⟩ := qju p n; have hgood := qok p n
  obtain ⟨v, hv⟩ : ∃ v, v = qlc p n := ⟨_, rfl⟩
  rw [← hv] at h3 h4 hgood; obtain ⟨K5, h5⟩ := qfK v.1 hgood; obtain ⟨K6, h6⟩ := qiT v.1 hgood; have i3 : ∀ k, K3 ≤ k → qdk.f k p n = some v := h3; have i4 : ∀ k, K4 ≤ k → qc1.f k p n = some v := h4; have i5 : ∀ k, K5 ≤ k → qaE.f k v.1 = some (RT v.1) := h5; have i6 : ∀ k, K6 ≤ k → qci.f k v.1 true = some (RT v.1) := h6; refine (qfF hg hm (if v.2 = true then RT v.1 else ⟨#[110, 111]⟩)).of (K1 + K3 + K4 + K5 + K6) (fun k hk => ?_) (fun k hk => ?_)
  ·unfold implP
   rw [h2, qax, if_pos rfl, i4 k (by omega), qax, i5 k (by omega), qax]; unfold qbX.f
   split <;> rfl
  ·rw [hst, i1 k (by omega), qax, if_pos rfl, i3 k (by omega), qax]
   cases v.2 with
   | true => rw [i6 k (by omega)]; rfl
   | false => rfl
end
theorem qnD {s : ByteArray} {c : UInt8} (hs : s.size ≤ 1048576) : (bas (spl c s.data.toList)).length ≤ 1048577 ∧ ∀ y ∈ bas (spl c s.data.toList), y.size ≤ s.size := by
 have hl : s.data.toList.length = s.size := Array.length_toList; constructor
 ·unfold bas
  rw [List.length_map, qlD]; have := List.count_le_length (a := c) (l := s.data.toList); omega
 ·intro y hy
  obtain ⟨p, hp, rfl⟩ := List.mem_map.1 hy; have := (qmi c _ p hp).2
  show (bs p).size ≤ s.size
  rw [qcN]; omega
def qhI (k : Nat) (rs : List qac) (mo : Int) (c : Cmd) (t : List ByteArray) : Option (List qac × Int × ByteArray) := if t.length = c.kind.length then (match c.kind, t with
    | [], _ => qfZ.f k rs mo c
    | 110 :: _, y :: _ => (match numOf y with | none => some (rs, mo, (⟨#[119, 104, 97, 116]⟩ : ByteArray)) | some n => qck.f k rs mo c n)
    | 114 :: _, y :: _ => qsb k rs mo c y
    | _, y :: _ => implP k rs mo y
    | _, [] => none) else some (rs, mo, (⟨#[119, 104, 97, 116]⟩ : ByteArray))
theorem qse {s x : ByteArray} {t : List ByteArray} {c : Cmd} {rs : List qac} (mo : Int) (hs : s.size ≤ 1048576) (hr : rs.length < 8796093022208) (hw : qgw 32 s = x :: t) (hc : qhn x = some c) (k : Nat) : qfn.f k rs mo s = qhI k rs mo c t := by
 unfold qfn.f; rw [if_pos ⟨hs, hr⟩, hw]; dsimp only; rw [hc]; rfl
theorem qsL {s x : ByteArray} {t : List ByteArray} {c : Cmd} {rs : List qac} (mo : Int) (hr : rs.length < 8796093022208) (k : Nat) (hw : qbi.f k s 32 = some (x :: t)) (hl : (x :: t).length ≤ 1048577) (hc : qhn x = some c) : qd8.f k rs mo s = (qho k c t).bind fun r => match r with
 | none => some (rs, mo, (⟨#[119, 104, 97, 116]⟩ : ByteArray))
 | some (c, lr, tx, n) => if c.moves = true then qdC.f k rs mo lr n c else (qgG.f k rs mo tx n c).bind fun z => some (rs, mo, z) := by
 unfold qd8.f qgg.f; rw [if_pos hr, hw, qax, if_pos hl]; dsimp only; rw [hc]; rfl
theorem qsl {rs : List qac} {mo : Int} (hg : qaG rs = true) (hm : qex mo = true) (s : ByteArray) (hs : s.size ≤ 1048576) : Both (fun k => qfn.f k rs mo s) (fun k => qd8.f k rs mo s) := by
 have hr : rs.length < 8796093022208 := by have := (qb4 hg).1; omega
 obtain ⟨K, hsp⟩ := qjN 32 s hs; have hsp : ∀ k, K ≤ k → qbi.f k s 32 = some (bas (spl 32 s.data.toList)) := hsp; have hw := qin 32 s; obtain ⟨hl, hb⟩ := qnD (c := 32) hs
 generalize bas (spl 32 s.data.toList) = ws at hsp hw hl hb
 cases ws with
 | nil =>
  exfalso
  rw [qin] at hw; exact qjr 32 s.data.toList (by unfold bas at hw; exact List.map_eq_nil_iff.1 hw)
 | cons x t =>
  cases hc : qhn x with
  | none =>
   refine (qfF hg hm ⟨#[119, 104, 97, 116]⟩).of K (fun k hk => ?_) (fun k hk => ?_)
   ·unfold qfn.f
    rw [if_pos ⟨hs, hr⟩, hw]; dsimp only; rw [hc]
   ·unfold qd8.f qgg.f
    rw [if_pos hr, hsp k hk, qax, if_pos hl]; dsimp only; rw [hc, qax]
  | some c =>
   have hi := fun k => qse mo hs hr hw hc k
   have hq := fun k (hk : K ≤ k) => qsL mo hr k (hsp k hk) hl hc
   by_cases htl : t.length = c.kind.length
   ·rcases Cmd.kinds c with hkd | hkd | hkd | hkd
    ·rw [hkd] at htl
     obtain rfl := List.length_eq_zero_iff.1 htl; refine (qqz hg hm c hkd).of K (fun k hk => ?_) (fun k hk => ?_)
     ·rw [hi]; unfold qhI; rw [hkd]; rfl
     ·rw [hq k hk]; unfold qho; rw [hkd]; rfl
    ·rw [hkd] at htl
     obtain ⟨y, rfl⟩ := List.length_eq_one_iff.1 htl; have hn := numOf_eq y; obtain ⟨K2, h2⟩ := qoX y
     cases hrd : rdP y.data.toList with
     | none =>
      rw [hrd] at hn h2; have h2 : ∀ k, K2 ≤ k → qaV.f k y = some (-1) := h2; refine (qfF hg hm ⟨#[119, 104, 97, 116]⟩).of (K + K2) (fun k hk => ?_) (fun k hk => ?_)
      ·rw [hi]; unfold qhI; rw [hkd]; show (if _ then (match numOf y with | none => _ | some n => _) else _) = _; rw [hn]; rfl
      ·rw [hq k (by omega)]; unfold qho; rw [hkd]; show ((if _ then ((qaV.f k y).bind _) else _)).bind _ = _; rw [h2 k (by omega)]; rfl
     | some n =>
      rw [hrd] at hn h2; have h2 : ∀ k, K2 ≤ k → qaV.f k y = some (n : Int) := h2; have hsz := ((qky _ n).1 hrd).1; refine (qmc hg hm c hkd n hsz).of (K + K2) (fun k hk => ?_) (fun k hk => ?_)
      ·rw [hi]; unfold qhI; rw [hkd]; show (if _ then (match numOf y with | none => _ | some n => _) else _) = _; rw [hn]; rfl
      ·rw [hq k (by omega)]; unfold qho; rw [hkd]
       show ((if _ then ((qaV.f k y).bind fun n => if n ≥ 0 then some (some (c, ([] : List qac), (⟨#[]⟩ : ByteArray), n)) else some none) else _)).bind _ = _
       rw [if_pos htl, h2 k (by omega), qax, if_pos (by omega), qax]; rfl
    ·rw [hkd] at htl
     obtain ⟨y, rfl⟩ := List.length_eq_one_iff.1 htl; have hy := hb y (by simp); refine (qqD hg hm c hkd y (by omega)).of K (fun k hk => ?_) (fun k hk => ?_)
     ·rw [hi]; unfold qhI; rw [hkd]; rfl
     ·rw [hq k hk]; unfold qho; rw [hkd]
      show ((if _ then ((qby.f k y).bind fun q => if q.2 = true then some (some (c, q.1, (⟨#[]⟩ : ByteArray), (0 : Int))) else some none) else _)).bind _ = _
      rw [if_pos htl]; unfold qsI
      cases qby.f k y with
      | none => rfl
      | some q =>
       rw [qax, qax]
       split <;> rfl
    ·rw [hkd] at htl
     obtain ⟨y, rfl⟩ := List.length_eq_one_iff.1 htl; have hy := hb y (by simp)
     have hca : c = .cAnswer := by cases c <;> first | rfl | cases hkd
     subst hca; refine (qn4 hg hm y (by omega)).of K (fun k hk => ?_) (fun k hk => ?_)
     ·rw [hi]; rfl
     ·rw [hq k hk]; rfl
   ·refine (qfF hg hm ⟨#[119, 104, 97, 116]⟩).of K (fun k hk => ?_) (fun k hk => ?_)
    ·rw [hi]; unfold qhI; rw [if_neg htl]
    ·rw [hq k hk]; unfold qho; rw [if_neg htl, qax]
end Go.Proofs.YtjeoabbnalamcaaGreatDoor.P
