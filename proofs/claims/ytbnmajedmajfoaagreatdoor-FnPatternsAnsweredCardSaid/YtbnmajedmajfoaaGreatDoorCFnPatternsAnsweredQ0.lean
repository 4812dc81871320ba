/- The plain laws on what the functions answer; the last one: the law FnPatternsAnswered answers true for all arguments. Proved in this text: its theorems. Conditions: as each theorem states them. -/
import Derived.Test.YtbnmajedmajfoaaGreatDoorCFnPatternsAnsweredP
import Derived.Test.YtbnmajedmajfoaaGreatDoorCFnPatternsAnsweredF0
import Derived.Test.YtbnmajedmajfoaaGreatDoorCFnPatternsAnsweredF1
import Derived.Test.YtbnmajedmajfoaaGreatDoorCFnPatternsAnsweredF2
import Derived.Test.YtbnmajedmajfoaaGreatDoorCFnPatternsAnsweredF3
import Derived.Test.YtbnmajedmajfoaaGreatDoorCFnPatternsAnsweredF4
import Derived.Test.YtbnmajedmajfoaaGreatDoorCFnPatternsAnsweredF5
import Derived.Deep.Slices
import Derived.Deep.Fields
import Derived.ChangeSame
import Derived.ChangeSlices
import Derived.Lib.SmallJoins
import Derived.ProofKit
import Derived.OpenShut
import Derived.ShutString
import Derived.ChangeOld
import Derived.SizedLaws
namespace Go.Proofs.YtbnmajedmajfoaaGreatDoor.P
open Go.RowKit Go.Proofs.YtbnmajedmajfoaaGreatDoorW.qaG Go.Proofs.YtbnmajedmajfoaaGreatDoorW.PrintLast
set_option linter.unusedVariables false
set_option linter.unusedSimpArgs false
section
open Go.ChangeShapes Go.WideShapes Go.Deep Go.ChangeAt
variable {H : Type} {enc : TypeId × Value → H} {P : Program} {w : World} {base : Nat} {spare : Nat → Bool} {held : Bool}
theorem open_pairs {t e : TypeId} {f0 f1 : Field} {fuel : Nat} {v : Value} {x : DataW H × List MemPlace} (ht : P.underlying t = some (.slice e)) (he : P.underlying e = some (.struct #[f0, f1]))
    (hone : oneCellFields P #[f0, f1] = true) (hC : P.cellsOf e = 2) (h0 : P.underlying f0.type = some (.int .i64)) (h1 : P.underlying f1.type = some (.int .i64)) (h : DataW.trod enc P w base spare held fuel t [v] = some x) :
    ∃ (a : Option Addr) (len cap : Nat) (l : List (Int × Int)), v = .slice a len cap ∧ len = l.length ∧ len ≤ cap ∧ l.length ≤ 9223372036854775807 ∧ (∀ p ∈ l, (Lit.int .i64 p.1).wf = true ∧ (Lit.int .i64 p.2).wf = true) ∧
      (0 < l.length → ∃ ad, a = some ad ∧ ∀ j p, l[j]? = some p → w.cell? (ad.add (j * 2)) = some (.int .i64 p.1) ∧ w.cell? (ad.add (j * 2 + 1)) = some (.int .i64 p.2)) := by
  rcases open_slice ht h with ⟨hcs, -⟩ | ⟨a, len, cap, m, n, D, Pl, hcs, hb, hl, hm, hmm, hx, hi⟩
  · simp at hcs
    exact ⟨none, 0, 0, [], hcs, rfl, Nat.le_refl _, by simp, by simp, by simp⟩
  · simp at hcs
    have hlm : len ≤ m := by rw [hmm]; split <;> omega
    have hget : ∀ i, i < len → ∃ p : Int × Int, w.cell? (a.add (i * 2)) = some (.int .i64 p.1) ∧ w.cell? (a.add (i * 2 + 1)) = some (.int .i64 p.2) ∧ (Lit.int .i64 p.1).wf = true ∧ (Lit.int .i64 p.2).wf = true := by
      intro i him
      obtain ⟨cs', hc, ht'⟩ := hi i (by omega)
      rw [hC] at hc
      obtain ⟨y0, y1, n', hy, -, t0, t1⟩ := trod_struct2 he ht'
      obtain ⟨_, hcl, hat⟩ := World.cells?_some hc
      obtain ⟨o0, k0⟩ := hone_of hone 0 f0 rfl
      obtain ⟨o1, k1⟩ := hone_of hone 1 f1 rfl
      have c0 := hat (i := 0) (by omega)
      have c1 := hat (i := 1) (by omega)
      match cs', hcl with
      | [u0, u1], _ =>
        simp only [o0, k0, List.drop_zero, List.take_succ_cons, List.take_zero] at t0
        simp only [o1, k1, List.drop_succ_cons, List.drop_zero, List.take_succ_cons, List.take_zero] at t1
        obtain ⟨z0, e0, -, w0⟩ := DataW.trod_int h0 t0
        obtain ⟨z1, e1, -, w1⟩ := DataW.trod_int h1 t1
        simp at e0 e1
        subst e0 e1
        refine ⟨(z0, z1), ?_, ?_, w0, w1⟩
        · simpa [Go.Deep.add_add] using c0
        · simpa [Go.Deep.add_add] using c1
    let g : Nat → Int × Int := fun i => if hi : i < len then (hget i hi).choose else (0, 0)
    have hg : ∀ i, i < len → w.cell? (a.add (i * 2)) = some (.int .i64 (g i).1) ∧ w.cell? (a.add (i * 2 + 1)) = some (.int .i64 (g i).2) ∧ (Lit.int .i64 (g i).1).wf = true ∧ (Lit.int .i64 (g i).2).wf = true := by
      intro i hi
      have := (hget i hi).choose_spec
      simpa [g, hi] using this
    refine ⟨some a, len, cap, (List.range len).map g, hcs, by simp, hl, by simp; unfold maxLen at hm; omega, ?_, ?_⟩
    · intro p hp
      simp at hp
      obtain ⟨i, hi, rfl⟩ := hp
      exact ⟨(hg i hi).2.2.1, (hg i hi).2.2.2⟩
    · intro _
      refine ⟨a, rfl, fun j p hj => ?_⟩
      simp [List.getElem?_map] at hj
      obtain ⟨i, hij, rfl⟩ := hj
      have hjl : j < len := by
        have := (List.getElem?_eq_some_iff.1 hij).1
        simpa using this
      have : i = j := by
        have := List.getElem?_range hjl
        rw [this] at hij
        simpa using hij.symm
      subst this
      exact ⟨(hg i hjl).1, (hg i hjl).2.1⟩
theorem qpi {t e : TypeId} {k : IntKind} {fuel : Nat} {v : Value} {x : DataW H × List MemPlace} (ht : P.underlying t = some (.slice e)) (he : P.underlying e = some (.int k)) (hc : P.cellsOf e = 1)
    (h : DataW.trod enc P w base spare held fuel t [v] = some x) :
    ∃ (a : Option Addr) (len cap : Nat) (l : List Int), v = .slice a len cap ∧ len = l.length ∧ len ≤ cap ∧ l.length ≤ 9223372036854775807 ∧ (∀ n ∈ l, (Lit.int k n).wf = true) ∧ (Kd.int k).C w a l.length l := by
  rcases open_ints ht he hc h with ⟨hcs, -⟩ | ⟨a, len, cap, zs, hcs, hb, hl, hm, hz, hx, hcell, hwf⟩
  · simp at hcs
    exact ⟨none, 0, 0, [], hcs, rfl, Nat.le_refl _, by simp, by simp, Kd.qrm _ _⟩
  · simp at hcs
    have hlz : len ≤ zs.length := by rw [hz]; split <;> omega
    have hlen : (zs.take len).length = len := by simp; omega
    have hmax : (zs.take len).length ≤ 9223372036854775807 := by rw [hlen]; unfold maxLen at hm; omega
    refine ⟨some a, len, cap, zs.take len, hcs, hlen.symm, hl, hmax, fun n hn => hwf n (List.mem_of_mem_take hn), ?_⟩
    refine Kd.qrn (d := (0 : Int)) (h1 := fun _ => rfl) ⟨rfl, hmax, fun hn => ⟨a, rfl, fun i hi => ?_⟩⟩
    rw [hlen] at hi
    rw [hcell i (by omega)]
    congr 2
    simp [List.getD, hi]
end
end Go.Proofs.YtbnmajedmajfoaaGreatDoor.P
namespace Go.Proofs.YtbnmajedmajfoaaGreatDoor.P
open Go.RowKit Go.Proofs.YtbnmajedmajfoaaGreatDoorW.qaG Go.Proofs.YtbnmajedmajfoaaGreatDoorW.PrintLast
set_option linter.unusedVariables false
set_option linter.unusedSimpArgs false
theorem Ev.get {α : Type} {g : Nat → Option α} {r : α} (h : Ev g r) : ∃ K, ∀ k, K ≤ k → g k = some r := h
theorem Ev.mk' {α : Type} {g : Nat → Option α} {r : α} (K : Nat) (h : ∀ k, K ≤ k → g (k + 1) = some r) : Ev g r :=
  ⟨K + 1, fun k hk => by obtain ⟨m, rfl⟩ : ∃ m, k = m + 1 := ⟨k - 1, by omega⟩; exact h m (by omega)⟩
theorem Ev.pos {α : Type} {c : Prop} [Decidable c] {g f : Nat → Option α} {r : α} (hc : c) (h : Ev g r) : Ev (fun k => if c then g k else f k) r := by
  obtain ⟨K, h⟩ := h
  exact ⟨K, fun k hk => by show (if c then g k else f k) = some r; rw [if_pos hc]; exact h k hk⟩
theorem Ev.neg {α : Type} {c : Prop} [Decidable c] {g f : Nat → Option α} {r : α} (hc : ¬ c) (h : Ev f r) : Ev (fun k => if c then g k else f k) r := by
  obtain ⟨K, h⟩ := h
  exact ⟨K, fun k hk => by show (if c then g k else f k) = some r; rw [if_neg hc]; exact h k hk⟩
theorem Ev.let_ {α β : Type} {f : Nat → α → Option β} {a : α} {r : β} (k : Ev (fun n => f n a) r) : Ev (fun n => (some a).bind (f n)) r := k
theorem Ev.some_ {α : Type} {a r : α} (h : a = r) : Ev (fun _ => some a) r := ⟨0, fun _ _ => by rw [h]⟩
theorem Ev.eq_ {α : Type} {g : Nat → Option α} {a r : α} (h : Ev g a) (e : a = r) : Ev g r := e ▸ h
theorem qbf {n : Int} (h1 : -9223372036854775808 ≤ n) (h2 : n ≤ 9223372036854775807) : wrap64 n = n := by unfold wrap64; omega
theorem wf_int {n : Int} (h : (Lit.int .i64 n).wf = true) : -9223372036854775808 ≤ n ∧ n ≤ 9223372036854775807 := by
  unfold Lit.wf at h
  simp only [Bool.and_eq_true, decide_eq_true_eq] at h
  exact h
theorem qaS {α β : Type} (a : α) (f : α → Option β) : (some a).bind f = f a := id rfl
end Go.Proofs.YtbnmajedmajfoaaGreatDoor.P
namespace Go.Proofs.YtbnmajedmajfoaaGreatDoor.P
open Go.RowKit Go.Proofs.YtbnmajedmajfoaaGreatDoorW.qaG Go.Proofs.YtbnmajedmajfoaaGreatDoorW.PrintLast
set_option linter.unusedVariables false
set_option linter.unusedSimpArgs false
theorem qjZ (a b c : Int) : qbF.f a b c = some (decide (b ≤ a) && decide (a ≤ c)) := by
  unfold qbF.f
  by_cases h : b ≤ a <;> simp [h]
end Go.Proofs.YtbnmajedmajfoaaGreatDoor.P
namespace Go.Proofs.YtbnmajedmajfoaaGreatDoor.P
open Go.RowKit Go.Proofs.YtbnmajedmajfoaaGreatDoorW.qaG Go.Proofs.YtbnmajedmajfoaaGreatDoorW.PrintLast
set_option linter.unusedVariables false
set_option linter.unusedSimpArgs false
def left (l : List qaj) (n : Int) : Bool := !(l.any (qfr n))
def qd4 (l : List qaj) : Bool := decide (l.length ≤ 12) && l.all qci
theorem qfz (x : qaj) : qci x = true ↔ 2 ≤ x.f0 ∧ x.f0 ≤ 60 ∧ 0 ≤ x.f1 ∧ x.f1 < x.f0 := by
  unfold qci; simp
theorem quc (x : qaj) : qfu.f x.f0 x.f1 = some (qci x) := by
  unfold qfu.f qci
  simp only [qjZ, Option.bind_some]
  by_cases h1 : 2 ≤ x.f0
  · by_cases h2 : x.f0 ≤ 60
    · have : wrap64 (x.f0 - 1) = x.f0 - 1 := qbf (by omega) (by omega)
      rw [this]
      by_cases h3 : 0 ≤ x.f1
      · simp [h1, h2, h3]; omega
      · simp [h1, h2, h3]
    · simp [h1, h2]
  · simp [h1]
theorem qic (l : List qaj) (k : Nat) (h : k < l.length) : l.drop k = qab l k :: l.drop (k + 1) := qln l k h
theorem qps (l : List qaj) (hm : l.length ≤ 12) : ∀ d i : Nat, i + d = l.length → Ev (fun k => qb5.l0 k l l.length i) ((l.drop i).all qci)
  | 0, i, h => Ev.mk' 0 fun k _ => by
    simp only [qb5.l0]
    rw [if_neg (by omega), List.drop_eq_nil_of_le (by omega)]; rfl
  | d + 1, i, h => by
    obtain ⟨K, ih⟩ := qps l hm d (i + 1) (by omega)
    dsimp only at ih
    refine Ev.mk' K fun k hk => ?_
    simp only [qb5.l0]
    rw [if_pos (by omega), if_pos (by omega), if_pos (by omega), quc, qic l i (by omega), List.all_cons, Option.bind_some]
    rw [show wrap64 ((i : Int) + 1) = ((i + 1 : Nat) : Int) from qbf (by omega) (by omega), ih k hk]
    cases qci (qab l i) <;> simp
theorem qpr (l : List qaj) : Ev (fun k => qb5.f k l) (qd4 l) := by
  unfold qd4
  by_cases h : l.length ≤ 12
  · obtain ⟨K, ih⟩ := qps l h l.length 0 (by omega)
    refine ⟨K, fun k hk => ?_⟩
    simp only [qb5.f]
    rw [if_neg (by omega)]
    simpa [h] using ih k hk
  · refine ⟨0, fun k _ => ?_⟩
    simp only [qb5.f]
    rw [if_pos (by omega)]
    simp [h]
theorem qhi (l : List qaj) : qcZ.f l = some (qd4 l) := rfl
theorem qjm {l : List qaj} (h : qd4 l = true) : l.length ≤ 12 ∧ l.all qci = true := by
  unfold qd4 at h
  simpa using h
theorem qjA (n : Int) (x : qaj) (h : qci x = true) : qcp.f n x.f0 = some (n % x.f0) := by
  have := mod_ok n x.f0 ((qfz x).1 h).1 ((qfz x).1 h).2.1
  exact this
theorem qne (n : Int) (l : List qaj) (hm : l.length ≤ 9223372036854775807) (hl : l.all qci = true) : ∀ d i : Nat, i + d = l.length → Ev (fun k => qcu.l0 k n l l.length i) (qd3 (qfr n) (l.drop i) i)
  | 0, i, h => Ev.mk' 0 fun k _ => by
    simp only [qcu.l0]
    rw [if_neg (by omega), List.drop_eq_nil_of_le (by omega)]; rfl
  | d + 1, i, h => by
    obtain ⟨K, ih⟩ := qne n l hm hl d (i + 1) (by omega)
    dsimp only at ih
    refine Ev.mk' K fun k hk => ?_
    simp only [qcu.l0]
    rw [if_pos (by omega), if_pos (by omega), if_pos (by omega), qjA n _ (List.all_eq_true.mp hl _ (qm7 l i (by omega))), qic l i (by omega), Option.bind_some]
    rw [show wrap64 ((i : Int) + 1) = ((i + 1 : Nat) : Int) from qbf (by omega) (by omega), ih k hk]
    rw [qd3]
    by_cases hc : n % (qab l i).f0 = (qab l i).f1
    · rw [if_pos hc, if_pos (by simp [qfr, hc])]
    · rw [if_neg hc, if_neg (by simp [qfr, hc])]; rfl
theorem qrX (n : Int) (l : List qaj) (hm : l.length ≤ 9223372036854775807) (hl : l.all qci = true) : Ev (fun k => qcu.f k l n) (qd3 (qfr n) l 0) :=
  qne n l hm hl l.length 0 (by omega)
theorem qmU (n : Int) (l : List qaj) : decide (qd3 (qfr n) l 0 < 0) = left l n := by
  have h := qiJ (qfr n) l 0 (by omega)
  unfold left
  rw [← h]
  by_cases hc : 0 ≤ qd3 (qfr n) l 0
  · simp [hc, Int.not_lt.mpr hc]
  · simp [hc, Int.not_le.mp hc]
theorem qpt (n : Int) (l : List qaj) (hm : l.length ≤ 9223372036854775807) (hl : l.all qci = true) : Ev (fun k => qeO.f k l n) (left l n) := by
  obtain ⟨K, h⟩ := qrX n l hm hl
  refine ⟨K, fun k hk => ?_⟩
  simp only [qeO.f, h k hk, Option.bind_some, qmU]
theorem ql2 (n : Int) (l : List qaj) (hl : l.all qci = true) : qem.f l n = some (left l n) := by
  simp only [qem.f, qel.f, if_pos hl, Option.bind_some, qmU]
end Go.Proofs.YtbnmajedmajfoaaGreatDoor.P
namespace Go.Proofs.YtbnmajedmajfoaaGreatDoor.P
open Go.RowKit Go.Proofs.YtbnmajedmajfoaaGreatDoorW.qaG Go.Proofs.YtbnmajedmajfoaaGreatDoorW.PrintLast
set_option linter.unusedVariables false
set_option linter.unusedSimpArgs false
def sign (b : UInt8) : Bool := b == 111 || (b == 120 || b == 63)
def qdu (s : ByteArray) (n : Int) : Bool := decide (1 ≤ s.size) && (decide (s.size ≤ 48) && (s.data.toList.all sign && (decide (0 ≤ n) && decide (n ≤ 3))))
theorem qny (l : List UInt8) : (l.dropWhile ([111, 120, 63] : List UInt8).contains = []) ↔ l.all sign = true := by
  induction l with
  | nil => simp
  | cons x l ih =>
    have e : ([111, 120, 63] : List UInt8).contains x = sign x := by simp [sign, List.contains_cons]; rfl
    rw [List.dropWhile_cons, e, List.all_cons]
    cases hx : sign x
    · simp
    · simpa using ih
theorem drop_id (p : UInt8 → Bool) (l : List UInt8) (h : ∀ x, l.head? = some x → p x = false) : l.dropWhile p = l := by
  cases l with
  | nil => rfl
  | cons x l => rw [List.dropWhile_cons, h x rfl]; rfl
theorem qul (l : List UInt8) : (Lib.trimS l [111, 120, 63] = []) ↔ l.all sign = true := by
  have e : ∀ m : List UInt8, Lib.trimLeftS m [111, 120, 63] = [] ↔ m.all sign = true := fun m => qny m
  have e2 : ∀ m : List UInt8, Lib.trimRightS m [111, 120, 63] = (Lib.trimLeftS m.reverse [111, 120, 63]).reverse := fun m => rfl
  unfold Lib.trimS
  rw [e, e2, List.all_reverse]
  constructor
  · intro h
    have h2 := (e (Lib.trimLeftS l.reverse [111, 120, 63])).2 h
    have h3 : Lib.trimLeftS l.reverse [111, 120, 63] = [] := by
      cases hd : Lib.trimLeftS l.reverse [111, 120, 63] with
      | nil => rfl
      | cons x m =>
        exfalso
        have hx : ([111, 120, 63] : List UInt8).contains x = false := by
          have := List.head?_dropWhile_not (p := fun b => ([111, 120, 63] : List UInt8).contains b) (l := l.reverse)
          unfold Lib.trimLeftS at hd
          rw [hd] at this
          simpa using this
        rw [hd, List.all_cons] at h
        have e3 : ([111, 120, 63] : List UInt8).contains x = sign x := by simp [sign, List.contains_cons]; rfl
        rw [e3] at hx
        rw [hx] at h
        simp at h
    have := (e l.reverse).1 h3
    simpa using this
  · intro h
    have h3 := (e l.reverse).2 (by simpa using h)
    rw [h3]; rfl
theorem qcv (s : ByteArray) (n : Int) : qa7.f s n = some (qdu s n) := by
  unfold qa7.f qdu
  by_cases h1 : (s.size : Int) ≥ 1
  · by_cases h2 : (s.size : Int) ≤ 48
    · have e : qdY.f s (⟨#[111, 120, 63]⟩ : ByteArray) = some ⟨(Lib.trimS s.data.toList [111, 120, 63]).toArray⟩ := by
        unfold qdY.f; rw [if_pos ⟨by omega, rfl⟩]
      rw [if_pos h1, if_pos h2, e, qaS]
      have d1 : decide (1 ≤ s.size) = true := decide_eq_true (by omega)
      have d2 : decide (s.size ≤ 48) = true := decide_eq_true (by omega)
      rw [d1, d2, Bool.true_and, Bool.true_and]
      have e3 : (ByteArray.toList ⟨(Lib.trimS s.data.toList [111, 120, 63]).toArray⟩ = ([] : List UInt8)) ↔ s.data.toList.all sign = true := by
        rw [← qul, ByteArray.toList_eq]
      by_cases h3 : s.data.toList.all sign = true
      · rw [if_pos (e3.2 h3), h3, Bool.true_and]
        by_cases h4 : n ≥ 0
        · rw [if_pos h4, decide_eq_true (show 0 ≤ n by omega), Bool.true_and]
        · rw [if_neg h4, decide_eq_false (show ¬ 0 ≤ n by omega), Bool.false_and]
      · rw [if_neg (fun h => h3 (e3.1 h)), Bool.eq_false_iff.2 h3, Bool.false_and]
    · rw [if_pos h1, if_neg h2, decide_eq_false (show ¬ s.size ≤ 48 by omega), Bool.false_and, Bool.and_false]
  · rw [if_neg h1, decide_eq_false (show ¬ 1 ≤ s.size by omega), Bool.false_and]
theorem qsX (s : ByteArray) (i : Nat) (h : i < s.size) : (bt s i = 111 ∨ bt s i = 120 ∨ bt s i = 63) ↔ sign (s.data.toList[i]'(by simpa using h)) = true := by
  have e : bt s i = ((s[i]'h).toNat : Int) := (qea s (i : Int) h).symm
  have e2 : s.data.toList[i]'(by simpa using h) = s[i]'h := by simp; rfl
  rw [e2]
  generalize s[i]'h = b at e
  rw [e]
  simp only [sign, Bool.or_eq_true, beq_iff_eq]
  constructor
  · rintro (h | h | h)
    · left; exact UInt8.toNat_inj.mp (by simpa using (by omega : b.toNat = 111))
    · right; left; exact UInt8.toNat_inj.mp (by simpa using (by omega : b.toNat = 120))
    · right; right; exact UInt8.toNat_inj.mp (by simpa using (by omega : b.toNat = 63))
  · rintro (rfl | rfl | rfl) <;> simp
theorem qkf (s : ByteArray) (hm : s.size ≤ 48) : ∀ d i : Nat, i + d = s.size → Ev (fun k => qbI.l0 k s i) ((s.data.toList.drop i).all sign)
  | 0, i, h => Ev.mk' 0 fun k _ => by
    simp only [qbI.l0]
    rw [if_neg (by omega), List.drop_of_length_le (by simp; omega)]; rfl
  | d + 1, i, h => by
    obtain ⟨K, ih⟩ := qkf s hm d (i + 1) (by omega)
    dsimp only at ih
    have hi : i < s.data.toList.length := by simp; show i < s.size; omega
    have hb := qsX s i (by omega)
    refine Ev.mk' K fun k hk => ?_
    rw [List.drop_eq_getElem_cons hi, List.all_cons]
    simp only [qbI.l0]
    rw [if_pos (by omega), if_pos (by omega), qbf (by omega) (by omega), show ((i : Int) + 1) = ((i + 1 : Nat) : Int) by omega, ih k hk]
    by_cases h1 : bt s i = 111
    · rw [if_pos h1, hb.1 (.inl h1), Bool.true_and]
    · by_cases h2 : bt s i = 120
      · rw [if_neg h1, if_pos h2, hb.1 (.inr (.inl h2)), Bool.true_and]
      · by_cases h3 : bt s i = 63
        · rw [if_neg h1, if_neg h2, if_pos h3, hb.1 (.inr (.inr h3)), Bool.true_and]
        · have hn : sign (s.data.toList[i]'hi) = false := Bool.eq_false_iff.2 (fun h => by rcases hb.2 h with h | h | h <;> contradiction)
          rw [if_neg h1, if_neg h2, if_neg h3, hn, Bool.false_and]
theorem qfP (s : ByteArray) (n : Int) : Ev (fun k => qbl.f k s n) (qdu s n) := by
  unfold qdu
  by_cases h : 1 ≤ s.size ∧ s.size ≤ 48
  · obtain ⟨K, h3⟩ := qkf s h.2 s.size 0 (by omega)
    have h3 : ∀ k, K ≤ k → qbI.l0 k s 0 = some (s.data.toList.all sign) := fun k hk => by have := h3 k hk; rwa [List.drop_zero] at this
    refine ⟨K, fun k hk => ?_⟩
    have d1 : (decide ((1 : Int) ≤ (s.size : Int)) && decide ((s.size : Int) ≤ 48)) = true := by simp; omega
    simp only [qbl.f, qbI.f, qjZ, qaS, d1, if_true, h3 k hk]
    rw [decide_eq_true h.1, decide_eq_true h.2, Bool.true_and, Bool.true_and]
    cases s.data.toList.all sign <;> simp
  · refine ⟨0, fun k hk => ?_⟩
    have d1 : (decide ((1 : Int) ≤ (s.size : Int)) && decide ((s.size : Int) ≤ 48)) = false := by
      rw [Bool.and_eq_false_iff]; simp only [decide_eq_false_iff_not]; omega
    have d2 : (decide (1 ≤ s.size) && (decide (s.size ≤ 48) && (s.data.toList.all sign && (decide (0 ≤ n) && decide (n ≤ 3))))) = false := by
      rw [← Bool.and_assoc, Bool.and_eq_false_iff]; left
      rw [Bool.and_eq_false_iff]; simp only [decide_eq_false_iff_not]; omega
    simp only [qbl.f, qbI.f, qjZ, qaS, d1, Bool.false_eq_true, if_false, d2]
end Go.Proofs.YtbnmajedmajfoaaGreatDoor.P
namespace Go.Proofs.YtbnmajedmajfoaaGreatDoor.P
open Go.RowKit Go.Proofs.YtbnmajedmajfoaaGreatDoorW.qaG Go.Proofs.YtbnmajedmajfoaaGreatDoorW.PrintLast
set_option linter.unusedVariables false
set_option linter.unusedSimpArgs false
def qjj (s : ByteArray) (e t : Int) (pos : Nat) : Nat → Bool
  | 0 => true
  | d + 1 => !(bt s pos == 111 && (((pos : Int) + 1) % e == t)) && qjj s e t (pos + 1) d
def qfA (s : ByteArray) (e t : Int) : Nat → List qaj
  | 0 => []
  | d + 1 => (cond (qjj s e t 0 s.size) [(⟨e, t⟩ : qaj)] []) ++ qfA s e (t + 1) d
def allFit (s : ByteArray) (e : Int) : Nat → List qaj
  | 0 => []
  | d + 1 => qfA s e 0 e.toNat ++ allFit s (e + 1) d
def qeR (s : ByteArray) : List qaj := allFit s 2 9
theorem qgn (s : ByteArray) (e : Int) : ∀ d t, (qfA s e t d).length ≤ d
  | 0, t => by simp [qfA]
  | d + 1, t => by
    have := qgn s e d (t + 1)
    simp only [qfA, List.length_append]
    cases qjj s e t 0 s.size <;> simp <;> omega
theorem qje (s : ByteArray) : ∀ (d : Nat) (e : Int), e + d = 11 → (allFit s e d).length ≤ 11 * d
  | 0, e, h => by simp [allFit]
  | d + 1, e, h => by
    have := qje s d (e + 1) (by omega)
    have h2 := qgn s e e.toNat 0
    simp only [allFit, List.length_append]
    omega
theorem qe8 (s : ByteArray) : (qeR s).length ≤ 99 := qje s 9 2 (by omega)
theorem qo1 {s : ByteArray} {n : Int} (h : qdu s n = true) : s.data.toList.all sign = true := by
  unfold qdu at h; simp only [Bool.and_eq_true] at h; exact h.2.2.1
theorem qmg {s : ByteArray} (hs : s.data.toList.all sign = true) (i : Nat) (h : i < s.size) : bt s i = 111 ∨ bt s i = 120 ∨ bt s i = 63 :=
  (qsX s i h).2 (List.all_eq_true.1 hs _ (List.getElem_mem _))
theorem qpm (s : ByteArray) (hs : s.data.toList.all sign = true) (hz : s.size ≤ 48) (e t : Int) (h0 : 2 ≤ e) (h1 : e ≤ 10) (h2 : 0 ≤ t) (h3 : t < e) : ∀ d pos : Nat, pos + d = s.size → Ev (fun k => qb4.l0 k s e t pos) (qjj s e t pos d)
  | 0, pos, h => Ev.mk' 0 fun k _ => by
    simp only [qb4.l0, qjj]
    rw [if_neg (by omega)]
  | d + 1, pos, h => by
    obtain ⟨K, ih⟩ := qpm s hs hz e t h0 h1 h2 h3 d (pos + 1) (by omega)
    dsimp only at ih
    have hb := qmg hs pos (by omega)
    have hr := qjA ((pos : Int) + 1) ⟨e, t⟩ ((qfz _).2 ⟨h0, by show e ≤ 60; omega, h2, h3⟩)
    have hr : qcp.f ((pos : Int) + 1) e = some (((pos : Int) + 1) % e) := hr
    refine Ev.mk' K fun k hk => ?_
    simp only [qb4.l0, qjj]
    rw [if_pos (by omega), if_pos (by omega), qbf (by omega) (by omega), hr, qaS, ih k hk]
    by_cases c : bt s pos = 111
    · rw [if_pos c, beq_iff_eq.2 c, Bool.true_and]
      by_cases c2 : ((pos : Int) + 1) % e = t
      · rw [if_pos c2, beq_iff_eq.2 c2]; rfl
      · rw [if_neg c2, beq_eq_false_iff_ne.2 c2]; simp
    · rw [if_neg c, beq_eq_false_iff_ne.2 c]; simp
theorem qpl (s : ByteArray) (hs : s.data.toList.all sign = true) (hz : s.size ≤ 48) (e t : Int) (h0 : 2 ≤ e) (h1 : e ≤ 10) (h2 : 0 ≤ t) (h3 : t < e) : Ev (fun k => qb4.f k s e t) (qjj s e t 0 s.size) :=
  qpm s hs hz e t h0 h1 h2 h3 s.size 0 (by omega)
theorem qoy (s : ByteArray) (hs : s.data.toList.all sign = true) (hz : s.size ≤ 48) (e : Int) (h0 : 2 ≤ e) (h1 : e ≤ 10) (r : List qaj) : ∀ (d : Nat) (t : Int) (acc : List qaj), t + d = e → 0 ≤ t → acc.length + d ≤ 300 → Ev (fun k => qbA.l0 k s (acc ++ qfA s e t d) (e + 1)) r → Ev (fun k => qbA.l1 k s acc e t) r
  | 0, t, acc, h, h2, h3, ⟨K, hk⟩ => Ev.mk' K fun k hk' => by
    simp only [qfA, List.append_nil] at hk
    simp only [qbA.l1]
    rw [if_neg (by omega), qbf (by omega) (by omega), hk k hk']
  | d + 1, t, acc, h, h2, h3, hc => by
    obtain ⟨K1, hf⟩ := qpl s hs hz e t h0 h1 h2 (by omega)
    dsimp only at hf
    simp only [qfA] at hc
    cases c : qjj s e t 0 s.size with
    | true =>
      rw [c, cond_true, ← List.append_assoc] at hc
      rw [c] at hf
      obtain ⟨K, ih⟩ := qoy s hs hz e h0 h1 r d (t + 1) (acc ++ [⟨e, t⟩]) (by omega) (by omega) (by simp; omega) hc
      dsimp only at ih
      refine Ev.mk' (K + K1) fun k hk => ?_
      simp only [qbA.l1, hf k (by omega), qaS]
      rw [if_pos (by omega), if_pos trivial, if_pos (by omega), qbf (by omega) (by omega), ih k (by omega)]
    | false =>
      rw [c, cond_false, List.nil_append] at hc
      rw [c] at hf
      obtain ⟨K, ih⟩ := qoy s hs hz e h0 h1 r d (t + 1) acc (by omega) (by omega) (by omega) hc
      dsimp only at ih
      refine Ev.mk' (K + K1) fun k hk => ?_
      simp only [qbA.l1, hf k (by omega), qaS]
      rw [if_pos (by omega), if_neg (by decide), qbf (by omega) (by omega), ih k (by omega)]
theorem qqY (s : ByteArray) (hs : s.data.toList.all sign = true) (hz : s.size ≤ 48) : ∀ (d : Nat) (e : Int) (acc : List qaj), e + d = 11 → 2 ≤ e → acc.length + 11 * d ≤ 200 → Ev (fun k => qbA.l0 k s acc e) (acc ++ allFit s e d)
  | 0, e, acc, h, h2, h3 => Ev.mk' 0 fun k _ => by
    simp only [qbA.l0, allFit, List.append_nil]
    rw [if_neg (by omega)]
  | d + 1, e, acc, h, h2, h3 => by
    have hl := qgn s e e.toNat 0
    have ih := qqY s hs hz d (e + 1) (acc ++ qfA s e 0 e.toNat) (by omega) (by omega) (by rw [List.length_append]; omega)
    obtain ⟨K, h4⟩ := qoy s hs hz e h2 (by omega) _ e.toNat 0 acc (by omega) (by omega) (by omega) ih
    dsimp only at h4
    refine Ev.mk' K fun k hk => ?_
    simp only [qbA.l0, allFit]
    rw [if_pos (by omega), h4 k hk, List.append_assoc]
theorem qox (s : ByteArray) (hs : s.data.toList.all sign = true) (hz : s.size ≤ 48) : Ev (fun k => qbA.f k s) (qeR s) := by
  obtain ⟨K, h⟩ := qqY s hs hz 9 2 [] (by omega) (by omega) (by simp)
  exact ⟨K, fun k hk => h k hk⟩
theorem qim (s : ByteArray) (hz : s.size ≤ 48) (e t : Int) (h0 : 2 ≤ e) (h1 : e ≤ 10) (acc : List qaj) (hl : acc.length ≤ 300) (r : List qaj) : ∀ (d pos : Nat) (b : Bool), pos + d = s.size → Ev (fun k => qaW.l1 k s (acc ++ cond (b && qjj s e t pos d) [(⟨e, t⟩ : qaj)] []) e e (wrap64 (t + 1))) r → Ev (fun k => qaW.l2 k s acc e t b e t (s.size : Int) pos) r
  | 0, pos, b, h, ⟨K, hk⟩ => Ev.mk' K fun k hk' => by
    have hk := hk k hk'
    simp only [qjj, Bool.and_true] at hk
    simp only [qaW.l2]
    rw [if_neg (by omega)]
    cases b with
    | true => rw [cond_true] at hk; rw [if_pos rfl, if_pos (by omega)]; exact hk
    | false => rw [cond_false, List.append_nil] at hk; rw [if_neg (by decide)]; exact hk
  | d + 1, pos, b, h, hc => by
    simp only [qjj] at hc
    cases b with
    | false =>
      obtain ⟨K, ih⟩ := qim s hz e t h0 h1 acc hl r d (pos + 1) false (by omega) hc
      dsimp only at ih
      refine Ev.mk' K fun k hk => ?_
      simp only [qaW.l2]
      rw [if_pos (by omega), if_neg (by decide), qbf (by omega) (by omega)]
      exact ih k hk
    | true =>
      have hm : Int.tmod ((pos : Int) + 1) e = ((pos : Int) + 1) % e := Int.tmod_eq_emod_of_nonneg (by omega)
      rw [Bool.true_and] at hc
      by_cases c : bt s pos = 111
      · rw [beq_iff_eq.2 c, Bool.true_and] at hc
        obtain ⟨K, ih⟩ := qim s hz e t h0 h1 acc hl r d (pos + 1) (((pos : Int) + 1) % e != t) (by omega) hc
        dsimp only at ih
        refine Ev.mk' K fun k hk => ?_
        simp only [qaW.l2]
        rw [if_pos (by omega), if_pos (by first | rfl | trivial), if_pos (by omega), if_pos (by omega), if_pos c, if_neg (by omega), qbf (n := (pos : Int) + 1) (by omega) (by omega), hm]
        exact ih k hk
      · rw [beq_eq_false_iff_ne.2 c, Bool.false_and] at hc
        obtain ⟨K, ih⟩ := qim s hz e t h0 h1 acc hl r d (pos + 1) true (by omega) hc
        dsimp only at ih
        refine Ev.mk' K fun k hk => ?_
        simp only [qaW.l2]
        rw [if_pos (by omega), if_pos (by first | rfl | trivial), if_pos (by omega), if_pos (by omega), if_neg c, qbf (n := (pos : Int) + 1) (by omega) (by omega)]
        exact ih k hk
theorem qmW (s : ByteArray) (hz : s.size ≤ 48) (e : Int) (h0 : 2 ≤ e) (h1 : e ≤ 10) (r : List qaj) : ∀ (d : Nat) (t : Int) (acc : List qaj), t + d = e → 0 ≤ t → acc.length + d ≤ 300 → Ev (fun k => qaW.l0 k s (acc ++ qfA s e t d) (e + 1)) r → Ev (fun k => qaW.l1 k s acc e e t) r
  | 0, t, acc, h, h2, h3, ⟨K, hk⟩ => Ev.mk' K fun k hk' => by
    simp only [qfA, List.append_nil] at hk
    simp only [qaW.l1]
    rw [if_neg (by omega), qbf (by omega) (by omega), hk k hk']
  | d + 1, t, acc, h, h2, h3, hc => by
    simp only [qfA] at hc
    rw [← List.append_assoc] at hc
    have ih := qmW s hz e h0 h1 r d (t + 1) (acc ++ cond (qjj s e t 0 s.size) [(⟨e, t⟩ : qaj)] []) (by omega) (by omega) (by rw [List.length_append]; cases qjj s e t 0 s.size <;> simp <;> omega) hc
    obtain ⟨K, h4⟩ := qim s hz e t h0 h1 acc (by omega) r s.size 0 true (by omega) (by rw [Bool.true_and, qbf (by omega) (by omega)]; exact ih)
    dsimp only at h4
    refine Ev.mk' K fun k hk => ?_
    simp only [qaW.l1]
    rw [if_pos (by omega)]
    exact h4 k hk
theorem qmV (s : ByteArray) (hz : s.size ≤ 48) : ∀ (d : Nat) (e : Int) (acc : List qaj), e + d = 11 → 2 ≤ e → acc.length + 11 * d ≤ 200 → Ev (fun k => qaW.l0 k s acc e) (acc ++ allFit s e d)
  | 0, e, acc, h, h2, h3 => Ev.mk' 0 fun k _ => by
    simp only [qaW.l0, allFit, List.append_nil]
    rw [if_neg (by omega)]
  | d + 1, e, acc, h, h2, h3 => by
    have hl := qgn s e e.toNat 0
    have ih := qmV s hz d (e + 1) (acc ++ qfA s e 0 e.toNat) (by omega) (by omega) (by rw [List.length_append]; omega)
    obtain ⟨K, h4⟩ := qmW s hz e h2 (by omega) _ e.toNat 0 acc (by omega) (by omega) (by omega) ih
    dsimp only at h4
    refine Ev.mk' K fun k hk => ?_
    simp only [qaW.l0, allFit]
    rw [if_pos (by omega), h4 k hk, List.append_assoc]
theorem qjK (s : ByteArray) (hz : s.size ≤ 48) : Ev (fun k => qaW.f k s) (qeR s) := by
  obtain ⟨K, h⟩ := qmV s hz 9 2 [] (by omega) (by omega) (by simp)
  exact ⟨K, fun k hk => h k hk⟩
end Go.Proofs.YtbnmajedmajfoaaGreatDoor.P
namespace Go.Proofs.YtbnmajedmajfoaaGreatDoor.P
open Go.RowKit Go.Proofs.YtbnmajedmajfoaaGreatDoorW.qaG Go.Proofs.YtbnmajedmajfoaaGreatDoorW.PrintLast
set_option linter.unusedVariables false
set_option linter.unusedSimpArgs false
def qth (s : ByteArray) (l : List qaj) (pos : Nat) : Nat → Bool
  | 0 => true
  | d + 1 => !(bt s pos == 120 && left l ((pos : Int) + 1)) && qth s l (pos + 1) d
def agD (s : ByteArray) (l : List qaj) (pos : Nat) : Nat → Bool
  | 0 => true
  | d + 1 => !(bt s pos != 63 && (left l ((pos : Int) + 1) != (bt s pos == 111))) && agD s l (pos + 1) d
theorem qsR {α : Type} (p q : α → Bool) : ∀ l : List α, l.all (fun x => p x && q x) = (l.all p && l.all q)
  | [] => rfl
  | x :: l => by
    simp only [List.all_cons, qsR p q l]
    cases p x <;> cases q x <;> cases l.all p <;> cases l.all q <;> rfl
theorem left_all (l : List qaj) (n : Int) : left l n = l.all (fun r => !qfr n r) := by
  unfold left
  induction l with
  | nil => rfl
  | cons x l ih => rw [List.any_cons, List.all_cons, ← ih]; cases qfr n x <;> simp
theorem qsQ (s : ByteArray) (hs : s.data.toList.all sign = true) (l : List qaj) : ∀ d pos : Nat, pos + d = s.size → agD s l pos d = (l.all (fun r => qjj s r.f0 r.f1 pos d) && qth s l pos d)
  | 0, pos, h => by
    have e : (fun r : qaj => qjj s r.f0 r.f1 pos 0) = fun _ => true := rfl
    rw [e]; simp [agD, qth]
  | d + 1, pos, h => by
    have ih := qsQ s hs l d (pos + 1) (by omega)
    simp only [agD, qth, qjj]
    rw [qsR (fun r : qaj => !(bt s pos == 111 && ((pos : Int) + 1) % r.f0 == r.f1)) (fun r => qjj s r.f0 r.f1 (pos + 1) d), ih]
    rcases qmg hs pos (by omega) with hb | hb | hb <;> rw [hb]
    · have e : l.all (fun r : qaj => !((111 : Int) == 111 && ((pos : Int) + 1) % r.f0 == r.f1)) = left l ((pos : Int) + 1) := (left_all l _).symm
      rw [e]
      generalize left l ((pos : Int) + 1) = x
      generalize l.all (fun r => qjj s r.f0 r.f1 (pos + 1) d) = y
      generalize qth s l (pos + 1) d = z
      cases x <;> cases y <;> cases z <;> rfl
    · have e : l.all (fun r : qaj => !((120 : Int) == 111 && ((pos : Int) + 1) % r.f0 == r.f1)) = true := List.all_eq_true.2 fun _ _ => rfl
      rw [e]
      generalize left l ((pos : Int) + 1) = x
      generalize l.all (fun r => qjj s r.f0 r.f1 (pos + 1) d) = y
      generalize qth s l (pos + 1) d = z
      cases x <;> cases y <;> cases z <;> rfl
    · have e : l.all (fun r : qaj => !((63 : Int) == 111 && ((pos : Int) + 1) % r.f0 == r.f1)) = true := List.all_eq_true.2 fun _ _ => rfl
      rw [e]
      generalize left l ((pos : Int) + 1) = x
      generalize l.all (fun r => qjj s r.f0 r.f1 (pos + 1) d) = y
      generalize qth s l (pos + 1) d = z
      cases x <;> cases y <;> cases z <;> rfl
theorem qld (s : ByteArray) (hs : s.data.toList.all sign = true) (hz : s.size ≤ 48) (l : List qaj) (hl : l.all qci = true) : ∀ d pos : Nat, pos + d = s.size → Ev (fun k => qbr.l0 k s l (s.size : Int) pos) (agD s l pos d)
  | 0, pos, h => Ev.mk' 0 fun k _ => by
    simp only [qbr.l0, agD]
    rw [if_neg (by omega)]
  | d + 1, pos, h => by
    obtain ⟨K, ih⟩ := qld s hs hz l hl d (pos + 1) (by omega)
    dsimp only at ih
    refine Ev.mk' K fun k hk => ?_
    have ih : qbr.l0 k s l (s.size : Int) ((pos : Int) + 1) = some (agD s l (pos + 1) d) := ih k hk
    simp only [qbr.l0, agD, ql2 _ l hl, qaS]
    rw [if_pos (by omega), if_pos (by omega), if_pos (by omega), qbf (by omega) (by omega), ih]
    by_cases c : bt s pos = 63
    · rw [if_pos c, c]; rfl
    · rw [if_neg c, bne_iff_ne.2 c, Bool.true_and]
      cases (left l ((pos : Int) + 1) != (bt s pos == 111)) <;> simp
theorem qi5 (s : ByteArray) (hs : s.data.toList.all sign = true) (hz : s.size ≤ 48) (l : List qaj) (hm : l.length ≤ 12) (hl : l.all qci = true) : ∀ d pos : Nat, pos + d = s.size → Ev (fun k => qbO.l0 k s l pos) (qth s l pos d)
  | 0, pos, h => Ev.mk' 0 fun k _ => by
    simp only [qbO.l0, qth]
    rw [if_neg (by omega)]
  | d + 1, pos, h => by
    obtain ⟨K, ih⟩ := qi5 s hs hz l hm hl d (pos + 1) (by omega)
    dsimp only at ih
    obtain ⟨K1, h3⟩ := qpt ((pos : Int) + 1) l (by omega) hl
    dsimp only at h3
    have hb := qmg hs pos (by omega)
    refine Ev.mk' (K + K1) fun k hk => ?_
    simp only [qbO.l0, qth]
    rw [if_pos (by omega), if_pos (by omega), qbf (by omega) (by omega), h3 k (by omega), qaS, ih k (by omega)]
    by_cases c : bt s pos = 120
    · rw [if_pos c, c]
      cases left l ((pos : Int) + 1) <;> simp
    · rw [if_neg c, beq_eq_false_iff_ne.2 c, Bool.false_and]; rfl
end Go.Proofs.YtbnmajedmajfoaaGreatDoor.P
namespace Go.Proofs.YtbnmajedmajfoaaGreatDoor.P
open Go.RowKit Go.Proofs.YtbnmajedmajfoaaGreatDoorW.qaG Go.Proofs.YtbnmajedmajfoaaGreatDoorW.PrintLast
set_option linter.unusedVariables false
set_option linter.unusedSimpArgs false
def qpE : Nat → List qaj → List (List qaj)
  | 0, _ => [[]]
  | _ + 1, [] => []
  | n + 1, r :: t => (qpE n t).map (fun l => r :: l) ++ qpE (n + 1) t
theorem qkD : ∀ (n : Nat) (fit l : List qaj), l ∈ qpE n fit → l.length = n ∧ ∀ r ∈ l, r ∈ fit
  | 0, fit, l, h => by
    simp only [qpE, List.mem_singleton] at h
    subst h; simp
  | n + 1, [], l, h => by simp [qpE] at h
  | n + 1, x :: t, l, h => by
    simp only [qpE, List.mem_append, List.mem_map] at h
    rcases h with ⟨l', h', rfl⟩ | h
    · have ih := qkD n t l' h'
      refine ⟨by simp [ih.1], fun r hr => ?_⟩
      rcases List.mem_cons.1 hr with hr | hr
      · rw [hr]; exact List.mem_cons_self
      · exact List.mem_cons_of_mem _ (ih.2 r hr)
    · have ih := qkD (n + 1) t l h
      exact ⟨ih.1, fun r hr => List.mem_cons_of_mem _ (ih.2 r hr)⟩
def res (P : List qaj → Bool) (n : Nat) (out : List (List qaj)) (list : List qaj) (m : Nat) (fit : List qaj) : List (List qaj) := (out ++ (((qpE m fit).map (fun l => list ++ l)).filter P)).take n
theorem take_app {α : Type} (A B : List α) (n : Nat) : (A.take n ++ B).take n = (A ++ B).take n := by
  rw [List.take_append, List.take_append, List.take_take, Nat.min_self, List.length_take]
  congr 2
  omega
theorem qq4 (P : List qaj → Bool) (n : Nat) (out : List (List qaj)) (list : List qaj) (m : Nat) (fit : List qaj) (h : out.length = n) : res P n out list m fit = out := by
  unfold res
  rw [List.take_append, List.take_of_length_le (by omega)]
  simp [h]
theorem qt7 (P : List qaj → Bool) (n : Nat) (out : List (List qaj)) (list : List qaj) (m : Nat) (h : out.length ≤ n) : res P n out list (m + 1) [] = out := by
  unfold res
  simp [qpE, List.take_of_length_le h]
theorem qq5 (P : List qaj → Bool) (n : Nat) (out : List (List qaj)) (list : List qaj) (m : Nat) (r : qaj) (t : List qaj) : res P n (res P n out (list ++ [r]) m t) list (m + 1) t = res P n out list (m + 1) (r :: t) := by
  unfold res
  rw [take_app]
  simp only [qpE, List.map_append, List.filter_append, List.map_map, List.append_assoc]
  congr 4
theorem qnc (P : List qaj → Bool) (n : Nat) (out : List (List qaj)) (list : List qaj) (m : Nat) (fit : List qaj) : (res P n out list m fit).length ≤ n := by
  unfold res
  rw [List.length_take]; omega
theorem qq6 (P : List qaj → Bool) (n : Nat) (out : List (List qaj)) (list fit : List qaj) (h : out.length < n) : res P n out list 0 fit = if P list = true then out ++ [list] else out := by
  unfold res
  simp only [qpE, List.map_cons, List.map_nil, List.append_nil]
  by_cases c : P list = true
  · rw [if_pos c, List.filter_cons, if_pos c, List.filter_nil, List.take_of_length_le (by simp; omega)]
  · rw [if_neg c, List.filter_cons, if_neg c, List.filter_nil, List.append_nil, List.take_of_length_le (by omega)]
def agB (s : ByteArray) (l : List qaj) : Bool := agD s l 0 s.size
def cvB (s : ByteArray) (l : List qaj) : Bool := qth s l 0 s.size
theorem qqH (l : List qaj) (r : qaj) (h : l.all qci = true) (hr : qci r = true) : (l ++ [r]).all qci = true := by simp [h, hr]
theorem qqT (s : ByteArray) (hs : s.data.toList.all sign = true) (hz : s.size ≤ 48) (F : List qaj) (R most : Nat) (hR : R ≤ 3) (hM : most ≤ 301) (i : Nat)
    (hl0 : ∀ (m : Nat) (list : List qaj) (out : List (List qaj)), list.length + (m + 1) = R → list.all qci = true → out.length ≤ most → Ev (fun k => qbb.l0 k s R most F list out (i : Int)) (res (agB s) most out list (m + 1) (F.drop i))) :
    ∀ (m : Nat) (list : List qaj) (out : List (List qaj)), list.length + m = R → list.all qci = true → out.length ≤ most → Ev (fun k => qbb.f k s R most F list (i : Int) out) (res (agB s) most out list m (F.drop i)) := by
  intro m list out h1 h2 h3
  by_cases c : out.length = most
  · rw [qq4 _ _ _ _ _ _ c]
    refine Ev.mk' 0 fun k hk => ?_
    simp only [qbb.f]
    rw [if_pos (by omega)]
  · cases m with
    | zero =>
      obtain ⟨K, ha⟩ := qld s hs hz list h2 s.size 0 (by omega)
      have ha : ∀ k, K ≤ k → qbr.f k s list = some (agB s list) := ha
      rw [qq6 _ _ _ _ _ (by omega)]
      refine Ev.mk' K fun k hk => ?_
      simp only [qbb.f, ha k hk, qaS]
      rw [if_neg (by omega), if_pos (by omega)]
      by_cases c2 : agB s list = true
      · rw [if_pos c2, if_pos c2, if_pos (by omega)]
      · rw [if_neg c2, if_neg c2]
    | succ m =>
      obtain ⟨K, hk⟩ := hl0 m list out h1 h2 h3
      refine Ev.mk' K fun k hk' => ?_
      simp only [qbb.f]
      rw [if_neg (by omega), if_neg (by omega)]
      exact hk k hk'
theorem qpa (s : ByteArray) (hs : s.data.toList.all sign = true) (hz : s.size ≤ 48) (F : List qaj) (hF : F.all qci = true) (hL : F.length ≤ 99) (R most : Nat) (hR : R ≤ 3) (hM : most ≤ 301) :
    ∀ (d i : Nat), i + d = F.length → ∀ (m : Nat) (list : List qaj) (out : List (List qaj)), list.length + (m + 1) = R → list.all qci = true → out.length ≤ most → Ev (fun k => qbb.l0 k s R most F list out (i : Int)) (res (agB s) most out list (m + 1) (F.drop i))
  | 0, i, h, m, list, out, h1, h2, h3 => by
    rw [List.drop_of_length_le (by omega), qt7 _ _ _ _ _ h3]
    refine Ev.mk' 0 fun k hk => ?_
    simp only [qbb.l0]
    rw [if_neg (by omega)]
  | d + 1, i, h, m, list, out, h1, h2, h3 => by
    have IH := qpa s hs hz F hF hL R most hR hM d (i + 1) (by omega)
    have hr : qci (qab F i) = true := List.all_eq_true.1 hF _ (qm7 F i (by omega))
    obtain ⟨K1, e1⟩ := qqT s hs hz F R most hR hM (i + 1) IH m (list ++ [qab F i]) out (by simp; omega) (qqH _ _ h2 hr) h3
    obtain ⟨K2, e2⟩ := IH m list (res (agB s) most out (list ++ [qab F i]) m (F.drop (i + 1))) h1 h2 (qnc _ _ _ _ _ _)
    dsimp only at e1 e2
    rw [qln F i (by omega), ← qq5]
    refine Ev.mk' (K1 + K2) fun k hk => ?_
    simp only [qbb.l0]
    rw [if_pos (by omega), if_pos (by omega), if_pos (by omega), show wrap64 ((i : Int) + 1) = ((i + 1 : Nat) : Int) from qbf (by omega) (by omega), e1 k (by omega), qaS, e2 k (by omega)]
theorem qpu (s : ByteArray) (hs : s.data.toList.all sign = true) (hz : s.size ≤ 48) (fit : List qaj)
    (hl0 : ∀ (m : Nat) (rules : List qaj) (out : List (List qaj)), rules.length + (m + 1) ≤ 3 → rules.all qci = true → out.length ≤ 301 → Ev (fun k => qbX.l0 k s fit rules ((m + 1 : Nat) : Int) out 0) (res (cvB s) 301 out rules (m + 1) fit)) :
    ∀ (m : Nat) (rules : List qaj) (out : List (List qaj)), rules.length + m ≤ 3 → rules.all qci = true → out.length ≤ 300 → Ev (fun k => qbX.f k s fit rules (m : Int) out) (res (cvB s) 301 out rules m fit) := by
  intro m rules out h1 h2 h3
  cases m with
  | zero =>
    obtain ⟨K, ha⟩ := qi5 s hs hz rules (by omega) h2 s.size 0 (by omega)
    have ha : ∀ k, K ≤ k → qbO.f k s rules = some (cvB s rules) := ha
    rw [qq6 _ _ _ _ _ (by omega)]
    refine Ev.mk' K fun k hk => ?_
    simp only [qbX.f, ha k hk, qaS]
    rw [if_pos (by omega)]
    by_cases c2 : cvB s rules = true
    · rw [if_pos c2, if_pos c2, if_pos (by omega), if_pos (by omega)]
    · rw [if_neg c2, if_neg c2]
  | succ m =>
    obtain ⟨K, hk⟩ := hl0 m rules out h1 h2 (by omega)
    refine Ev.mk' K fun k hk' => ?_
    simp only [qbX.f]
    rw [if_neg (by omega)]
    exact hk k hk'
theorem qj5 (s : ByteArray) (hs : s.data.toList.all sign = true) (hz : s.size ≤ 48) :
    ∀ (d : Nat) (fit : List qaj) (i : Nat), fit.all qci = true → fit.length ≤ 99 → i + d = fit.length → ∀ (m : Nat) (rules : List qaj) (out : List (List qaj)), rules.length + (m + 1) ≤ 3 → rules.all qci = true → out.length ≤ 301 → Ev (fun k => qbX.l0 k s fit rules ((m + 1 : Nat) : Int) out i) (res (cvB s) 301 out rules (m + 1) (fit.drop i))
  | 0, fit, i, hF, hL, h, m, rules, out, h1, h2, h3 => by
    rw [List.drop_of_length_le (by omega), qt7 _ _ _ _ _ h3]
    refine Ev.mk' 0 fun k hk => ?_
    simp only [qbX.l0]
    rw [if_neg (by omega)]
  | d + 1, fit, i, hF, hL, h, m, rules, out, h1, h2, h3 => by
    by_cases c : 300 < out.length
    · rw [qq4 _ _ _ _ _ _ (by omega)]
      refine Ev.mk' 0 fun k hk => ?_
      simp only [qbX.l0]
      rw [if_pos (by omega), if_pos c]
    · have hr : qci (qab fit i) = true := List.all_eq_true.1 hF _ (qm7 fit i (by omega))
      have hFd : (fit.drop (i + 1)).all qci = true := List.all_eq_true.2 fun x hx => List.all_eq_true.1 hF x (List.mem_of_mem_drop hx)
      have hdl : (fit.drop (i + 1)).length = d := by rw [List.length_drop]; omega
      obtain ⟨K1, e1⟩ := qpu s hs hz (fit.drop (i + 1)) (fun m' rules' out' g1 g2 g3 => by have := qj5 s hs hz d (fit.drop (i + 1)) 0 hFd (by omega) (by omega) m' rules' out' g1 g2 g3; rwa [List.drop_zero] at this) m (rules ++ [qab fit i]) out (by simp; omega) (qqH _ _ h2 hr) (by omega)
      obtain ⟨K2, e2⟩ := qj5 s hs hz d fit (i + 1) hF hL (by omega) m rules (res (cvB s) 301 out (rules ++ [qab fit i]) m (fit.drop (i + 1))) h1 h2 (qnc _ _ _ _ _ _)
      dsimp only at e1 e2
      rw [qln fit i (by omega), ← qq5]
      refine Ev.mk' (K1 + K2) fun k hk => ?_
      simp only [qbX.l0]
      rw [if_pos (by omega), if_neg c, if_pos (by omega), show wrap64 (((m + 1 : Nat) : Int) - 1) = (m : Int) by rw [qbf (by omega) (by omega)]; omega, e1 k (by omega), qaS, e2 k (by omega)]
theorem qnd (s : ByteArray) (e : Int) (h0 : 2 ≤ e) (h1 : e ≤ 10) : ∀ (d : Nat) (t : Int), 0 ≤ t → t + d = e → ∀ r ∈ qfA s e t d, qci r = true ∧ qjj s r.f0 r.f1 0 s.size = true
  | 0, t, _, _, r, h => by simp [qfA] at h
  | d + 1, t, ht, hd, r, h => by
    simp only [qfA, List.mem_append] at h
    rcases h with h | h
    · cases c : qjj s e t 0 s.size with
      | true =>
        rw [c, cond_true, List.mem_singleton] at h
        subst h
        exact ⟨(qfz _).2 ⟨h0, by show e ≤ 60; omega, ht, by show t < e; omega⟩, c⟩
      | false => rw [c] at h; simp at h
    · exact qnd s e h0 h1 d (t + 1) (by omega) (by omega) r h
theorem qmO (s : ByteArray) : ∀ (d : Nat) (e : Int), 2 ≤ e → e + d = 11 → ∀ r ∈ allFit s e d, qci r = true ∧ qjj s r.f0 r.f1 0 s.size = true
  | 0, e, _, _, r, h => by simp [allFit] at h
  | d + 1, e, h0, hd, r, h => by
    simp only [allFit, List.mem_append] at h
    rcases h with h | h
    · exact qnd s e h0 (by omega) e.toNat 0 (by omega) (by omega) r h
    · exact qmO s d (e + 1) (by omega) (by omega) r h
theorem qgu (s : ByteArray) : ∀ r ∈ qeR s, qci r = true ∧ qjj s r.f0 r.f1 0 s.size = true := qmO s 9 2 (by omega) (by omega)
theorem qqP (s : ByteArray) : (qeR s).all qci = true := List.all_eq_true.2 fun r h => (qgu s r h).1
def answers (s : ByteArray) (R : Nat) : List (List qaj) := (qpE R (qeR s)).filter (agB s)
theorem ql8 (L : List (List qaj)) : L.map (fun l => ([] : List qaj) ++ l) = L := by
  induction L with
  | nil => rfl
  | cons x t ih => rw [List.map_cons, ih]; rfl
theorem qpY (s : ByteArray) (hs : s.data.toList.all sign = true) (R : Nat) : (qpE R (qeR s)).filter (cvB s) = answers s R := by
  unfold answers
  refine List.filter_congr fun l hl => ?_
  have hm := qkD R (qeR s) l hl
  unfold agB cvB
  rw [qsQ s hs l s.size 0 (by omega), List.all_eq_true.2 (fun r hr => (qgu s r (hm.2 r hr)).2), Bool.true_and]
theorem qiB (s : ByteArray) (hs : s.data.toList.all sign = true) (hz : s.size ≤ 48) (R most : Nat) (hR : R ≤ 3) (hM : most ≤ 301) : Ev (fun k => qbZ.f k s R most) ((answers s R).take most) := by
  obtain ⟨K1, h1⟩ := qjK s hz
  obtain ⟨K2, h2⟩ := qqT s hs hz (qeR s) R most hR hM 0 (qpa s hs hz (qeR s) (qqP s) (qe8 s) R most hR hM (qeR s).length 0 (by omega)) R [] [] (by simp) rfl (by simp)
  dsimp only at h1 h2
  refine ⟨K1 + K2, fun k hk => ?_⟩
  have h2 : qbb.f k s R most (qeR s) [] 0 [] = _ := h2 k (by omega)
  simp only [qbZ.f, h1 k (by omega), qaS, h2]
  unfold res answers
  rw [List.drop_zero, ql8]; rfl
theorem pzAll_ev (s : ByteArray) (hs : s.data.toList.all sign = true) (hz : s.size ≤ 48) (R : Nat) (hR : R ≤ 3) : Ev (fun k => qbX.f k s (qeR s) [] (R : Int) []) ((answers s R).take 301) := by
  have h := qpu s hs hz (qeR s) (fun m rules out g1 g2 g3 => by have := qj5 s hs hz (qeR s).length (qeR s) 0 (qqP s) (qe8 s) (by omega) m rules out g1 g2 g3; rwa [List.drop_zero] at this) R [] [] (by simp; omega) rfl (by simp)
  unfold res at h
  rw [ql8, qpY s hs] at h
  exact h
end Go.Proofs.YtbnmajedmajfoaaGreatDoor.P
namespace Go.Proofs.YtbnmajedmajfoaaGreatDoor.P
open Go.RowKit Go.Proofs.YtbnmajedmajfoaaGreatDoorW.qaG Go.Proofs.YtbnmajedmajfoaaGreatDoorW.PrintLast
set_option linter.unusedVariables false
set_option linter.unusedSimpArgs false
theorem qez {s : ByteArray} {n : Int} (h : qdu s n = true) : 1 ≤ s.size ∧ s.size ≤ 48 ∧ s.data.toList.all sign = true ∧ 0 ≤ n ∧ n ≤ 3 := by
  unfold qdu at h
  simp only [Bool.and_eq_true, decide_eq_true_eq] at h
  exact ⟨h.1, h.2.1, h.2.2.1, h.2.2.2.1, h.2.2.2.2⟩
def qhh (s : ByteArray) (n : Int) : List (List qaj) × Bool := if qdu s n = true ∧ (answers s n.toNat).length ≤ 300 then (answers s n.toNat, true) else ([], false)
theorem qpX (s : ByteArray) (n : Int) : (qhh s n).1.length ≤ 300 := by
  unfold qhh
  split
  · next h => exact h.2
  · simp
theorem qle (s : ByteArray) (R : Nat) : ∀ l ∈ answers s R, l.length = R ∧ ∀ r ∈ l, r ∈ qeR s := fun l hl => qkD R (qeR s) l ((List.mem_filter.1 hl).1)
theorem qkA (s : ByteArray) (n : Int) : ∀ l ∈ (qhh s n).1, l.length ≤ 3 := by
  intro l hl
  unfold qhh at hl
  split at hl
  · next h =>
    have := (qle s n.toNat l hl).1
    have := qez h.1
    omega
  · simp at hl
theorem qoC {α : Type} (L : List α) : (((L.take 301).length : Int) > 300) ↔ ¬ L.length ≤ 300 := by rw [List.length_take]; omega
theorem take301' {α : Type} (L : List α) (h : L.length ≤ 300) : L.take 301 = L := List.take_of_length_le (by omega)
theorem qib (s : ByteArray) (n : Int) : Ev (fun k => qba.f k s n) (qhh s n) := by
  obtain ⟨K1, h1⟩ := qfP s n
  dsimp only at h1
  unfold qhh
  by_cases hg : qdu s n = true
  · obtain ⟨g1, g2, g3, g4, g5⟩ := qez hg
    obtain ⟨K2, h2⟩ := qox s g3 g2
    obtain ⟨K3, h3⟩ := pzAll_ev s g3 g2 n.toNat (by omega)
    rw [show ((n.toNat : Nat) : Int) = n by omega] at h3
    dsimp only at h2 h3
    refine ⟨K1 + K2 + K3, fun k hk => ?_⟩
    simp (disch := omega) only [qba.f, h1, h2, h3, qaS, hg, if_true]
    by_cases c : (answers s n.toNat).length ≤ 300
    · rw [if_neg (fun h => (qoC _).1 h c), if_pos ⟨trivial, c⟩, take301' _ c]
    · rw [if_pos ((qoC _).2 c), if_neg (fun h => c h.2)]
  · have hf := Bool.eq_false_iff.2 hg
    rw [if_neg (fun h => hg h.1)]
    refine ⟨K1, fun k hk => ?_⟩
    simp only [qba.f, h1 k hk, qaS, hf, Bool.false_eq_true, if_false]
theorem qh0 (s : ByteArray) (n : Int) : Ev (fun k => qbJ.f k s n) (qhh s n) := by
  unfold qhh
  by_cases hg : qdu s n = true
  · obtain ⟨g1, g2, g3, g4, g5⟩ := qez hg
    obtain ⟨K3, h3⟩ := qiB s g3 g2 n.toNat 301 (by omega) (by omega)
    rw [show ((n.toNat : Nat) : Int) = n by omega] at h3
    have h3 : ∀ k, K3 ≤ k → qbZ.f k s n 301 = _ := h3
    refine ⟨K3, fun k hk => ?_⟩
    simp (disch := omega) only [qbJ.f, qcv, h3, qaS, hg, if_true]
    by_cases c : (answers s n.toNat).length ≤ 300
    · rw [if_neg (fun h => (qoC _).1 h c), if_pos ⟨trivial, c⟩, take301' _ c]
    · rw [if_pos ((qoC _).2 c), if_neg (fun h => c h.2)]
  · have hf := Bool.eq_false_iff.2 hg
    rw [if_neg (fun h => hg h.1)]
    refine ⟨0, fun k hk => ?_⟩
    simp only [qbJ.f, qcv, qaS, hf, Bool.false_eq_true, if_false]
end Go.Proofs.YtbnmajedmajfoaaGreatDoor.P
namespace Go.Proofs.YtbnmajedmajfoaaGreatDoor.P
open Go.RowKit Go.Proofs.YtbnmajedmajfoaaGreatDoorW.qaG Go.Proofs.YtbnmajedmajfoaaGreatDoorW.PrintLast
set_option linter.unusedVariables false
set_option linter.unusedSimpArgs false
def qhC (a b : qaj) : Bool := decide (a.f0 < b.f0) || (a.f0 == b.f0 && decide (a.f1 < b.f1))
theorem qt2 (a b : qaj) : qfb.f a.f0 a.f1 b.f0 b.f1 = some (qhC a b) := by
  unfold qfb.f qhC
  by_cases h : a.f0 < b.f0
  · simp [h]
  · by_cases h2 : a.f0 = b.f0
    · simp [h2]
    · simp [h, h2]
theorem cmpC_ok (a b : Int) : qcV.f a b = some (if a < b then -1 else if b < a then 1 else 0) := by
  simp only [qcV.f, qbU.f, qaS, bne_self_eq_false, Bool.false_eq_true, if_false, gt_iff_lt]
  by_cases h : a < b
  · simp [h]
  · by_cases h2 : b < a <;> simp [h, h2]
theorem cmpOr_ev (c1 c2 : Int) (k : Nat) : qdf.f (k + 4) [c1, c2] = some (if c1 = 0 then c2 else c1) := by
  have r0 : rd [c1, c2] 0 = c1 := rfl
  have r1 : rd [c1, c2] 1 = c2 := rfl
  have w0 : wrap64 (0 + 1) = 1 := qbf (by decide) (by decide)
  have w1 : wrap64 (1 + 1) = 2 := qbf (by decide) (by decide)
  simp only [qdf.f, qdf.l0, List.length_cons, List.length_nil, r0, w0, r1, w1]
  by_cases h : c1 = 0
  · by_cases h2 : c2 = 0 <;> simp [h, h2]
  · simp [h]
theorem qlm (a b : qaj) : ∃ v, (v ≥ 0 ↔ qhC a b = false) ∧ ∀ k, qbt.f (k + 4) a.f0 a.f1 b.f0 b.f1 = some v := by
  refine ⟨_, ?_, fun k => by simp only [qbt.f, cmpC_ok, qaS, cmpOr_ev]; rfl⟩
  unfold qhC
  by_cases h : a.f0 < b.f0
  · simp [h]
  · by_cases h2 : b.f0 < a.f0
    · simp [h, h2]; omega
    · have e : a.f0 = b.f0 := by omega
      by_cases h3 : a.f1 < b.f1
      · simp [e, h3]
      · by_cases h4 : b.f1 < a.f1
        · simp [e, h3, h4] <;> omega
        · simp [e, h3, h4] <;> omega
def okI (l : List qaj) (i : Nat) : Nat → Bool
  | 0 => true
  | d + 1 => (decide ((qab l i).f0 ≤ 10) && (decide (i = 0) || qhC (qab l ((i : Int) - 1)) (qab l i))) && okI l (i + 1) d
def fitAll (s : ByteArray) (l : List qaj) (i : Nat) : Nat → Bool
  | 0 => true
  | d + 1 => qjj s (qab l i).f0 (qab l i).f1 0 s.size && fitAll s l (i + 1) d
theorem qoT (s : ByteArray) (l : List qaj) : ∀ d i : Nat, i + d = l.length → fitAll s l i d = (l.drop i).all (fun r => qjj s r.f0 r.f1 0 s.size)
  | 0, i, h => by rw [List.drop_of_length_le (by omega)]; rfl
  | d + 1, i, h => by
    rw [qic l i (by omega), List.all_cons, ← qoT s l d (i + 1) (by omega)]; rfl
theorem rd_ok (l : List qaj) (hl : l.all qci = true) (i : Nat) (h : i < l.length) : qci (qab l i) = true := by
  have e := qic l i h
  have : qab l i ∈ l.drop i := by rw [e]; exact List.mem_cons_self
  exact List.all_eq_true.1 hl _ (List.mem_of_mem_drop this)
theorem qm4 (s : ByteArray) (n : Int) (l : List qaj) (hm : l.length ≤ 12) (ag : Bool) (hag : Ev (fun k => qbr.f k s l) ag) : ∀ d i : Nat, i + d = l.length → Ev (fun k => qaK.l0 k l l (l.length : Int) i s n) (okI l i d && (decide ((l.length : Int) = n) && ag), true)
  | 0, i, h => by
    obtain ⟨K, h1⟩ := hag
    dsimp only at h1
    refine Ev.mk' K fun k hk => ?_
    simp only [qaK.l0, okI, h1 k hk, qaS]
    rw [if_neg (by omega), Bool.true_and]
    by_cases c : (l.length : Int) = n
    · rw [if_pos c, decide_eq_true c, Bool.true_and]
    · rw [if_neg c, decide_eq_false c, Bool.false_and]
  | d + 1, i, h => by
    obtain ⟨K, ih⟩ := qm4 s n l hm ag hag d (i + 1) (by omega)
    dsimp only at ih
    obtain ⟨v, hv, h2⟩ := qlm (qab l ((i : Int) - 1)) (qab l i)
    refine Ev.mk' (K + 4) fun k hk => ?_
    have ih : qaK.l0 k l l (l.length : Int) ((i : Int) + 1) s n = _ := ih k (by omega)
    have h2 : qbt.f k (qab l ((i : Int) - 1)).f0 (qab l ((i : Int) - 1)).f1 (qab l i).f0 (qab l i).f1 = some v := by
      have := h2 (k - 4); rwa [show k - 4 + 4 = k by omega] at this
    simp only [qaK.l0, okI]
    rw [if_pos (by omega), if_pos (by omega), if_pos (by omega), qbf (n := (i : Int) + 1) (by omega) (by omega), ih]
    by_cases c : (qab l i).f0 > 10
    · rw [if_pos c, decide_eq_false (show ¬ (qab l i).f0 ≤ 10 by omega)]; simp
    · rw [if_neg c, decide_eq_true (show (qab l i).f0 ≤ 10 by omega), Bool.true_and]
      by_cases c2 : i = 0
      · rw [if_neg (by omega), decide_eq_true c2]; simp
      · rw [if_pos (by omega), qbf (by omega) (by omega), if_pos (by omega), if_pos (by omega), h2, qaS, decide_eq_false c2, Bool.false_or]
        by_cases c3 : v ≥ 0
        · rw [if_pos c3, hv.1 c3]; simp
        · rw [if_neg c3, show qhC (qab l ((i : Int) - 1)) (qab l i) = true by
            cases hx : qhC (qab l ((i : Int) - 1)) (qab l i) with
            | true => rfl
            | false => exact absurd (hv.2 hx) c3]; simp
theorem qnf (s : ByteArray) (hs : s.data.toList.all sign = true) (hz : s.size ≤ 48) (n : Int) (l : List qaj) (hm : l.length ≤ 12) (hl : l.all qci = true) (cv : Bool) (hcv : Ev (fun k => qbO.f k s l) cv) : ∀ d i : Nat, i + d = l.length → Ev (fun k => qaJ.l0 k l l (l.length : Int) i s n) ((okI l i d && fitAll s l i d) && cv, true)
  | 0, i, h => by
    obtain ⟨K, h1⟩ := hcv
    dsimp only at h1
    refine Ev.mk' K fun k hk => ?_
    simp only [qaJ.l0, okI, fitAll, h1 k hk, qaS]
    rw [if_neg (by omega)]; simp
  | d + 1, i, h => by
    obtain ⟨K, ih⟩ := qnf s hs hz n l hm hl cv hcv d (i + 1) (by omega)
    dsimp only at ih
    have ho := (qfz _).1 (rd_ok l hl i (by omega))
    by_cases c : (qab l i).f0 > 10
    · refine Ev.mk' 0 fun k hk => ?_
      simp only [qaJ.l0, okI]
      rw [if_pos (by omega), if_pos (by omega), if_pos (by omega), if_pos c, decide_eq_false (show ¬ (qab l i).f0 ≤ 10 by omega)]; simp
    · obtain ⟨K1, hf⟩ := qpl s hs hz (qab l i).f0 (qab l i).f1 ho.1 (by omega) ho.2.2.1 ho.2.2.2
      dsimp only at hf
      refine Ev.mk' (K + K1) fun k hk => ?_
      have ih : qaJ.l0 k l l (l.length : Int) ((i : Int) + 1) s n = _ := ih k (by omega)
      simp only [qaJ.l0, okI, fitAll, hf k (by omega), qaS]
      rw [if_pos (by omega), if_pos (by omega), if_pos (by omega), if_neg c, qbf (n := (i : Int) + 1) (by omega) (by omega), ih, decide_eq_true (show (qab l i).f0 ≤ 10 by omega), Bool.true_and]
      cases qjj s (qab l i).f0 (qab l i).f1 0 s.size with
      | false => simp
      | true =>
        rw [if_pos rfl, Bool.true_and]
        by_cases c2 : i = 0
        · rw [if_neg (by omega), decide_eq_true c2]; simp
        · rw [if_pos (by omega), qbf (by omega) (by omega), if_pos (by omega), if_pos (by omega), qt2, qaS, decide_eq_false c2, Bool.false_or]
          cases qhC (qab l ((i : Int) - 1)) (qab l i) <;> simp
def qoL (s : ByteArray) (n : Int) (l : List qaj) : Bool × Bool := if (qdu s n && qd4 l) = true then (okI l 0 l.length && (decide ((l.length : Int) = n) && agD s l 0 s.size), true) else (false, false)
theorem qjd (s : ByteArray) (n : Int) (l : List qaj) : Ev (fun k => qaJ.f k s n l) (qoL s n l) ∧ Ev (fun k => qaK.f k s n l) (qoL s n l) := by
  obtain ⟨K1, h1⟩ := qfP s n
  obtain ⟨K2, h2⟩ := qpr l
  dsimp only at h1 h2
  unfold qoL
  by_cases hg : qdu s n = true
  · by_cases hr : qd4 l = true
    · rw [if_pos (by rw [hg, hr]; rfl)]
      have hz : s.size ≤ 48 := by have := hg; unfold qdu at this; simp only [Bool.and_eq_true, decide_eq_true_eq] at this; exact this.2.1
      have hs := qo1 hg
      have hm := (qjm hr).1
      have hl := (qjm hr).2
      obtain ⟨K3, h3⟩ := qm4 s n l hm _ (qld s hs hz l hl s.size 0 (by omega)) l.length 0 (by omega)
      obtain ⟨K4, h4⟩ := qnf s hs hz n l hm hl _ (qi5 s hs hz l hm hl s.size 0 (by omega)) l.length 0 (by omega)
      have h3 : ∀ k, K3 ≤ k → qaK.l0 k l l (l.length : Int) 0 s n = _ := h3
      have h4 : ∀ k, K4 ≤ k → qaJ.l0 k l l (l.length : Int) 0 s n = _ := h4
      have ef : fitAll s l 0 l.length = l.all (fun r => qjj s r.f0 r.f1 0 s.size) := by have := qoT s l l.length 0 (by omega); rwa [List.drop_zero] at this
      have ea := qsQ s hs l s.size 0 (by omega)
      constructor
      · refine Ev.mk' (K1 + K2 + K4) fun k hk => ?_
        simp (disch := omega) only [qaJ.f, h1, h2, qaS, hg, hr, if_true, Bool.not_true]
        simp (disch := omega) only [qaJ.j0, h4, Bool.false_eq_true, if_false]
        rw [ea, ← ef]
        by_cases c : (l.length : Int) = n
        · rw [if_pos c, decide_eq_true c, Bool.true_and, Bool.and_assoc]
        · rw [if_neg c, decide_eq_false c]; simp
      · refine Ev.mk' (K1 + K2 + K3) fun k hk => ?_
        simp (disch := omega) only [qaK.f, qcv, qhi, qaS, hg, hr, if_true, Bool.not_true]
        simp (disch := omega) only [qaK.j0, h3, Bool.false_eq_true, if_false]
    · have hf := Bool.eq_false_iff.2 hr
      rw [if_neg (by rw [hf]; simp)]
      constructor
      · refine Ev.mk' (K1 + K2) fun k hk => ?_
        simp (disch := omega) only [qaJ.f, h1, h2, qaS, hg, hf, if_true, Bool.not_false]
        simp (disch := omega) only [qaJ.j0, if_true]
      · refine Ev.mk' 0 fun k hk => ?_
        simp (disch := omega) only [qaK.f, qcv, qhi, qaS, hg, hf, if_true, Bool.not_false]
        simp (disch := omega) only [qaK.j0, if_true]
  · have hf := Bool.eq_false_iff.2 hg
    rw [if_neg (by rw [hf]; simp)]
    constructor
    · refine Ev.mk' K1 fun k hk => ?_
      simp (disch := omega) only [qaJ.f, h1, qaS, hf, Bool.false_eq_true, if_false]
      simp (disch := omega) only [qaJ.j0, if_true]
    · refine Ev.mk' 0 fun k hk => ?_
      simp (disch := omega) only [qaK.f, qcv, qaS, hf, Bool.false_eq_true, if_false]
      simp (disch := omega) only [qaK.j0, if_true]
end Go.Proofs.YtbnmajedmajfoaaGreatDoor.P
namespace Go.Proofs.YtbnmajedmajfoaaGreatDoor.P
open Go.RowKit Go.Proofs.YtbnmajedmajfoaaGreatDoorW.qaG Go.Proofs.YtbnmajedmajfoaaGreatDoorW.PrintLast
set_option linter.unusedVariables false
set_option linter.unusedSimpArgs false
def patB (l : List qaj) (i : Int) : Nat → ByteArray → ByteArray
  | 0, acc => acc
  | m + 1, acc => patB l (i + 1) m (acc ++ (if left l i = true then (⟨#[111]⟩ : ByteArray) else ⟨#[120]⟩))
def pat (l : List qaj) (n : Int) : ByteArray := patB l 1 n.toNat (⟨#[]⟩ : ByteArray)
theorem sz_o (a : ByteArray) : (a ++ (⟨#[111]⟩ : ByteArray)).size = a.size + 1 := by rw [ByteArray.size_append]; rfl
theorem sz_x (a : ByteArray) : (a ++ (⟨#[120]⟩ : ByteArray)).size = a.size + 1 := by rw [ByteArray.size_append]; rfl
theorem qqv (l : List qaj) (hl : l.all qci = true) (hi : Int) (h2 : hi ≤ 48) : ∀ (m : Nat) (i : Int) (acc : ByteArray), i + m = hi + 1 → 1 ≤ i → acc.size + m ≤ 1000 → Ev (fun k => qbP.l0 k l hi acc i) (patB l i m acc)
  | 0, i, acc, h, h0, h1 => Ev.mk' 0 fun k _ => by
    simp only [qbP.l0]
    rw [if_neg (by omega)]; rfl
  | m + 1, i, acc, h, h0, h1 => by
    simp only [patB]
    by_cases hc : left l i = true
    · obtain ⟨K, ih⟩ := qqv l hl hi h2 m (i + 1) (acc ++ (⟨#[111]⟩ : ByteArray)) (by omega) (by omega) (by rw [sz_o]; omega)
      dsimp only at ih
      refine Ev.mk' K fun k hk => ?_
      simp only [qbP.l0, ql2 i l hl, qaS]
      rw [if_pos (by omega), if_pos hc, if_pos (by omega), qbf (by omega) (by omega), ih k (by omega), if_pos hc]
    · obtain ⟨K, ih⟩ := qqv l hl hi h2 m (i + 1) (acc ++ (⟨#[120]⟩ : ByteArray)) (by omega) (by omega) (by rw [sz_x]; omega)
      dsimp only at ih
      refine Ev.mk' K fun k hk => ?_
      simp only [qbP.l0, ql2 i l hl, qaS]
      rw [if_pos (by omega), if_neg hc, if_pos (by omega), qbf (by omega) (by omega), ih k (by omega), if_neg hc]
theorem qpj (l : List qaj) (hl : l.all qci = true) (n : Int) (h0 : 1 ≤ n) (h1 : n ≤ 48) : Ev (fun k => qbP.f k l n) (pat l n) := by
  obtain ⟨K, h⟩ := qqv l hl n h1 n.toNat 1 (⟨#[]⟩ : ByteArray) (by omega) (by omega) (by show (0 : Nat) + _ ≤ _; omega)
  exact ⟨K, fun k hk => h k hk⟩
def qqW (l : List qaj) (n : Int) : ByteArray × Bool := if qd4 l = true ∧ 1 ≤ n ∧ n ≤ 48 then (pat l n, true) else ((⟨#[]⟩ : ByteArray), false)
theorem PatternI (l : List qaj) (n : Int) : Ev (fun k => qek.f k l n) (qqW l n) := by
  unfold qqW
  by_cases hc : qd4 l = true ∧ 1 ≤ n ∧ n ≤ 48
  · obtain ⟨K2, h2⟩ := qpj l (qjm hc.1).2 n hc.2.1 hc.2.2
    dsimp only at h2
    rw [if_pos hc]
    refine ⟨K2, fun k hk => ?_⟩
    simp only [qek.f, qhi, qaS, hc.1, if_true, h2 k hk]
    rw [if_neg (by omega), if_neg (by omega)]
  · rw [if_neg hc]
    refine ⟨0, fun k _ => ?_⟩
    simp only [qek.f, qhi, qaS]
    by_cases hg : qd4 l = true
    · rw [if_pos hg]
      by_cases h : n < 1
      · rw [if_pos h]
      · rw [if_neg h, if_pos (by apply Decidable.byContradiction; intro h'; exact hc ⟨hg, by omega, by omega⟩)]
    · rw [if_neg hg]
theorem btm (s : ByteArray) (i : Nat) (h : i < s.size) : bt s (i : Int) = ((s.data.toList[i]'(by rw [Array.length_toList]; exact h)).toNat : Int) := by
  have e := qea s (i : Int) h
  have e2 : s.data.toList[i]'(by rw [Array.length_toList]; exact h) = s[i]'h := by simp; rfl
  rw [e2]; exact e.symm
def qsb (l : List qaj) (i : Int) : Nat → List UInt8
  | 0 => []
  | m + 1 => (if left l i = true then 111 else 120) :: qsb l (i + 1) m
theorem qi4 (l : List qaj) : ∀ (m : Nat) (i : Int), (qsb l i m).length = m
  | 0, i => rfl
  | m + 1, i => by simp [qsb, qi4 l m]
theorem qqV (l : List qaj) : ∀ (m : Nat) (i : Int) (j : Nat) (h : j < (qsb l i m).length), (qsb l i m)[j] = (if left l (i + j) = true then 111 else 120)
  | 0, i, j, h => absurd h (by simp [qsb])
  | m + 1, i, 0, h => by simp [qsb]
  | m + 1, i, j + 1, h => by
    simp only [qsb, List.getElem_cons_succ]
    rw [qqV l m (i + 1) j, show i + 1 + (j : Int) = i + ((j + 1 : Nat) : Int) by omega]
theorem qqX (l : List qaj) (n : Int) : (pat l n).data.toList = qsb l 1 n.toNat := by
  have h : ∀ (m : Nat) (i : Int) (acc : ByteArray), (patB l i m acc).data.toList = acc.data.toList ++ qsb l i m := by
    intro m
    induction m with
    | zero => intro i acc; simp [patB, qsb]
    | succ m ih =>
      intro i acc
      simp only [patB, qsb]
      rw [ih]
      by_cases c : left l i = true
      · simp [c, ByteArray.data_append]
      · simp [c, ByteArray.data_append]
  have := h n.toNat 1 (⟨#[]⟩ : ByteArray)
  simpa [pat] using this
theorem qow (l : List qaj) (n : Int) : (pat l n).size = n.toNat := by
  have h := congrArg List.length (qqX l n)
  rw [qi4] at h
  have hl : (pat l n).data.toList.length = (pat l n).size := Array.length_toList
  omega
theorem pat_bt (l : List qaj) (n : Int) (i : Nat) (h : i < n.toNat) : bt (pat l n) (i : Int) = if left l ((i : Int) + 1) = true then 111 else 120 := by
  rw [btm _ i (by rw [qow]; exact h)]
  have e2 : ∀ (L : List UInt8) (hL : (pat l n).data.toList = L) (h : i < L.length), (pat l n).data.toList[i]'(by rw [hL]; exact h) = L[i] := by intro L hL h; subst hL; rfl
  rw [e2 _ (qqX l n) (by rw [qi4]; exact h), qqV, show (1 : Int) + (i : Int) = (i : Int) + 1 by omega]
  split <;> rfl
end Go.Proofs.YtbnmajedmajfoaaGreatDoor.P
namespace Go.Proofs.YtbnmajedmajfoaaGreatDoor.P
open Go.RowKit Go.Proofs.YtbnmajedmajfoaaGreatDoorW.qaG Go.Proofs.YtbnmajedmajfoaaGreatDoorW.PrintLast
set_option linter.unusedVariables false
set_option linter.unusedSimpArgs false
theorem qme (s : ByteArray) (e : Int) : ∀ (d : Nat) (t : Int), (qfA s e t d).Pairwise (fun a b => qhC a b = true) ∧ ∀ r ∈ qfA s e t d, r.f0 = e ∧ t ≤ r.f1
  | 0, t => ⟨List.Pairwise.nil, fun r h => by simp [qfA] at h⟩
  | d + 1, t => by
    obtain ⟨h1, h2⟩ := qme s e d (t + 1)
    simp only [qfA]
    cases qjj s e t 0 s.size with
    | false => exact ⟨h1, fun r h => ⟨(h2 r h).1, by have := (h2 r h).2; omega⟩⟩
    | true =>
      refine ⟨List.pairwise_cons.2 ⟨fun r hr => ?_, h1⟩, fun r hr => ?_⟩
      · obtain ⟨e1, e2⟩ := h2 r hr
        unfold qhC
        rw [e1, beq_self_eq_true, Bool.true_and, decide_eq_true (show t < r.f1 by omega), Bool.or_true]
      · rcases List.mem_cons.1 hr with rfl | hr
        · exact ⟨rfl, Int.le_refl _⟩
        · exact ⟨(h2 r hr).1, by have := (h2 r hr).2; omega⟩
theorem qiH (s : ByteArray) : ∀ (d : Nat) (e : Int), (allFit s e d).Pairwise (fun a b => qhC a b = true) ∧ ∀ r ∈ allFit s e d, e ≤ r.f0 ∧ r.f0 < e + d
  | 0, e => ⟨List.Pairwise.nil, fun r h => by simp [allFit] at h⟩
  | d + 1, e => by
    obtain ⟨h1, h2⟩ := qiH s d (e + 1)
    obtain ⟨h3, h4⟩ := qme s e e.toNat 0
    simp only [allFit]
    refine ⟨List.pairwise_append.2 ⟨h3, h1, fun a ha b hb => ?_⟩, fun r hr => ?_⟩
    · have e1 := (h4 a ha).1
      have e2 := (h2 b hb).1
      unfold qhC
      rw [decide_eq_true (show a.f0 < b.f0 by omega), Bool.true_or]
    · rcases List.mem_append.1 hr with hr | hr
      · have := (h4 r hr).1; omega
      · have := h2 r hr; omega
theorem qh5 : ∀ (n : Nat) (L l : List qaj), l ∈ qpE n L → l.Sublist L
  | 0, L, l, h => by
    simp only [qpE, List.mem_singleton] at h
    subst h; exact List.nil_sublist _
  | n + 1, [], l, h => by simp [qpE] at h
  | n + 1, x :: t, l, h => by
    simp only [qpE, List.mem_append, List.mem_map] at h
    rcases h with ⟨l', h', rfl⟩ | h
    · exact (qh5 n t l' h').cons_cons x
    · exact (qh5 (n + 1) t l h).cons x
theorem okI_of (l : List qaj) (h10 : ∀ r ∈ l, r.f0 ≤ 10) (hp : l.Pairwise (fun a b => qhC a b = true)) : ∀ d i : Nat, i + d = l.length → okI l i d = true
  | 0, i, h => rfl
  | d + 1, i, h => by
    simp only [okI]
    rw [okI_of l h10 hp d (i + 1) (by omega), Bool.and_true]
    have e1 : qab l (i : Int) = l[i]'(by omega) := by simp [qab, List.getD, show i < l.length by omega]
    rw [decide_eq_true (h10 _ (by rw [e1]; exact List.getElem_mem _)), Bool.true_and]
    by_cases c : i = 0
    · rw [decide_eq_true c, Bool.true_or]
    · have e2 : qab l ((i : Int) - 1) = l[i - 1]'(by omega) := by
        rw [show (i : Int) - 1 = ((i - 1 : Nat) : Int) by omega]
        simp [qab, List.getD, show i - 1 < l.length by omega]
      rw [decide_eq_false c, Bool.false_or, e1, e2]
      exact List.pairwise_iff_getElem.1 hp (i - 1) i (by omega) (by omega) (by omega)
theorem qgP (s : ByteArray) (n : Int) (hg : qdu s n = true) (l : List qaj) (hl : l ∈ answers s n.toNat) :
    (l.length : Int) = n ∧ l.all qci = true ∧ (∀ r ∈ l, r ∈ qeR s) ∧ (∀ r ∈ l, r.f0 ≤ 10) ∧ l.Pairwise (fun a b => qhC a b = true) ∧ agD s l 0 s.size = true ∧ qd4 l = true := by
  obtain ⟨g1, g2, g3, g4, g5⟩ := qez hg
  obtain ⟨h1, h2⟩ := qle s n.toNat l hl
  have h3 : l.all qci = true := List.all_eq_true.2 fun r hr => (qgu s r (h2 r hr)).1
  refine ⟨by omega, h3, h2, fun r hr => ?_, ?_, (List.mem_filter.1 hl).2, ?_⟩
  · have := ((qiH s 9 2).2 r (h2 r hr)).2; omega
  · exact (qiH s 9 2).1.sublist (qh5 _ _ _ (List.mem_filter.1 hl).1)
  · unfold qd4
    rw [h3, Bool.and_true]; exact decide_eq_true (by omega)
theorem qnz (s : ByteArray) (n : Int) (hg : qdu s n = true) (l : List qaj) (hl : l ∈ answers s n.toNat) : qoL s n l = (true, true) := by
  obtain ⟨h1, h2, h3, h4, h5, h6, h7⟩ := qgP s n hg l hl
  unfold qoL
  rw [if_pos (by rw [hg, h7]; rfl), okI_of l h4 h5 l.length 0 (by omega), h6, decide_eq_true h1]
  rfl
theorem qsP (s : ByteArray) (l : List qaj) : ∀ (d pos : Nat), pos + d = s.size → agD s l pos d = true → ∀ i : Nat, pos ≤ i → i < s.size → bt s i ≠ 63 → left l ((i : Int) + 1) = (bt s i == 111)
  | 0, pos, h, _, i, h1, h2, _ => by omega
  | d + 1, pos, h, ha, i, h1, h2, hb => by
    simp only [agD, Bool.and_eq_true] at ha
    by_cases c : i = pos
    · subst c
      have h3 := ha.1
      rw [Bool.not_eq_true', Bool.and_eq_false_iff] at h3
      rcases h3 with h3 | h3
      · exact absurd (bne_eq_false_iff_eq.1 h3) hb
      · exact bne_eq_false_iff_eq.1 h3
    · exact qsP s l d (pos + 1) (by omega) ha.2 i (by omega) h2 hb
theorem qug (l : List qaj) (n : Int) (h : left l n = false) : ∃ r ∈ l, qfr n r = true := by
  unfold left at h
  rw [Bool.not_eq_false'] at h
  exact List.any_eq_true.1 h
end Go.Proofs.YtbnmajedmajfoaaGreatDoor.P
namespace Go.Proofs.YtbnmajedmajfoaaGreatDoor.P
open Go.RowKit Go.Proofs.YtbnmajedmajfoaaGreatDoorW.qaG Go.Proofs.YtbnmajedmajfoaaGreatDoorW.PrintLast
set_option linter.unusedVariables false
set_option linter.unusedSimpArgs false
def qfo (s : ByteArray) (n : Int) : List qaj × Bool := if (qhh s n).2 = true ∧ (qhh s n).1 ≠ [] then (qar (qhh s n).1 0, true) else ([], false)
theorem rdR_mem (L : List (List qaj)) (h : L ≠ []) : qar L 0 ∈ L := by
  cases L with
  | nil => exact absurd rfl h
  | cons x t => simp [qar]
theorem qnN (s : ByteArray) (n : Int) : (qfo s n).1.length ≤ 3 := by
  unfold qfo
  split
  · next h => exact qkA s n _ (rdR_mem _ h.2)
  · simp
theorem qhx (s : ByteArray) (n : Int) : Ev (fun k => qck.f k s n) (qfo s n) ∧ Ev (fun k => qcY.f k s n) (qfo s n) := by
  obtain ⟨K1, h1⟩ := qib s n
  obtain ⟨K2, h2⟩ := qh0 s n
  dsimp only at h1 h2
  unfold qfo
  constructor
  · refine ⟨K1, fun k hk => ?_⟩
    simp only [qck.f, h1 k hk, qaS]
    cases qhh s n with
    | mk L b => cases b <;> cases L <;> simp <;> omega
  · refine ⟨K2, fun k hk => ?_⟩
    simp only [qcY.f, h2 k hk, qaS]
    cases qhh s n with
    | mk L b => cases b <;> cases L <;> simp <;> omega
end Go.Proofs.YtbnmajedmajfoaaGreatDoor.P
namespace Go.Proofs.YtbnmajedmajfoaaGreatDoor.P
open Go.RowKit Go.Proofs.YtbnmajedmajfoaaGreatDoorW.qaG Go.Proofs.YtbnmajedmajfoaaGreatDoorW.PrintLast
set_option linter.unusedVariables false
set_option linter.unusedSimpArgs false
def qkp (x : qaj) (a : List qaj) : Bool := a.any fun y => y.f0 == x.f0 && y.f1 == x.f1
theorem qqZ (a : List qaj) (x : qaj) (hm : a.length ≤ 1000) : ∀ (d i k : Nat), i + d = a.length → d < k → qbR.l0 k a a.length i x.f0 x.f1 = some (qkp x (a.drop i))
  | 0, i, k, h, hk => by
    obtain ⟨k, rfl⟩ : ∃ k', k = k' + 1 := ⟨k - 1, by omega⟩
    simp only [qbR.l0]
    rw [if_neg (by omega), List.drop_eq_nil_of_le (by omega)]; rfl
  | d + 1, i, k, h, hk => by
    obtain ⟨k, rfl⟩ : ∃ k', k = k' + 1 := ⟨k - 1, by omega⟩
    have ih := qqZ a x hm d (i + 1) k (by omega) (by omega)
    simp only [qbR.l0]
    rw [if_pos (by omega), if_pos (by omega), if_pos (by omega), qbf (by omega) (by omega), show ((i : Int) + 1) = ((i + 1 : Nat) : Int) by omega, ih, qic a i (by omega)]
    unfold qkp
    rw [List.any_cons]
    by_cases c : ((qab a i).f0 == x.f0 && (qab a i).f1 == x.f1) = true
    · rw [if_pos c, c]; rfl
    · rw [if_neg c, Bool.eq_false_iff.2 c]; rfl
theorem qq0 (a : List qaj) (x : qaj) (hm : a.length ≤ 1000) (k : Nat) (hk : a.length < k) : qbR.f k a x.f0 x.f1 = some (qkp x a) := by
  have h := qqZ a x hm a.length 0 k (by omega) hk
  rw [List.drop_zero] at h
  exact h
theorem con_l0 (a : List qaj) (x : qaj) (hm : a.length ≤ 1000) : ∀ (d i k : Nat), i + d = a.length → d < k → ∃ n : Int, qct.l0 k a a.length i x.f0 x.f1 = some n ∧ decide (n ≥ 0) = qkp x (a.drop i)
  | 0, i, k, h, hk => by
    obtain ⟨k, rfl⟩ : ∃ k', k = k' + 1 := ⟨k - 1, by omega⟩
    refine ⟨-1, ?_, ?_⟩
    · simp only [qct.l0]
      rw [if_neg (by omega)]
    · rw [List.drop_eq_nil_of_le (by omega)]; rfl
  | d + 1, i, k, h, hk => by
    obtain ⟨k, rfl⟩ : ∃ k', k = k' + 1 := ⟨k - 1, by omega⟩
    obtain ⟨n, ih, h2⟩ := con_l0 a x hm d (i + 1) k (by omega) (by omega)
    have hs : (x.f0 == (qab a i).f0 && x.f1 == (qab a i).f1) = ((qab a i).f0 == x.f0 && (qab a i).f1 == x.f1) := by rw [Bool.beq_comm, Bool.beq_comm (a := x.f1)]
    simp only [qct.l0]
    rw [if_pos (by omega), if_pos (by omega), if_pos (by omega), qbf (by omega) (by omega), show ((i : Int) + 1) = ((i + 1 : Nat) : Int) by omega, ih, qic a i (by omega), hs]
    unfold qkp at h2 ⊢
    rw [List.any_cons]
    by_cases c : ((qab a i).f0 == x.f0 && (qab a i).f1 == x.f1) = true
    · exact ⟨i, by rw [if_pos c], by rw [c, Bool.true_or]; simp⟩
    · exact ⟨n, by rw [if_neg c], by rw [Bool.eq_false_iff.2 c, Bool.false_or]; exact h2⟩
theorem con_ok (a : List qaj) (x : qaj) (hm : a.length ≤ 1000) (k : Nat) (hk : a.length < k) : qdg.f k a x.f0 x.f1 = some (qkp x a) := by
  obtain ⟨n, h, h2⟩ := con_l0 a x hm a.length 0 k (by omega) hk
  rw [List.drop_zero] at h2
  have h : qct.f k a x.f0 x.f1 = some n := h
  simp only [qdg.f, h, qaS]
  rw [h2]
def qj6 (s : ByteArray) (n : Int) : List qaj × Bool := if (qhh s n).2 = true ∧ (qhh s n).1.length ≠ 0 then ((qar (qhh s n).1 0).filter fun x => (qhh s n).1.all (qkp x), true) else ([], false)
theorem qt4 {L : List (List qaj)} (h : L.length ≠ 0) : qar L 0 ∈ L := by
  cases L with
  | nil => exact absurd rfl h
  | cons a t => simp [qar]
theorem qpy (s : ByteArray) (n : Int) : (qj6 s n).1.length ≤ 3 := by
  unfold qj6
  split
  · rename_i h
    exact Nat.le_trans (List.length_filter_le _ _) (qkA s n _ (qt4 h.2))
  · simp
theorem qms (s : ByteArray) (n : Int) : Ev (fun k => qcK.f k s n) (qj6 s n) ∧ Ev (fun k => qcJ.f k s n) (qj6 s n) := by
  obtain ⟨K1, h1⟩ := qib s n
  obtain ⟨K2, h2⟩ := qh0 s n
  dsimp only at h1 h2
  have hm := qkA s n
  unfold qj6
  generalize qhh s n = A at h1 h2 hm ⊢
  obtain ⟨L, t⟩ := A
  dsimp only at h1 h2 hm ⊢
  cases t with
  | false =>
    rw [if_neg (by simp)]
    constructor
    · refine ⟨K1, fun k hk => ?_⟩
      simp only [qcK.f, h1 k hk, qaS, Bool.false_eq_true, if_false]
    · refine ⟨K2, fun k hk => ?_⟩
      simp only [qcJ.f, h2 k hk, qaS, Bool.false_eq_true, if_false]
  | true =>
    by_cases c : L.length = 0
    · rw [if_neg (by simp [c])]
      constructor
      · refine ⟨K1, fun k hk => ?_⟩
        simp only [qcK.f, h1 k hk, qaS, if_true, if_pos c]
      · refine ⟨K2, fun k hk => ?_⟩
        simp only [qcJ.f, h2 k hk, qaS, if_true, if_pos c]
    · rw [if_pos ⟨rfl, c⟩]
      have hr := hm _ (qt4 c)
      constructor
      · refine ⟨K1 + 5, fun k hk => ?_⟩
        have e1 : ∀ x ∈ qar L 0, L.all (qfv k x) = L.all (qkp x) := fun x hx => by
          have : ∀ a ∈ L, qfv k x a = qkp x a := fun a ha => by
            unfold qfv
            rw [qq0 a x (by have := hm a ha; omega) k (by have := hm a ha; omega)]
            cases qkp x a <;> rfl
          rw [Bool.eq_iff_iff, List.all_eq_true, List.all_eq_true]
          exact ⟨fun h a ha => by rw [← this a ha]; exact h a ha, fun h a ha => by rw [this a ha]; exact h a ha⟩
        simp only [qcK.f, h1 k (by omega), qaS, if_true, if_neg c]
        rw [if_pos ⟨by omega, List.all_eq_true.2 fun x hx => List.all_eq_true.2 fun a ha => by rw [qq0 a x (by have := hm a ha; omega) k (by have := hm a ha; omega)]; rfl⟩, List.filter_congr e1]
      · refine ⟨K2 + 5, fun k hk => ?_⟩
        have e1 : ∀ x ∈ qar L 0, (!(L.any (qfQ k x))) = L.all (qkp x) := fun x hx => by
          have : ∀ a ∈ L, qfQ k x a = !(qkp x a) := fun a ha => by
            unfold qfQ
            rw [con_ok a x (by have := hm a ha; omega) k (by have := hm a ha; omega)]
            cases qkp x a <;> rfl
          rw [List.all_eq_not_any_not]
          congr 1
          rw [Bool.eq_iff_iff, List.any_eq_true, List.any_eq_true]
          exact ⟨fun ⟨a, ha, h_⟩ => ⟨a, ha, by rw [← this a ha]; exact h_⟩, fun ⟨a, ha, h_⟩ => ⟨a, ha, by rw [this a ha]; exact h_⟩⟩
        simp only [qcJ.f, h2 k (by omega), qaS, if_true, if_neg c]
        rw [if_pos ⟨by omega, List.all_eq_true.2 fun x hx => List.all_eq_true.2 fun a ha => by rw [con_ok a x (by have := hm a ha; omega) k (by have := hm a ha; omega)]; rfl⟩, List.filter_congr e1]
end Go.Proofs.YtbnmajedmajfoaaGreatDoor.P
namespace Go.Proofs.YtbnmajedmajfoaaGreatDoor.P
open Go.RowKit Go.Proofs.YtbnmajedmajfoaaGreatDoorW.qaG Go.Proofs.YtbnmajedmajfoaaGreatDoorW.PrintLast
set_option linter.unusedVariables false
set_option linter.unusedSimpArgs false
def qeS (s : ByteArray) (i : Nat) : List qaj := (qeR s).filter (fun x => ((i : Int) + 1) % x.f0 == x.f1)
def qjr (s : ByteArray) (i : Nat) : Nat → Int × Int × Int × Bool
  | 0 => (0, 0, 0, false)
  | d + 1 => if bt s i = 120 ∧ (qeS s i).length = 1 then ((i : Int) + 1, (qab (qeS s i) 0).f0, (qab (qeS s i) 0).f1, true) else qjr s (i + 1) d
theorem qkr (s : ByteArray) (i : Nat) (h : i < 48) : (qeR s).filter (qgA i) = qeS s i := by
  refine List.filter_congr fun x hx => ?_
  unfold qgA
  rw [qbf (by omega) (by omega), qjA _ x (qgu s x hx).1]
  by_cases c : ((i : Int) + 1) % x.f0 = x.f1
  · rw [c]; simp
  · rw [beq_eq_false_iff_ne.2 c, beq_eq_false_iff_ne.2 (by simpa using c)]
theorem qkq (s : ByteArray) (i : Nat) (h : i < 48) : (qeR s).filter (fun x => !qgc i x) = qeS s i := by
  refine List.filter_congr fun x hx => ?_
  unfold qgc
  have h2 := (qfz x).1 (qgu s x hx).1
  rw [qbf (by omega) (by omega), Int.tmod_eq_emod_of_nonneg (by omega)]
  exact Bool.not_not _
theorem qmw (s : ByteArray) (i : Nat) (h : i < 48) : (qeR s).all (fun x => (qcp.f (wrap64 ((i : Int) + 1)) x.f0).isSome) = true := by
  refine List.all_eq_true.2 fun x hx => ?_
  rw [qjA _ x (qgu s x hx).1]; rfl
theorem qo6 (s : ByteArray) : (qeR s).all (fun x => x.f0 != 0) = true := by
  refine List.all_eq_true.2 fun x hx => ?_
  have h2 := (qfz x).1 (qgu s x hx).1
  exact bne_iff_ne.2 (by omega)
theorem qmh (s : ByteArray) (hs : s.data.toList.all sign = true) (hz : s.size ≤ 48) : ∀ d i : Nat, i + d = s.size → Ev (fun k => qce.l0 k s (qeR s) i) (qjr s i d)
  | 0, i, h => Ev.mk' 0 fun k _ => by
    simp only [qce.l0, qjr]
    rw [if_neg (by omega)]
  | d + 1, i, h => by
    obtain ⟨K, ih⟩ := qmh s hs hz d (i + 1) (by omega)
    dsimp only at ih
    have hb := qmg hs i (by omega)
    have hl := qe8 s
    refine Ev.mk' K fun k hk => ?_
    simp only [qce.l0, qjr]
    rw [if_pos (by omega), if_pos (by omega), qkr s i (by omega), ih k hk]
    by_cases c : bt s i = 120
    · rw [if_pos c, if_pos ⟨by omega, qmw s i (by omega)⟩]
      by_cases c2 : (qeS s i).length = 1
      · rw [if_pos c2, if_pos ⟨c, c2⟩, qbf (by omega) (by omega)]
      · rw [if_neg c2, if_neg (fun h => c2 h.2)]
    · rw [if_neg c, if_neg (fun h => c h.1)]
theorem qlZ (s : ByteArray) (hz : s.size ≤ 48) : ∀ d i : Nat, i + d = s.size → Ev (fun k => qcd.l0 k s (qeR s) i) (qjr s i d)
  | 0, i, h => Ev.mk' 0 fun k _ => by
    simp only [qcd.l0, qjr]
    rw [if_neg (by omega)]
  | d + 1, i, h => by
    obtain ⟨K, ih⟩ := qlZ s hz d (i + 1) (by omega)
    dsimp only at ih
    have hl := qe8 s
    refine Ev.mk' K fun k hk => ?_
    simp only [qcd.l0, qjr]
    rw [if_pos (by omega), if_pos (by omega), qkq s i (by omega), ih k hk]
    by_cases c : bt s i = 120
    · rw [if_pos c, if_pos ⟨by omega, qo6 s⟩]
      by_cases c2 : (qeS s i).length = 1
      · rw [if_pos c2, if_pos ⟨c, c2⟩, qbf (by omega) (by omega)]
      · rw [if_neg c2, if_neg (fun h => c2 h.2)]
    · rw [if_neg c, if_neg (fun h => c h.1)]
def qdS (s : ByteArray) (n : Int) : Int × Int × Int × Bool := if qdu s n = true then qjr s 0 s.size else (0, 0, 0, false)
theorem qsq (s : ByteArray) (n : Int) : Ev (fun k => qce.f k s n) (qdS s n) ∧ Ev (fun k => qcd.f k s n) (qdS s n) := by
  obtain ⟨K1, h1⟩ := qfP s n
  dsimp only at h1
  unfold qdS
  by_cases hg : qdu s n = true
  · obtain ⟨g1, g2, g3, g4, g5⟩ := qez hg
    obtain ⟨K2, h2⟩ := qox s g3 g2
    obtain ⟨K3, h3⟩ := qjK s g2
    obtain ⟨K4, h4⟩ := qmh s g3 g2 s.size 0 (by omega)
    obtain ⟨K5, h5⟩ := qlZ s g2 s.size 0 (by omega)
    dsimp only at h2 h3 h4 h5
    rw [if_pos hg]
    refine ⟨⟨K1 + K2 + K4, fun k hk => ?_⟩, ⟨K3 + K5, fun k hk => ?_⟩⟩
    · simp (disch := omega) only [qce.f, h1, h2, qaS, hg, if_true, h4]
    · simp (disch := omega) only [qcd.f, qcv, h3, qaS, hg, if_true, h5]
  · have hf := Bool.eq_false_iff.2 hg
    rw [if_neg hg]
    refine ⟨⟨K1, fun k hk => ?_⟩, ⟨0, fun k hk => ?_⟩⟩
    · simp (disch := omega) only [qce.f, h1, qaS, hf, Bool.false_eq_true, if_false]
    · simp (disch := omega) only [qcd.f, qcv, qaS, hf, Bool.false_eq_true, if_false]
end Go.Proofs.YtbnmajedmajfoaaGreatDoor.P
namespace Go.Proofs.YtbnmajedmajfoaaGreatDoor.P
open Go.RowKit Go.Proofs.YtbnmajedmajfoaaGreatDoorW.qaG Go.Proofs.YtbnmajedmajfoaaGreatDoorW.PrintLast
set_option linter.unusedVariables false
set_option linter.unusedSimpArgs false
def qfN (s : ByteArray) (n : Int) : List qaj × Bool := if qdu s n = true then (qeR s, true) else ([], false)
theorem qjk (s : ByteArray) (n : Int) : (qfN s n).1.length ≤ 99 := by
  unfold qfN
  split
  · exact qe8 s
  · simp
theorem good_size' {s : ByteArray} {n : Int} (h : qdu s n = true) : s.size ≤ 48 := by
  unfold qdu at h; simp only [Bool.and_eq_true, decide_eq_true_eq] at h; exact h.2.1
theorem qg1 (s : ByteArray) (n : Int) : Ev (fun k => qb6.f k s n) (qfN s n) ∧ Ev (fun k => qcr.f k s n) (qfN s n) := by
  obtain ⟨K, h1⟩ := qfP s n
  dsimp only at h1
  unfold qfN
  by_cases hg : qdu s n = true
  · obtain ⟨K2, h2⟩ := qox s (qo1 hg) (good_size' hg)
    obtain ⟨K3, h3⟩ := qjK s (good_size' hg)
    dsimp only at h2 h3
    rw [if_pos hg]
    constructor
    · refine ⟨K + K2, fun k hk => ?_⟩
      simp (disch := omega) only [qb6.f, h1, qaS, hg, if_true, h2]
    · refine ⟨K3, fun k hk => ?_⟩
      simp (disch := omega) only [qcr.f, qcv, qaS, hg, if_true, h3]
  · rw [if_neg hg]
    have hf := Bool.eq_false_iff.2 hg
    constructor
    · refine ⟨K, fun k hk => ?_⟩
      simp (disch := omega) only [qb6.f, h1, qaS, hf, Bool.false_eq_true, if_false]
    · refine ⟨0, fun k hk => ?_⟩
      simp (disch := omega) only [qcr.f, qcv, qaS, hf, Bool.false_eq_true, if_false]
end Go.Proofs.YtbnmajedmajfoaaGreatDoor.P
namespace Go.Proofs.YtbnmajedmajfoaaGreatDoor.P
open Go.RowKit Go.Proofs.YtbnmajedmajfoaaGreatDoorW.qaG Go.Proofs.YtbnmajedmajfoaaGreatDoorW.PrintLast
set_option linter.unusedVariables false
set_option linter.unusedSimpArgs false
theorem num_ok (n : Int) (h0 : 0 ≤ n) (h1 : n ≤ 3) : ∃ t : ByteArray, t.size = 1 ∧ (∀ k, qcf.f (k + 1) n = some t) ∧ strconv_Itoa.f n = some t := by
  have hc : n = 0 ∨ n = 1 ∨ n = 2 ∨ n = 3 := by omega
  have e : strconv_Itoa.f n = some ⟨(Lib.decDigits n.toNat).toArray⟩ := by unfold strconv_Itoa.f; rw [if_pos (by omega)]
  rw [Lib.decDigits_one (by omega)] at e
  refine ⟨_, ?_, fun k => ?_, e⟩
  · rfl
  · simp only [qcf.f]
    rw [if_pos (by omega), qbf (by omega) (by omega)]
    rcases hc with rfl | rfl | rfl | rfl <;> rfl
theorem good_txt {s : ByteArray} {n : Int} (h : qdu s n = true) : s.size ≤ 48 ∧ 0 ≤ n ∧ n ≤ 3 := by
  unfold qdu at h
  simp only [Bool.and_eq_true, decide_eq_true_eq] at h
  exact ⟨h.2.1, h.2.2.2.1, h.2.2.2.2⟩
theorem qk8 (s : ByteArray) (n : Int) : ∃ v : ByteArray × Bool, Ev (fun k => qbv.f k s n) v ∧ qb0.f s n = some v := by
  obtain ⟨K, h1⟩ := qfP s n
  dsimp only at h1
  by_cases hg : qdu s n = true
  · obtain ⟨hz, h0, h3⟩ := good_txt hg
    obtain ⟨t, ht, hn, hi⟩ := num_ok n h0 h3
    have e1 : (s ++ (⟨#[58]⟩ : ByteArray)).size = s.size + 1 := by rw [ByteArray.size_append]; rfl
    refine ⟨((s ++ (⟨#[58]⟩ : ByteArray)) ++ t, true), Ev.mk' K fun k hk => ?_, ?_⟩
    · simp only [qbv.f, h1 _ (Nat.le_succ_of_le hk), qaS, hg, if_true, hn k]
      rw [if_pos (by omega), if_pos (by rw [e1, ht]; omega)]
    · simp only [qb0.f, qbu.f, qcv, qaS, hg, if_true, hi]
      rw [if_pos (by omega), if_pos (by rw [e1, ht]; omega), qaS]
  · have hf := Bool.eq_false_iff.2 hg
    refine ⟨((⟨#[]⟩ : ByteArray), false), ⟨K, fun k hk => ?_⟩, ?_⟩
    · simp only [qbv.f, h1 k hk, qaS, hf, Bool.false_eq_true, if_false]
    · simp only [qb0.f, qcv, qaS, hf, Bool.false_eq_true, if_false]
end Go.Proofs.YtbnmajedmajfoaaGreatDoor.P
namespace Go.Proofs.YtbnmajedmajfoaaGreatDoor.P
open Go.RowKit Go.Proofs.YtbnmajedmajfoaaGreatDoorW.qaG Go.Proofs.YtbnmajedmajfoaaGreatDoorW.PrintLast
set_option linter.unusedVariables false
set_option linter.unusedSimpArgs false
theorem qnF (s : ByteArray) (i : Nat) (h : i < s.size) : bt s (i : Int) = ((s.data.toList[i]'(by rw [Array.length_toList]; exact h)).toNat : Int) := by
  have e := qea s (i : Int) h
  have e2 : s.data.toList[i]'(by rw [Array.length_toList]; exact h) = s[i]'h := by simp; rfl
  rw [e2]; exact e.symm
theorem u8_eq {x : UInt8} {n : Nat} (hn : n < 256) (h : (x.toNat : Int) = (n : Int)) : x = UInt8.ofNat n := by
  apply UInt8.toNat_inj.mp
  rw [UInt8.toNat_ofNat_of_lt' hn]; omega
theorem qqN (s : ByteArray) (a b : Nat) : s.extract a b = ⟨((s.data.toList.take b).drop a).toArray⟩ := by
  apply ByteArray.ext
  apply Array.toList_inj.1
  rw [List.drop_take]
  simp [ByteArray.data_extract, Array.toList_extract, List.extract]
def qmj : List UInt8 → List UInt8 → List (List UInt8)
  | cur, [] => [cur]
  | cur, c :: r => if c = 58 then cur :: qmj [] r else qmj (cur ++ [c]) r
theorem qq7 : ∀ (l cur p : List UInt8), qmj cur l = [p] → cur ++ l = p
  | [], cur, p, h => by simp only [qmj] at h; rw [List.append_nil]; exact (List.cons.inj h).1
  | c :: r, cur, p, h => by
    simp only [qmj] at h
    by_cases hc : c = 58
    · rw [if_pos hc] at h
      have h2 := (List.cons.inj h).2
      cases r with
      | nil => simp [qmj] at h2
      | cons x y =>
        simp only [qmj] at h2
        by_cases hx : x = 58
        · rw [if_pos hx] at h2; cases h2
        · rw [if_neg hx] at h2
          exfalso
          have : ∀ (l cur : List UInt8), qmj cur l ≠ [] := fun l => by
            induction l with
            | nil => intro cur h_; cases h_
            | cons a t ih => intro cur h_; simp only [qmj] at h_; split at h_; cases h_; exact ih _ h_
          exact this _ _ h2
    · rw [if_neg hc] at h
      have := qq7 r (cur ++ [c]) p h
      simpa using this
theorem qq8 : ∀ (l cur p q : List UInt8), qmj cur l = [p, q] → cur ++ l = p ++ 58 :: q
  | [], cur, p, q, h => by simp [qmj] at h
  | c :: r, cur, p, q, h => by
    simp only [qmj] at h
    by_cases hc : c = 58
    · rw [if_pos hc] at h
      obtain ⟨h1, h2⟩ := List.cons.inj h
      have := qq7 r [] q h2
      rw [h1, hc, ← this]; rfl
    · rw [if_neg hc] at h
      have := qq8 r (cur ++ [c]) p q h
      simpa using this
theorem qpx : ∀ (b cur : List UInt8) (x : UInt8), b.all (fun y => y != 58) = true → x ≠ 58 → qmj cur (b ++ [58, x]) = [cur ++ b, [x]]
  | [], cur, x, h, hx => by simp [qmj, hx]
  | c :: r, cur, x, h, hx => by
    rw [List.all_cons, Bool.and_eq_true] at h
    have hc : c ≠ 58 := by simpa using h.1
    have := qpx r (cur ++ [c]) x h.2 hx
    simp only [List.cons_append, qmj]
    rw [if_neg hc, this]; simp
theorem qoz (s : ByteArray) (hz : s.size ≤ 1048576) : ∀ (d i m : Nat) (out : List ByteArray), i + d = s.size → m ≤ i → out.length + d ≤ 1048576 → Ev (fun k => qb2.l0 k s 58 out (m : Int) (i : Int)) (out ++ (qmj ((s.data.toList.take i).drop m) (s.data.toList.drop i)).map (fun p => (⟨p.toArray⟩ : ByteArray)))
  | 0, i, m, out, h, hm, ho => Ev.mk' 0 fun k _ => by
    have hl : s.data.toList.length = s.size := Array.length_toList
    simp only [qb2.l0]
    have e0 : s.data.toList.drop i = [] := List.drop_eq_nil_of_le (by omega)
    rw [if_neg (by omega), if_pos (by omega), if_pos (by omega), if_pos (by omega), e0, qqN]
    simp only [qmj, List.map_cons, List.map_nil, Int.toNat_natCast]
    rw [show s.size = i by omega]
  | d + 1, i, m, out, h, hm, ho => by
    have hl : s.data.toList.length = s.size := Array.length_toList
    have hd : s.data.toList.drop i = s.data.toList[i]'(by omega) :: s.data.toList.drop (i + 1) := List.drop_eq_getElem_cons (by omega)
    have hb := qnF s i (by omega)
    by_cases hc : s.data.toList[i]'(by omega) = 58
    · obtain ⟨K, ih⟩ := qoz s hz d (i + 1) (i + 1) (out ++ [s.extract m i]) (by omega) (Nat.le_refl _) (by simp; omega)
      dsimp only at ih
      refine Ev.mk' K fun k hk => ?_
      simp only [qb2.l0, Int.toNat_natCast]
      rw [if_pos (by omega), if_pos (by omega), if_pos (by rw [hb, hc]; rfl), if_pos (by omega), if_pos (by omega), if_pos (by omega), if_pos (by omega), qbf (by omega) (by omega), show ((i : Int) + 1) = ((i + 1 : Nat) : Int) by omega, ih k hk, hd]
      simp only [qmj]
      have e0 : (s.data.toList.take (i + 1)).drop (i + 1) = [] := List.drop_eq_nil_of_le (by rw [List.length_take]; omega)
      rw [if_pos hc, qqN, e0]
      simp
    · obtain ⟨K, ih⟩ := qoz s hz d (i + 1) m out (by omega) (by omega) (by omega)
      dsimp only at ih
      refine Ev.mk' K fun k hk => ?_
      simp only [qb2.l0]
      rw [if_pos (by omega), if_pos (by omega), if_neg (by
        rw [hb]; intro h_; exact hc (u8_eq (n := 58) (by decide) h_)), qbf (by omega) (by omega), show ((i : Int) + 1) = ((i + 1 : Nat) : Int) by omega, ih k hk, hd]
      simp only [qmj]
      rw [if_neg hc, List.take_succ_eq_append_getElem (by omega), List.drop_append_of_le_length (by rw [List.length_take]; omega)]
theorem qq9 (s : ByteArray) (hz : s.size ≤ 1048576) : Ev (fun k => qb2.f k s 58) ((qmj [] s.data.toList).map (fun p => (⟨p.toArray⟩ : ByteArray))) := by
  obtain ⟨K, h⟩ := qoz s hz s.size 0 0 [] (by omega) (Nat.le_refl _) (by simpa using hz)
  exact ⟨K, fun k hk => by show qb2.l0 k s 58 [] 0 0 = _; simpa using h k hk⟩
def qqA : Nat → Int
  | 0 => 1
  | d + 1 => 10 * qqA d
theorem qkI : ∀ d, 1 ≤ qqA d
  | 0 => by decide
  | d + 1 => by have := qkI d; simp only [qqA]; omega
theorem qt5 (s : ByteArray) (hz : s.size ≤ 6) : ∀ (d i : Nat) (a : Int), i + d = s.size → 0 ≤ a → (a + 1) * qqA d ≤ 1000000000000 → ∃ n : Int, Ev (fun k => qaV.l0 k s a (i : Int)) n ∧ (n = -1 ∨ a ≤ n) ∧ (1 ≤ d → n = -1 ∨ 10 * a ≤ n)
  | 0, i, a, h, h0, hb => ⟨a, Ev.mk' 0 fun k _ => by
      simp only [qaV.l0]
      rw [if_neg (by omega)], .inr (Int.le_refl _), fun h_ => absurd h_ (by omega)⟩
  | d + 1, i, a, h, h0, hb => by
    have hp := qkI d
    have ha : a ≤ 1000000000000 := by
      have h1 : (a + 1) * 1 ≤ (a + 1) * qqA (d + 1) := Int.mul_le_mul_of_nonneg_left (qkI _) (by omega)
      omega
    by_cases c1 : bt s (i : Int) < 48
    · exact ⟨-1, Ev.mk' 0 fun k _ => by
        simp only [qaV.l0]
        rw [if_pos (by omega), if_pos (by omega), if_pos c1], .inl rfl, fun _ => .inl rfl⟩
    · by_cases c2 : bt s (i : Int) > 57
      · exact ⟨-1, Ev.mk' 0 fun k _ => by
          simp only [qaV.l0]
          rw [if_pos (by omega), if_pos (by omega), if_neg c1, if_pos c2], .inl rfl, fun _ => .inl rfl⟩
      · obtain ⟨x, hx⟩ : ∃ x, x = bt s (i : Int) - 48 := ⟨_, rfl⟩
        have hb2 : (10 * a + x + 1) * qqA d ≤ 1000000000000 := by
          have h1 : (10 * a + x + 1) * qqA d ≤ (10 * (a + 1)) * qqA d := Int.mul_le_mul_of_nonneg_right (by omega) (by omega)
          have h2 : (10 * (a + 1)) * qqA d = (a + 1) * qqA (d + 1) := by simp only [qqA]; rw [Int.mul_comm 10 (a + 1), Int.mul_assoc]
          omega
        obtain ⟨n, ⟨K, ih⟩, hn1, -⟩ := qt5 s hz d (i + 1) (10 * a + x) (by omega) (by omega) hb2
        dsimp only at ih
        refine ⟨n, Ev.mk' K fun k hk => ?_, by omega, fun _ => by omega⟩
        simp only [qaV.l0]
        rw [if_pos (by omega), if_pos (by omega), if_neg c1, if_neg c2, ← hx, qbf (n := 10 * a) (by omega) (by omega), show x % 256 = x by omega, qbf (n := 10 * a + x) (by omega) (by omega), qbf (n := (i : Int) + 1) (by omega) (by omega), show ((i : Int) + 1) = ((i + 1 : Nat) : Int) by omega, ih k hk]
theorem l1In_ok' (a b c : Int) : qbF.f a b c = some (decide (b ≤ a) && decide (a ≤ c)) := by
  unfold qbF.f
  by_cases h1 : b ≤ a
  · by_cases h2 : a ≤ c <;> simp [h1, h2]
  · simp [h1]
theorem qq3 (s : ByteArray) (c2 : s.size = 1) : ∀ k, qaV.f (k + 3) s = (if bt s 0 < 48 then some (-1) else if bt s 0 > 57 then some (-1) else some (bt s 0 - 48)) := by
  have e1 : (decide ((1 : Int) ≤ (s.size : Int)) && decide ((s.size : Int) ≤ 6)) = true := by rw [decide_eq_true (show (1 : Int) ≤ (s.size : Int) by omega), decide_eq_true (show (s.size : Int) ≤ 6 by omega)]; rfl
  have hb := qnF s 0 (by omega)
  have hb0 : (0 : Int) ≤ bt s 0 := by have h_ : bt s ((0 : Nat) : Int) = _ := hb; have h2_ : bt s 0 = bt s ((0 : Nat) : Int) := rfl; omega
  intro k
  have hd : decide ((s.size : Int) > 1) = false := decide_eq_false (by omega)
  have e2 : qaV.f (k + 3) s = qaV.j0 (k + 3) s false := by
    simp only [qaV.f, l1In_ok', e1, qaS, if_true]
    rw [if_pos (by omega), hd]
    split <;> rfl
  rw [e2]
  simp only [qaV.j0, qaV.l0, Bool.false_eq_true, if_false]
  rw [if_pos (by omega), if_pos (by omega)]
  by_cases h48 : bt s 0 < 48
  · rw [if_pos h48, if_pos h48]
  · rw [if_neg h48, if_neg h48]
    by_cases h57 : bt s 0 > 57
    · rw [if_pos h57, if_pos h57]
    · rw [if_neg h57, if_neg h57, if_neg (by rw [qbf (by omega) (by omega)]; omega)]
      rw [show (bt s 0 - 48) % 256 = bt s 0 - 48 by omega, qbf (n := 10 * 0) (by omega) (by omega), qbf (by omega) (by omega)]
      congr 1; omega
theorem read_any (s : ByteArray) : ∃ n : Int, Ev (fun k => qaV.f k s) n ∧ ∀ m : Nat, n = (m : Int) → m ≤ 3 → s.data.toList = [UInt8.ofNat (48 + m)] := by
  have hl : s.data.toList.length = s.size := Array.length_toList
  by_cases c1 : 1 ≤ s.size ∧ s.size ≤ 6
  · have e1 : (decide ((1 : Int) ≤ (s.size : Int)) && decide ((s.size : Int) ≤ 6)) = true := by rw [decide_eq_true (show (1 : Int) ≤ (s.size : Int) by omega), decide_eq_true (show (s.size : Int) ≤ 6 by omega)]; rfl
    by_cases c2 : s.size = 1
    ·
      have hb := qnF s 0 (by omega)
      have hL : s.data.toList = [s.data.toList[0]'(by omega)] := by
        apply List.ext_getElem (by simp; omega)
        intro i h1 h2
        have : i = 0 := by simp at h2; exact h2
        subst this; rfl
      have hb0 : (0 : Int) ≤ bt s 0 := by have h_ : bt s ((0 : Nat) : Int) = _ := hb; have h2_ : bt s 0 = bt s ((0 : Nat) : Int) := rfl; omega
      have hj := qq3 s c2
      by_cases h48 : bt s 0 < 48
      · exact ⟨-1, ⟨3, fun k hk => by obtain ⟨j, rfl⟩ : ∃ j, k = j + 3 := ⟨k - 3, by omega⟩; show qaV.f (j + 3) s = _; rw [hj, if_pos h48]⟩, fun m hm _ => by omega⟩
      · by_cases h57 : bt s 0 > 57
        · exact ⟨-1, ⟨3, fun k hk => by obtain ⟨j, rfl⟩ : ∃ j, k = j + 3 := ⟨k - 3, by omega⟩; show qaV.f (j + 3) s = _; rw [hj, if_neg h48, if_pos h57]⟩, fun m hm _ => by omega⟩
        · refine ⟨bt s 0 - 48, ⟨3, fun k hk => by obtain ⟨j, rfl⟩ : ∃ j, k = j + 3 := ⟨k - 3, by omega⟩; show qaV.f (j + 3) s = _; rw [hj, if_neg h48, if_neg h57]⟩, fun m hm h3 => ?_⟩
          rw [hL, u8_eq (x := s.data.toList[0]'(by omega)) (n := 48 + m) (by omega) (by have h_ : bt s 0 = _ := hb; rw [← h_]; omega)]
    ·
      have hd : decide ((s.size : Int) > 1) = true := decide_eq_true (by omega)
      by_cases c3 : bt s 0 = 48
      · exact ⟨-1, Ev.mk' 0 fun k _ => by
          simp only [qaV.f, l1In_ok', e1, qaS, if_true]
          rw [if_pos (by omega), if_pos c3, hd]
          simp only [qaV.j0, if_true], fun m hm _ => by omega⟩
      · by_cases c4 : bt s 0 < 48
        · exact ⟨-1, ⟨3, fun k hk => by
            obtain ⟨j, rfl⟩ : ∃ j, k = j + 3 := ⟨k - 3, by omega⟩
            simp only [qaV.f, l1In_ok', e1, qaS, if_true]
            rw [if_pos (by omega), if_neg c3]
            simp only [qaV.j0, qaV.l0, Bool.false_eq_true, if_false]
            rw [if_pos (by omega), if_pos (by omega), if_pos c4]⟩, fun m hm _ => by omega⟩
        · by_cases c5 : bt s 0 > 57
          · exact ⟨-1, ⟨3, fun k hk => by
              obtain ⟨j, rfl⟩ : ∃ j, k = j + 3 := ⟨k - 3, by omega⟩
              simp only [qaV.f, l1In_ok', e1, qaS, if_true]
              rw [if_pos (by omega), if_neg c3]
              simp only [qaV.j0, qaV.l0, Bool.false_eq_true, if_false]
              rw [if_pos (by omega), if_pos (by omega), if_neg c4, if_pos c5]⟩, fun m hm _ => by omega⟩
          · obtain ⟨x, hx⟩ : ∃ x, x = bt s 0 - 48 := ⟨_, rfl⟩
            obtain ⟨d, hd1⟩ : ∃ d, s.size = d + 2 := ⟨s.size - 2, by omega⟩
            have hT : (x + 1) * qqA (d + 1) ≤ 1000000000000 := by
              have h1 : qqA (d + 1) ≤ 100000 := by
                have : d = 0 ∨ d = 1 ∨ d = 2 ∨ d = 3 ∨ d = 4 := by omega
                rcases this with rfl | rfl | rfl | rfl | rfl <;> decide
              have h2 : (x + 1) * qqA (d + 1) ≤ 10 * qqA (d + 1) := Int.mul_le_mul_of_nonneg_right (by omega) (by have := qkI (d + 1); omega)
              omega
            obtain ⟨n, ⟨K, ih⟩, -, hn⟩ := qt5 s c1.2 (d + 1) 1 x (by omega) (by omega) hT
            have ih : ∀ k, K ≤ k → qaV.l0 k s x 1 = some n := ih
            refine ⟨n, ⟨K + 2, fun k hk => ?_⟩, fun m hm h3 => ?_⟩
            · obtain ⟨j, rfl⟩ : ∃ j, k = j + 2 := ⟨k - 2, by omega⟩
              simp only [qaV.f, l1In_ok', e1, qaS, if_true]
              rw [if_pos (by omega), if_neg c3]
              simp only [qaV.j0, qaV.l0, Bool.false_eq_true, if_false]
              rw [if_pos (by omega), if_pos (by omega), if_neg c4, if_neg c5, ← hx, qbf (n := 10 * 0) (by omega) (by omega), show x % 256 = x by omega, qbf (n := 10 * 0 + x) (by omega) (by omega), qbf (n := (0 : Int) + 1) (by omega) (by omega), show (10 * 0 + x : Int) = x by omega, show ((0 : Int) + 1) = 1 by omega, ih j (by omega)]
            · have := hn (by omega); omega
  · have e1 : (decide ((1 : Int) ≤ (s.size : Int)) && decide ((s.size : Int) ≤ 6)) = false := by
      rw [Bool.and_eq_false_iff]; simp only [decide_eq_false_iff_not]; omega
    exact ⟨-1, Ev.mk' 0 fun k _ => by
      simp only [qaV.f, l1In_ok', e1, qaS, Bool.false_eq_true, if_false, qaV.j0, if_true], fun m hm _ => by omega⟩
end Go.Proofs.YtbnmajedmajfoaaGreatDoor.P
namespace Go.Proofs.YtbnmajedmajfoaaGreatDoor.P
open Go.RowKit Go.Proofs.YtbnmajedmajfoaaGreatDoorW.qaG Go.Proofs.YtbnmajedmajfoaaGreatDoorW.PrintLast
set_option linter.unusedVariables false
set_option linter.unusedSimpArgs false
def qk7 (s : ByteArray) (b : List UInt8) (n : Nat) : Prop := s.data.toList = b ++ [58, UInt8.ofNat (48 + n)] ∧ n ≤ 3 ∧ qdu ⟨b.toArray⟩ (n : Int) = true
theorem qqR {s : ByteArray} {n : Int} (h : qdu s n = true) : 1 ≤ s.size ∧ s.size ≤ 48 ∧ s.data.toList.all sign = true ∧ 0 ≤ n ∧ n ≤ 3 := by
  unfold qdu at h
  simp only [Bool.and_eq_true, decide_eq_true_eq] at h
  exact ⟨h.1, h.2.1, h.2.2.1, h.2.2.2.1, h.2.2.2.2⟩
theorem qud (b : List UInt8) (h : b.all sign = true) : b.all (fun y => y != 58) = true := by
  refine List.all_eq_true.2 fun y hy => ?_
  have := List.all_eq_true.1 h y hy
  simp only [sign, Bool.or_eq_true, beq_iff_eq] at this
  rcases this with rfl | rfl | rfl <;> decide
theorem digit_ne (n : Nat) (h : n ≤ 3) : UInt8.ofNat (48 + n) ≠ 58 := by
  have : n = 0 ∨ n = 1 ∨ n = 2 ∨ n = 3 := by omega
  rcases this with rfl | rfl | rfl | rfl <;> decide
theorem qrV (n : Nat) (h : n ≤ 3) : Ev (fun k => qaV.f k ⟨#[UInt8.ofNat (48 + n)]⟩) (n : Int) := by
  have hb : bt (⟨#[UInt8.ofNat (48 + n)]⟩ : ByteArray) 0 = ((48 + n : Nat) : Int) := by
    have e := qnF (⟨#[UInt8.ofNat (48 + n)]⟩ : ByteArray) 0 (show 0 < 1 by omega)
    have e2 : ((⟨#[UInt8.ofNat (48 + n)]⟩ : ByteArray).data.toList[0]'(show 0 < 1 by omega)) = UInt8.ofNat (48 + n) := rfl
    rw [e2, UInt8.toNat_ofNat_of_lt' (show 48 + n < 256 by omega)] at e
    exact e
  refine ⟨3, fun k hk => ?_⟩
  obtain ⟨j, rfl⟩ : ∃ j, k = j + 3 := ⟨k - 3, by omega⟩
  show qaV.f (j + 3) _ = _
  rw [qq3 _ rfl, hb, if_neg (by omega), if_neg (by omega)]
  congr 1; omega
theorem qoU {s : ByteArray} {b : List UInt8} {n : Nat} (h : qk7 s b n) : s.size = b.length + 2 ∧ 1 ≤ b.length ∧ b.length ≤ 48 ∧ b.all sign = true := by
  have h1 := congrArg List.length h.1
  obtain ⟨g1, g2, g3, -, -⟩ := qqR h.2.2
  have e : (⟨b.toArray⟩ : ByteArray).size = b.length := by show b.toArray.size = b.length; simp
  have hl : s.data.toList.length = s.size := Array.length_toList
  simp only [List.length_append, List.length_cons, List.length_nil] at h1
  exact ⟨by omega, by omega, by omega, g3⟩
theorem qpv {s : ByteArray} {b : List UInt8} {n : Nat} (h : qk7 s b n) : Ev (fun k => qaN.f k s) ((⟨b.toArray⟩ : ByteArray), (n : Int), true) := by
  obtain ⟨z1, z2, z3, z4⟩ := qoU h
  obtain ⟨K1, h1⟩ := qq9 s (by omega)
  rw [h.1, qpx b [] _ (qud b z4) (digit_ne n h.2.1)] at h1
  obtain ⟨K2, h2⟩ := qrV n h.2.1
  obtain ⟨K3, h3⟩ := qfP ⟨b.toArray⟩ n
  rw [h.2.2] at h3
  dsimp only at h1 h2 h3
  simp only [List.map_cons, List.map_nil, List.nil_append] at h1
  refine ⟨K1 + K2 + K3 + 1, fun k hk => ?_⟩
  obtain ⟨j, rfl⟩ : ∃ j, k = j + 1 := ⟨k - 1, by omega⟩
  simp only [qaN.f, h1 (j + 1) (by omega), qaS]
  rw [if_neg (by omega)]
  simp only [qaN.j0, List.length_cons, List.length_nil]
  have e0 : qgL ByteArray.empty [(⟨b.toArray⟩ : ByteArray), (⟨[UInt8.ofNat (48 + n)].toArray⟩ : ByteArray)] 0 = ⟨b.toArray⟩ := rfl
  have e1 : qgL ByteArray.empty [(⟨b.toArray⟩ : ByteArray), (⟨[UInt8.ofNat (48 + n)].toArray⟩ : ByteArray)] 1 = ⟨#[UInt8.ofNat (48 + n)]⟩ := rfl
  rw [if_neg (by decide), if_pos (by decide), if_pos (by decide), e0, e1, h2 j (by omega), qaS, h3 j (by omega), qaS, if_pos rfl]
theorem qpw {s : ByteArray} (hz : s.size ≤ 1048576) (h : ∀ b n, ¬ qk7 s b n) : Ev (fun k => qaN.f k s) ((⟨#[]⟩ : ByteArray), (0 : Int), false) := by
  obtain ⟨K1, h1⟩ := qq9 s hz
  dsimp only at h1
  by_cases c1 : (s.size : Int) > 50
  · refine ⟨K1 + 1, fun k hk => ?_⟩
    obtain ⟨j, rfl⟩ : ∃ j, k = j + 1 := ⟨k - 1, by omega⟩
    simp only [qaN.f, h1 (j + 1) (by omega), qaS]
    rw [if_pos c1]; simp only [qaN.j0, if_true]
  · by_cases c2 : (qmj [] s.data.toList).length = 2
    · obtain ⟨p, q, hpq⟩ : ∃ p q, qmj [] s.data.toList = [p, q] := by
        match hm : qmj [] s.data.toList, c2 with
        | [p, q], _ => exact ⟨p, q, rfl⟩
      have hs := qq8 _ _ _ _ hpq
      rw [List.nil_append] at hs
      rw [hpq] at h1
      obtain ⟨n, ⟨K2, h2⟩, hn⟩ := read_any ⟨q.toArray⟩
      obtain ⟨K3, h3⟩ := qfP ⟨p.toArray⟩ n
      dsimp only at h2 h3
      have hf : qdu ⟨p.toArray⟩ n = false := by
        rw [Bool.eq_false_iff]
        intro hg
        obtain ⟨-, -, -, g4, g5⟩ := qqR hg
        have hq := hn n.toNat (by omega) (by omega)
        refine h p n.toNat ⟨?_, by omega, by rw [show ((n.toNat : Nat) : Int) = n by omega]; exact hg⟩
        rw [hs, show q = [UInt8.ofNat (48 + n.toNat)] from hq]
      rw [hf] at h3
      refine ⟨K1 + K2 + K3 + 1, fun k hk => ?_⟩
      obtain ⟨j, rfl⟩ : ∃ j, k = j + 1 := ⟨k - 1, by omega⟩
      simp only [qaN.f, h1 (j + 1) (by omega), qaS, List.map_cons, List.map_nil]
      rw [if_neg c1]
      simp only [qaN.j0, List.length_cons, List.length_nil]
      have e0 : qgL ByteArray.empty [(⟨p.toArray⟩ : ByteArray), (⟨q.toArray⟩ : ByteArray)] 0 = ⟨p.toArray⟩ := rfl
      have e1 : qgL ByteArray.empty [(⟨p.toArray⟩ : ByteArray), (⟨q.toArray⟩ : ByteArray)] 1 = ⟨q.toArray⟩ := rfl
      rw [if_neg (by decide), if_pos (by decide), if_pos (by decide), e0, e1, h2 j (by omega), qaS, h3 j (by omega), qaS, if_neg (by decide)]
    · refine ⟨K1 + 1, fun k hk => ?_⟩
      obtain ⟨j, rfl⟩ : ∃ j, k = j + 1 := ⟨k - 1, by omega⟩
      simp only [qaN.f, h1 (j + 1) (by omega), qaS, List.length_map]
      rw [if_neg c1, bne_iff_ne.2 (by omega)]; simp only [qaN.j0, if_true]
theorem ql1 : ∀ (b : List UInt8) (r : List UInt8), b.all (fun y => y != 58) = true → Lib.index (b ++ 58 :: r) [58] = (b.length : Int)
  | [], r, h => by simp [Lib.index, List.isPrefixOf]
  | c :: b, r, h => by
    rw [List.all_cons, Bool.and_eq_true] at h
    have hc : ((58 : UInt8) == c) = false := by
      have := h.1; rw [beq_eq_false_iff_ne]; intro e; subst e; simp at this
    have ih := ql1 b r h.2
    rw [List.cons_append, Lib.index, ih]
    have hp : ([58] : List UInt8).isPrefixOf (c :: (b ++ 58 :: r)) = false := by simp [List.isPrefixOf, hc]
    rw [hp]
    have hb : ((b.length : Int) == -1) = false := beq_eq_false_iff_ne.2 (by omega)
    simp [hb]
theorem itoa_ok (n : Int) (h0 : 0 ≤ n) (h1 : n ≤ 3) : strconv_Itoa.f n = some ⟨#[UInt8.ofNat (48 + n.toNat)]⟩ := by
  have e : strconv_Itoa.f n = some ⟨(Lib.decDigits n.toNat).toArray⟩ := by unfold strconv_Itoa.f; rw [if_pos (by omega)]
  rw [Lib.decDigits_one (by omega)] at e
  exact e
theorem qqB (b : ByteArray) (n : Int) (hg : qdu b n = true) : ∃ t, qbu.f b n = some t ∧ t.data.toList = b.data.toList ++ [58, UInt8.ofNat (48 + n.toNat)] := by
  obtain ⟨g1, g2, -, g4, g5⟩ := qqR hg
  have e1 : (b ++ (⟨#[58]⟩ : ByteArray)).size = b.size + 1 := by rw [ByteArray.size_append]; rfl
  refine ⟨(b ++ (⟨#[58]⟩ : ByteArray)) ++ ⟨#[UInt8.ofNat (48 + n.toNat)]⟩, ?_, by simp [ByteArray.data_append]⟩
  have e2 : (⟨#[UInt8.ofNat (48 + n.toNat)]⟩ : ByteArray).size = 1 := rfl
  simp only [qbu.f, itoa_ok n g4 g5, qaS]
  rw [if_pos (by omega), if_pos (by rw [e1, e2]; omega)]
theorem ql0 {s : ByteArray} {b : List UInt8} {n : Nat} (h : qk7 s b n) : qbY.f s = some ((⟨b.toArray⟩ : ByteArray), (n : Int), true) := by
  obtain ⟨z1, z2, z3, z4⟩ := qoU h
  obtain ⟨t, ht, hl⟩ := qqB ⟨b.toArray⟩ n h.2.2
  have hc : Lib.cut s.data.toList [58] = (b, [UInt8.ofNat (48 + n)], true) := by
    unfold Lib.cut
    rw [h.1, ql1 b [UInt8.ofNat (48 + n)] (qud b z4), if_pos (by omega)]
    simp
  have ha : Lib.atoiAll [UInt8.ofNat (48 + n)] = .ok (n : Int) := by
    have hn := h.2.1
    have : n = 0 ∨ n = 1 ∨ n = 2 ∨ n = 3 := by omega
    rcases this with rfl | rfl | rfl | rfl <;> rfl
  have hts : t.toList = s.toList := by
    rw [ByteArray.toList_eq, ByteArray.toList_eq, hl, h.1, Int.toNat_natCast]
  unfold qbY.f qdh.f
  rw [if_pos (by omega), hc]
  simp only [ha]
  rw [qcv, h.2.2, qaS, if_pos rfl, ht, qaS, if_pos hts, qaS]
theorem qpb {s : ByteArray} (hz : s.size ≤ 1048576) (h : ∀ b n, ¬ qk7 s b n) : qbY.f s = some ((⟨#[]⟩ : ByteArray), (0 : Int), false) := by
  unfold qbY.f qdh.f
  rw [if_pos hz]
  obtain ⟨c, hc⟩ : ∃ c, c = Lib.cut s.data.toList [58] := ⟨_, rfl⟩
  rw [← hc]
  cases ha : Lib.atoiAll c.2.1 with
  | ok v =>
    simp only []
    rw [qcv, qaS]
    by_cases hg : qdu ⟨c.1.toArray⟩ v = true
    · obtain ⟨t, ht, hl⟩ := qqB ⟨c.1.toArray⟩ v hg
      obtain ⟨-, -, -, g4, g5⟩ := qqR hg
      rw [if_pos hg, ht, qaS]
      have hne : ¬ t.toList = s.toList := by
        intro he
        rw [ByteArray.toList_eq, ByteArray.toList_eq] at he
        refine h c.1 v.toNat ⟨?_, by omega, by rw [show ((v.toNat : Nat) : Int) = v by omega]; exact hg⟩
        rw [← he, hl]
      rw [if_neg hne, qaS]
    · rw [if_neg hg, qaS]
  | _ => rfl
theorem qr2 (s : ByteArray) (hz : s.size ≤ 1048576) : ∃ v : ByteArray × Int × Bool, Ev (fun k => qaN.f k s) v ∧ qbY.f s = some v := by
  by_cases h : ∃ b n, qk7 s b n
  · obtain ⟨b, n, h⟩ := h
    exact ⟨_, qpv h, ql0 h⟩
  · have h : ∀ b n, ¬ qk7 s b n := fun b n hp => h ⟨b, n, hp⟩
    exact ⟨_, qpw hz h, qpb hz h⟩
end Go.Proofs.YtbnmajedmajfoaaGreatDoor.P
namespace Go.Proofs.YtbnmajedmajfoaaGreatDoor.P
open Go.RowKit Go.Proofs.YtbnmajedmajfoaaGreatDoorW.qaG Go.Proofs.YtbnmajedmajfoaaGreatDoorW.PrintLast
set_option linter.unusedVariables false
set_option linter.unusedSimpArgs false
theorem qqc (s : ByteArray) (n : Nat) (h : n ≤ 3) : qdu s (n : Int) = qdu s 0 := by
  unfold qdu
  rw [decide_eq_true (show (0 : Int) ≤ (n : Int) by omega), decide_eq_true (show (n : Int) ≤ 3 by omega)]
  rfl
def fewV (s : ByteArray) (n : Nat) : Nat → Int × Bool
  | 0 => (0, false)
  | d + 1 => if 0 < (answers s n).length then ((n : Int), true) else fewV s (n + 1) d
theorem qm5 (s : ByteArray) (hg : qdu s 0 = true) : ∀ (d n : Nat), n + d = 4 → Ev (fun k => qbs.l0 k s (n : Int)) (fewV s n d)
  | 0, n, h => Ev.mk' 0 fun k _ => by
    simp only [qbs.l0, fewV]
    rw [if_neg (by omega)]
  | d + 1, n, h => by
    obtain ⟨g1, g2, g3, g4, g5⟩ := qez hg
    obtain ⟨K1, h1⟩ := qm5 s hg d (n + 1) (by omega)
    obtain ⟨K3, h3⟩ := qiB s g3 g2 n 1 (by omega) (by omega)
    dsimp only at h1
    have h3 : ∀ k, K3 ≤ k → qbZ.f k s (n : Int) 1 = _ := h3
    refine Ev.mk' (K1 + K3) fun k hk => ?_
    simp only [qbs.l0, fewV, qcv, qqc s n (by omega), hg, h3 k (by omega), qaS]
    rw [if_pos (by omega), if_pos trivial, show wrap64 ((n : Int) + 1) = ((n + 1 : Nat) : Int) from qbf (by omega) (by omega), h1 k (by omega), List.length_take]
    by_cases c : 0 < (answers s n).length
    · rw [if_pos (by omega), if_pos c]
    · rw [if_neg (by omega), if_neg c]
theorem qlY (s : ByteArray) (hg : qdu s 0 = false) : ∀ (d n : Nat), n + d = 4 → Ev (fun k => qbs.l0 k s (n : Int)) ((0 : Int), false)
  | 0, n, h => Ev.mk' 0 fun k _ => by
    simp only [qbs.l0]
    rw [if_neg (by omega)]
  | d + 1, n, h => by
    obtain ⟨K1, h1⟩ := qlY s hg d (n + 1) (by omega)
    dsimp only at h1
    refine Ev.mk' K1 fun k hk => ?_
    simp only [qbs.l0, qcv, qqc s n (by omega), hg, qaS]
    rw [if_pos (by omega), if_neg (by decide), show wrap64 ((n : Int) + 1) = ((n + 1 : Nat) : Int) from qbf (by omega) (by omega), h1 k (by omega)]
def qnM (s : ByteArray) : Int × Bool := if qdu s 0 = true then fewV s 0 4 else (0, false)
theorem FewestI (s : ByteArray) : Ev (fun k => qbs.f k s) (qnM s) := by
  unfold qnM
  by_cases hg : qdu s 0 = true
  · obtain ⟨K3, h3⟩ := qm5 s hg 4 0 (by omega)
    rw [if_pos hg]
    exact ⟨K3, fun k hk => h3 k hk⟩
  · have hf := Bool.eq_false_iff.2 hg
    obtain ⟨K3, h3⟩ := qlY s hf 4 0 (by omega)
    rw [if_neg hg]
    exact ⟨K3, fun k hk => h3 k hk⟩
theorem qtm (s : ByteArray) : ∀ (d n q : Nat), n ≤ q → q < n + d → 0 < (answers s q).length → (fewV s n d).2 = true ∧ (fewV s n d).1 ≤ (q : Int)
  | 0, n, q, h0, h1, ha => by omega
  | d + 1, n, q, h0, h1, ha => by
    simp only [fewV]
    by_cases c : 0 < (answers s n).length
    · rw [if_pos c]; exact ⟨rfl, by show (n : Int) ≤ q; omega⟩
    · rw [if_neg c]
      exact qtm s d (n + 1) q (by
        by_cases e : n = q
        · subst e; exact absurd ha c
        · omega) (by omega) ha
end Go.Proofs.YtbnmajedmajfoaaGreatDoor.P
namespace Go.Proofs.YtbnmajedmajfoaaGreatDoor.P
open Go.RowKit Go.Proofs.YtbnmajedmajfoaaGreatDoorW.qaG Go.Proofs.YtbnmajedmajfoaaGreatDoorW.PrintLast
set_option linter.unusedVariables false
set_option linter.unusedSimpArgs false
theorem qoX (l : List qaj) (hm : l.length ≤ 1000) : ∀ d i : Nat, i + d = l.length → Ev (fun k => qbd.l0 k l l (l.length : Int) (i : Int)) true
  | 0, i, h => Ev.mk' 0 fun k _ => by
    simp only [qbd.l0]
    rw [if_neg (by omega)]
  | d + 1, i, h => by
    obtain ⟨K, ih⟩ := qoX l hm d (i + 1) (by omega)
    dsimp only at ih
    refine Ev.mk' K fun k hk => ?_
    simp only [qbd.l0, beq_self_eq_true, Bool.not_true, Bool.or_self, Bool.false_eq_true, if_false]
    rw [if_pos (by omega), if_pos (by omega), if_pos (by omega), qbf (by omega) (by omega), show ((i : Int) + 1) = ((i + 1 : Nat) : Int) by omega, ih k hk]
    simp; omega
theorem qjl (l : List qaj) (hm : l.length ≤ 1000) : Ev (fun k => qbd.f k l l) true := by
  obtain ⟨K, h⟩ := qoX l hm l.length 0 (by omega)
  refine ⟨K, fun k hk => ?_⟩
  simp only [qbd.f]
  rw [if_pos trivial]
  exact h k hk
theorem qlr (L : List (List qaj)) (hm : L.length ≤ 1000) (hr : ∀ l ∈ L, l.length ≤ 1000) : ∀ d i : Nat, i + d = L.length → Ev (fun k => qbN.l0 k L L (L.length : Int) (i : Int)) true
  | 0, i, h => Ev.mk' 0 fun k _ => by
    simp only [qbN.l0]
    rw [if_neg (by omega)]
  | d + 1, i, h => by
    obtain ⟨K, ih⟩ := qlr L hm hr d (i + 1) (by omega)
    have hmem : qar L i ∈ L := by
      have e : qar L (i : Int) = L[i]'(by omega) := by simp [qar, List.getD, show i < L.length by omega]
      rw [e]; exact List.getElem_mem _
    obtain ⟨K2, h2⟩ := qjl (qar L i) (hr _ hmem)
    dsimp only at ih h2
    refine Ev.mk' (K + K2) fun k hk => ?_
    simp only [qbN.l0, h2 k (by omega), qaS, if_true]
    rw [if_pos (by omega), if_pos (by omega), if_pos (by omega), qbf (by omega) (by omega), show ((i : Int) + 1) = ((i + 1 : Nat) : Int) by omega, ih k (by omega)]
    simp; omega
theorem qp9 (L : List (List qaj)) (hm : L.length ≤ 1000) (hr : ∀ l ∈ L, l.length ≤ 1000) : Ev (fun k => qbN.f k L L) true := by
  obtain ⟨K, h⟩ := qlr L hm hr L.length 0 (by omega)
  refine ⟨K, fun k hk => ?_⟩
  simp only [qbN.f]
  rw [if_pos trivial]
  exact h k hk
theorem gIn_l0 (a : List qaj) (x : qaj) (hm : a.length ≤ 1000) : ∀ (d i k : Nat), i + d = a.length → d < k → qcS.l0 k a a.length i x.f0 x.f1 = some (qkp x (a.drop i))
  | 0, i, k, h, hk => by
    obtain ⟨k, rfl⟩ : ∃ k', k = k' + 1 := ⟨k - 1, by omega⟩
    simp only [qcS.l0]
    rw [if_neg (by omega), List.drop_eq_nil_of_le (by omega)]; rfl
  | d + 1, i, k, h, hk => by
    obtain ⟨k, rfl⟩ : ∃ k', k = k' + 1 := ⟨k - 1, by omega⟩
    have ih := gIn_l0 a x hm d (i + 1) k (by omega) (by omega)
    simp only [qcS.l0]
    rw [if_pos (by omega), if_pos (by omega), if_pos (by omega), qbf (by omega) (by omega), show ((i : Int) + 1) = ((i + 1 : Nat) : Int) by omega, ih, qic a i (by omega)]
    unfold qkp
    rw [List.any_cons]
    by_cases c : ((qab a i).f0 == x.f0 && (qab a i).f1 == x.f1) = true
    · rw [if_pos c, c]; rfl
    · rw [if_neg c, Bool.eq_false_iff.2 c]; rfl
theorem qqQ (a : List qaj) (f0 f1 : Int) (hm : a.length ≤ 1000) (k : Nat) (hk : 1001 ≤ k) : qcS.f k a f0 f1 = some (qkp ⟨f0, f1⟩ a) := by
  have h := gIn_l0 a ⟨f0, f1⟩ hm a.length 0 k (by omega) (by omega)
  rw [List.drop_zero] at h
  exact h
theorem qrH (a b : qaj) : qdJ.f a.f0 a.f1 b.f0 b.f1 = some (qhC a b) := by
  unfold qdJ.f qhC
  by_cases h : a.f0 < b.f0
  · rw [if_pos h, decide_eq_true h, Bool.true_or]
  · rw [if_neg h, decide_eq_false h, Bool.false_or]
    by_cases e : a.f0 = b.f0
    · rw [if_pos e, beq_iff_eq.2 e, Bool.true_and]
    · rw [if_neg e, beq_eq_false_iff_ne.2 e, Bool.false_and]
theorem qnO {x : qaj} {a : List qaj} (h : x ∈ a) : qkp x a = true := List.any_eq_true.2 ⟨x, h, by simp⟩
end Go.Proofs.YtbnmajedmajfoaaGreatDoor.P
namespace Go.Proofs.YtbnmajedmajfoaaGreatDoor.P
open Go.RowKit Go.Proofs.YtbnmajedmajfoaaGreatDoorW.qaG Go.Proofs.YtbnmajedmajfoaaGreatDoorW.PrintLast
set_option linter.unusedVariables false
set_option linter.unusedSimpArgs false
theorem qqw (l : List qaj) (hm : l.length ≤ 12) (hl : l.all qci = true) (hi : Int) (h2 : hi ≤ 48) : ∀ (m : Nat) (i : Int) (acc : ByteArray), i + m = hi + 1 → 1 ≤ i → acc.size + m ≤ 1000 → Ev (fun k => qbi.l0 k l hi acc i) (patB l i m acc, true)
  | 0, i, acc, h, h0, h1 => Ev.mk' 0 fun k _ => by
    simp only [qbi.l0]
    rw [if_neg (by omega)]; rfl
  | m + 1, i, acc, h, h0, h1 => by
    obtain ⟨K1, h3⟩ := qpt i l (by omega) hl
    dsimp only at h3
    simp only [patB]
    by_cases hc : left l i = true
    · obtain ⟨K, ih⟩ := qqw l hm hl hi h2 m (i + 1) (acc ++ (⟨#[111]⟩ : ByteArray)) (by omega) (by omega) (by rw [sz_o]; omega)
      dsimp only at ih
      refine Ev.mk' (K + K1) fun k hk => ?_
      simp only [qbi.l0, h3 k (by omega), qaS]
      rw [if_pos (by omega), if_pos hc, if_pos (by omega), qbf (by omega) (by omega), ih k (by omega), if_pos hc]
    · obtain ⟨K, ih⟩ := qqw l hm hl hi h2 m (i + 1) (acc ++ (⟨#[120]⟩ : ByteArray)) (by omega) (by omega) (by rw [sz_x]; omega)
      dsimp only at ih
      refine Ev.mk' (K + K1) fun k hk => ?_
      simp only [qbi.l0, h3 k (by omega), qaS]
      rw [if_pos (by omega), if_neg hc, if_pos (by omega), qbf (by omega) (by omega), ih k (by omega), if_neg hc]
theorem qiC (l : List qaj) (hg : qd4 l = true) (n : Int) (h0 : 1 ≤ n) (h1 : n ≤ 48) : Ev (fun k => qbi.f k l n) (pat l n, true) := by
  obtain ⟨K1, h2⟩ := qpr l
  dsimp only at h2
  obtain ⟨K2, h3⟩ := qqw l (qjm hg).1 (qjm hg).2 n h1 n.toNat 1 (⟨#[]⟩ : ByteArray) (by omega) (by omega) (by show (0 : Nat) + _ ≤ _; omega)
  have h3 : ∀ k, K2 ≤ k → qbi.l0 k l n (⟨#[]⟩ : ByteArray) 1 = _ := h3
  have e : (decide (1 ≤ n) && decide (n ≤ 48)) = true := by simp [h0, h1]
  refine Ev.mk' (K1 + K2) fun k hk => ?_
  simp (disch := omega) only [qbi.f, h2, qaS, hg, if_true, qjZ, e]
  simp (disch := omega) only [qbi.j0, h3, Bool.not_true, Bool.false_eq_true, if_false]
  rfl
def hasR (l : List qaj) (e t : Int) : Bool := l.any fun x => x.f0 == e && x.f1 == t
theorem qqU (l : List qaj) (hm : l.length ≤ 100) (e t : Int) : ∀ d i : Nat, i + d = l.length → Ev (fun k => qbR.l0 k l (l.length : Int) i e t) (hasR (l.drop i) e t)
  | 0, i, h => Ev.mk' 0 fun k _ => by
    simp only [qbR.l0]
    rw [if_neg (by omega), List.drop_of_length_le (by omega)]; rfl
  | d + 1, i, h => by
    obtain ⟨K, ih⟩ := qqU l hm e t d (i + 1) (by omega)
    dsimp only at ih
    refine Ev.mk' K fun k hk => ?_
    have ih : qbR.l0 k l (l.length : Int) ((i : Int) + 1) e t = _ := ih k hk
    rw [qic l i (by omega)]
    simp only [qbR.l0, hasR, List.any_cons] at ih ⊢
    rw [if_pos (by omega), if_pos (by omega), if_pos (by omega), qbf (by omega) (by omega), ih]
    cases ((qab l i).f0 == e && (qab l i).f1 == t) <;> simp
theorem mkHas_ev (l : List qaj) (hm : l.length ≤ 100) (e t : Int) : Ev (fun k => qbR.f k l e t) (hasR l e t) := qqU l hm e t l.length 0 (by omega)
def qgY (z : Nat) : Nat := (z * 177 + 2221) % 10007
def evN (z : Nat) : Nat := qgY z % 9 + 2
def reN (z : Nat) : Nat := qgY (qgY z) % evN z
theorem qoA (z : Nat) : qgY z ≤ 10006 := by unfold qgY; omega
theorem evN_le (z : Nat) : evN z ≤ 10 := by unfold evN; omega
theorem qtk (z : Nat) : 2 ≤ evN z := by unfold evN; omega
theorem raw (z : Nat) (h : z ≤ 10006) : Int.tmod (wrap64 ((wrap64 ((z : Int) * 177)) + 2221)) 10007 = (qgY z : Int) := by
  rw [qbf (n := (z : Int) * 177) (by omega) (by omega), qbf (by omega) (by omega), Int.tmod_eq_emod_of_nonneg (by omega)]
  unfold qgY; omega
theorem ev_nat (z : Nat) : wrap64 (Int.tmod (qgY z : Int) 9 + 2) = (evN z : Int) := by
  have := qoA z
  rw [Int.tmod_eq_emod_of_nonneg (by omega), qbf (by omega) (by omega)]
  unfold evN; omega
theorem re_nat (z : Nat) : Int.tmod (qgY (qgY z) : Int) (evN z : Int) = (reN z : Int) := by
  rw [Int.tmod_eq_emod_of_nonneg (by omega)]
  unfold reN; exact (Int.natCast_emod _ _).symm
theorem reN_lt (z : Nat) : reN z < evN z := Nat.mod_lt _ (by have := qtk z; omega)
theorem ok_draw (z : Nat) : qci ⟨(evN z : Int), (reN z : Int)⟩ = true := by
  have h1 := evN_le z; have h2 := qtk z; have h3 := reN_lt z
  exact (qfz _).2 ⟨by show (2 : Int) ≤ (evN z : Int); omega, by show (evN z : Int) ≤ 60; omega, by show (0 : Int) ≤ (reN z : Int); omega, by show (reN z : Int) < (evN z : Int); omega⟩
def run (n : Nat) : Nat → Nat → List qaj → Option (List qaj)
  | 0, _, l => bif Nat.ble n l.length then some l else none
  | f + 1, z, l => bif Nat.ble n l.length then some l else bif hasR l (evN z) (reN z) then run n f (qgY (qgY z)) l else run n f (qgY (qgY z)) (l ++ [(⟨(evN z : Int), (reN z : Int)⟩ : qaj)])
def fin (a0 : Int) (n : Nat) : Option (List qaj) → ByteArray × Int × Bool
  | some l => (pat l a0, (n : Int), true)
  | none => ((⟨#[]⟩ : ByteArray), 0, false)
theorem ble_t {a b : Nat} (h : a ≤ b) : Nat.ble a b = true := by rw [Nat.ble_eq]; exact h
theorem ble_f {a b : Nat} (h : ¬ a ≤ b) : Nat.ble a b = false := by
  cases e : Nat.ble a b with
  | false => rfl
  | true => exact absurd (by rw [Nat.ble_eq] at e; exact e) h
theorem qtp {l : List qaj} (hl : l.all qci = true) (hm : l.length ≤ 12) : qd4 l = true := by
  unfold qd4; rw [hl, Bool.and_true]; exact decide_eq_true hm
theorem qmi (a0 : Int) (h0 : 1 ≤ a0) (h1 : a0 ≤ 48) (n : Nat) (hn : n ≤ 3) : ∀ (f z : Nat) (l : List qaj) (i : Int), i + f = 20 → 0 ≤ i → z ≤ 10006 → l.all qci = true → l.length ≤ n → Ev (fun k => qaH.l0 k a0 (n : Int) (z : Int) l i) (fin a0 n (run n f z l))
  | 0, z, l, i, hi, hi0, hz, hl, hm => by
    obtain ⟨K1, h2⟩ := qiC l (qtp hl (by omega)) a0 h0 h1
    dsimp only at h2
    refine ⟨K1 + 2, fun k hk => ?_⟩
    obtain ⟨k, rfl⟩ : ∃ j, k = j + 2 := ⟨k - 2, by omega⟩
    simp only [qaH.l0, run]
    rw [if_neg (by omega)]
    simp only [qaH.j2]
    rw [if_neg (by decide)]
    by_cases c : n ≤ l.length
    · rw [ble_t c, if_neg (by omega), h2 k (by omega), qaS]; rfl
    · rw [ble_f c, if_pos (by omega)]; rfl
  | f + 1, z, l, i, hi, hi0, hz, hl, hm => by
    by_cases c : n ≤ l.length
    · obtain ⟨K1, h2⟩ := qiC l (qtp hl (by omega)) a0 h0 h1
      dsimp only at h2
      refine ⟨K1 + 2, fun k hk => ?_⟩
      obtain ⟨k, rfl⟩ : ∃ j, k = j + 2 := ⟨k - 2, by omega⟩
      simp only [qaH.l0, run]
      rw [if_pos (by omega), decide_eq_false (by omega), ble_t c]
      simp only [qaH.j2]
      rw [if_neg (by decide), if_neg (by omega), h2 k (by omega), qaS]; rfl
    · obtain ⟨K1, h2⟩ := mkHas_ev l (by omega) (evN z) (reN z)
      dsimp only at h2
      have hs := qoA z
      have hs2 := qoA (qgY z)
      have he := qtk z
      cases hh : hasR l (evN z) (reN z) with
      | true =>
        obtain ⟨K2, ih⟩ := qmi a0 h0 h1 n hn f (qgY (qgY z)) l (i + 1) (by omega) (by omega) hs2 hl hm
        dsimp only at ih
        refine ⟨K1 + K2 + 2, fun k hk => ?_⟩
        obtain ⟨k, rfl⟩ : ∃ j, k = j + 2 := ⟨k - 2, by omega⟩
        simp only [qaH.l0, run]
        rw [if_pos (by omega), decide_eq_true (by omega), ble_f c, hh]
        simp only [qaH.j2, raw z hz, raw (qgY z) hs, ev_nat, re_nat, if_true]
        rw [if_neg (by omega), h2 k (by omega), qaS, hh, if_pos rfl, qbf (by omega) (by omega), ih k (by omega)]; rfl
      | false =>
        obtain ⟨K2, ih⟩ := qmi a0 h0 h1 n hn f (qgY (qgY z)) (l ++ [(⟨(evN z : Int), (reN z : Int)⟩ : qaj)]) (i + 1) (by omega) (by omega) hs2 (by rw [List.all_append, hl]; simp [ok_draw]) (by simp; omega)
        dsimp only at ih
        refine ⟨K1 + K2 + 2, fun k hk => ?_⟩
        obtain ⟨k, rfl⟩ : ∃ j, k = j + 2 := ⟨k - 2, by omega⟩
        simp only [qaH.l0, run]
        rw [if_pos (by omega), decide_eq_true (by omega), ble_f c, hh]
        simp only [qaH.j2, raw z hz, raw (qgY z) hs, ev_nat, re_nat, if_true]
        rw [if_neg (by omega), h2 k (by omega), qaS, hh, if_neg (by decide), if_pos (by omega), qbf (by omega) (by omega), ih k (by omega)]; rfl
def qou (a0 a1 a2 : Int) : ByteArray × Int × Bool := if (1 ≤ a0 ∧ a0 ≤ 48) ∧ (0 ≤ a1 ∧ a1 ≤ 3) ∧ 0 ≤ a2 ∧ a2 ≤ 9999 then fin a0 a1.toNat (run a1.toNat 20 a2.toNat []) else ((⟨#[]⟩ : ByteArray), 0, false)
theorem qnq (a0 a1 a2 : Int) : Ev (fun k => qaH.f k a0 a1 a2) (qou a0 a1 a2) := by
  unfold qou
  by_cases hc : (1 ≤ a0 ∧ a0 ≤ 48) ∧ (0 ≤ a1 ∧ a1 ≤ 3) ∧ 0 ≤ a2 ∧ a2 ≤ 9999
  · rw [if_pos hc]
    obtain ⟨⟨h0, h1⟩, ⟨h2, h3⟩, h4, h5⟩ := hc
    have e0 : (decide (1 ≤ a0) && decide (a0 ≤ 48)) = true := by simp [h0, h1]
    have e1 : (decide (0 ≤ a1) && decide (a1 ≤ 3)) = true := by simp [h2, h3]
    have e2 : (decide (0 ≤ a2) && decide (a2 ≤ 9999)) = true := by simp [h4, h5]
    obtain ⟨n, rfl⟩ : ∃ n : Nat, a1 = (n : Int) := ⟨a1.toNat, by omega⟩
    obtain ⟨s, rfl⟩ : ∃ s : Nat, a2 = (s : Int) := ⟨a2.toNat, by omega⟩
    rw [Int.toNat_natCast, Int.toNat_natCast]
    have hn : n ≤ 3 := by omega
    have hs : s ≤ 9999 := by omega
    obtain ⟨K, h⟩ := qmi a0 h0 h1 n hn 20 s [] 0 (by omega) (by omega) (by omega) rfl (by simp)
    dsimp only at h
    refine Ev.mk' K fun k hk => ?_
    simp only [qaH.f, qjZ, qaS, e0, e1, e2, if_true]
    simp only [qaH.j0, Bool.not_true, Bool.false_eq_true, if_false, h k hk]
  · rw [if_neg hc]
    refine Ev.mk' 0 fun k hk => ?_
    simp only [qaH.f, qjZ, qaS]
    by_cases c1 : (decide (1 ≤ a0) && decide (a0 ≤ 48)) = true
    · rw [if_pos c1]
      by_cases c2 : (decide (0 ≤ a1) && decide (a1 ≤ 3)) = true
      · rw [if_pos c2]
        have c3 : (decide (0 ≤ a2) && decide (a2 ≤ 9999)) = false := by
          apply Bool.eq_false_iff.2; intro h
          simp only [Bool.and_eq_true, decide_eq_true_eq] at c1 c2 h
          exact hc ⟨c1, c2, h⟩
        rw [c3]; simp [qaH.j0]
      · rw [if_neg c2]; simp [qaH.j0]
    · rw [if_neg c1]; simp [qaH.j0]
end Go.Proofs.YtbnmajedmajfoaaGreatDoor.P
namespace Go.Proofs.YtbnmajedmajfoaaGreatDoor.P
open Go.RowKit Go.Proofs.YtbnmajedmajfoaaGreatDoorW.qaG Go.Proofs.YtbnmajedmajfoaaGreatDoorW.PrintLast
set_option linter.unusedVariables false
set_option linter.unusedSimpArgs false
theorem and255 (x : Int) : 0 ≤ Go.bits .and .u64 x 255 ∧ Go.bits .and .u64 x 255 ≤ 255 := by
  have h : (BitVec.ofInt IntKind.u64.bits x &&& BitVec.ofInt IntKind.u64.bits 255).toNat ≤ 255 := by
    rw [BitVec.toNat_and]
    exact Nat.le_trans Nat.and_le_right (by decide)
  have e : Go.bits .and .u64 x 255 = IntKind.u64.wrap ((BitVec.ofInt IntKind.u64.bits x &&& BitVec.ofInt IntKind.u64.bits 255).toNat : Int) := rfl
  rw [e]
  obtain ⟨q, hq⟩ : ∃ q, q = (BitVec.ofInt IntKind.u64.bits x &&& BitVec.ofInt IntKind.u64.bits 255).toNat := ⟨_, rfl⟩
  rw [← hq] at h ⊢
  have e2 : IntKind.u64.wrap (q : Int) = (q : Int) % 18446744073709551616 := by simp [IntKind.wrap, IntKind.bits, IntKind.signed]
  rw [e2]; omega
def qdH (c : List Int) : Prop := ∀ x ∈ c, 0 ≤ x ∧ x ≤ 255
theorem rd_in (l : List Int) (i : Int) (h0 : 0 ≤ i) (h1 : i < (l.length : Int)) : rd l i ∈ l := by
  have hi : i.toNat < l.length := by omega
  simp [rd, List.getD, hi]
theorem qtZ (c : List Int) (hc : qdH c) (p s : Int) (h0 : 0 ≤ p) (h1 : p ≤ 1000000000000) : ∃ v s', qcH.f c p s = some (v, p + 1, s') ∧ 0 ≤ v ∧ v ≤ 255 := by
  unfold qcH.f
  rw [qbf (n := p + 1) (by omega) (by omega)]
  by_cases c1 : p < (c.length : Int)
  · rw [if_pos c1, if_pos h0]
    have hb := hc _ (rd_in c p h0 c1)
    rw [if_pos (by omega), qbf (n := rd c p) (by omega) (by omega)]
    exact ⟨_, _, rfl, hb.1, hb.2⟩
  · rw [if_neg c1, if_neg (by omega)]
    have hb := and255 ((IntKind.u64.wrap ((IntKind.u64.wrap ((IntKind.u64.wrap (s * 6364136223846793005)) + 0)) + 1442695040888963407)) / 1099511627776)
    exact ⟨_, _, rfl, by rw [qbf (by omega) (by omega)]; exact hb.1, by rw [qbf (by omega) (by omega)]; exact hb.2⟩
theorem qeC (c : List Int) (hc : qdH c) (p s : Int) (h0 : 0 ≤ p) (h1 : p ≤ 100000000000) (n : Int) (hn : 1 ≤ n) (hn2 : n ≤ 100000) : ∃ r p' s', qan.f c p s n = some (r, p', s') ∧ 0 ≤ r ∧ r < n ∧ p ≤ p' ∧ p' ≤ p + 2 := by
  unfold qan.f
  by_cases c1 : n ≤ 1
  · rw [if_pos c1]; exact ⟨0, p, s, rfl, by omega, by omega, by omega, by omega⟩
  · rw [if_neg c1]
    obtain ⟨v, s1, e1, v0, v1⟩ := qtZ c hc p s h0 (by omega)
    rw [e1, qaS]
    dsimp only
    by_cases c2 : n > 200
    · rw [if_pos c2]
      obtain ⟨v2, s2, e2, w0, w1⟩ := qtZ c hc (p + 1) s1 (by omega) (by omega)
      rw [e2, qaS]
      dsimp only
      rw [if_neg (by omega), qbf (n := v * 256) (by omega) (by omega), qbf (by omega) (by omega), Int.tmod_eq_emod_of_nonneg (by omega)]
      exact ⟨_, _, _, rfl, Int.emod_nonneg _ (by omega), Int.emod_lt_of_pos _ (by omega), by omega, by omega⟩
    · rw [if_neg c2, if_neg (by omega), Int.tmod_eq_emod_of_nonneg (by omega)]
      exact ⟨_, _, _, rfl, Int.emod_nonneg _ (by omega), Int.emod_lt_of_pos _ (by omega), by omega, by omega⟩
theorem qkz (c : List Int) (hc : qdH c) (p s : Int) (h0 : 0 ≤ p) (h1 : p ≤ 100000000000) (l : List Int) (hl : 1 ≤ l.length) (hl2 : l.length ≤ 1000) : ∃ r p' s', qbE.f c p s l = some (r, p', s') ∧ r ∈ l ∧ p ≤ p' ∧ p' ≤ p + 2 := by
  obtain ⟨r, p', s', e, r0, r1, a, b⟩ := qeC c hc p s h0 h1 (l.length : Int) (by omega) (by omega)
  refine ⟨rd l r, p', s', ?_, rd_in l r r0 r1, a, b⟩
  unfold qbE.f
  rw [e, qaS]
  dsimp only
  rw [if_pos r0, if_pos r1]
theorem qph (c : List Int) (hc : qdH c) (p s : Int) (h0 : 0 ≤ p) (h1 : p ≤ 100000000000) (n : Int) (hn : 1 ≤ n) (hn2 : n ≤ 100000) : ∃ b p' s', qbH.f c p s n = some (b, p', s') ∧ p ≤ p' ∧ p' ≤ p + 2 := by
  obtain ⟨r, p', s', e, -, -, a, b⟩ := qeC c hc p s h0 h1 n hn hn2
  refine ⟨(r == 0), p', s', ?_, a, b⟩
  unfold qbH.f
  rw [e, qaS]
end Go.Proofs.YtbnmajedmajfoaaGreatDoor.P
namespace Go.Proofs.YtbnmajedmajfoaaGreatDoor.P
open Go.RowKit Go.Proofs.YtbnmajedmajfoaaGreatDoorW.qaG Go.Proofs.YtbnmajedmajfoaaGreatDoorW.PrintLast
set_option linter.unusedVariables false
set_option linter.unusedSimpArgs false
def putB (s : ByteArray) (a : Int) (g : ByteArray) : ByteArray := ((s.extract 0 (a - 1).toNat) ++ g) ++ (s.extract a.toNat s.size)
theorem size_l (s : ByteArray) (a : Int) (h0 : 1 ≤ a) (h1 : a ≤ (s.size : Int)) : (s.extract 0 (a - 1).toNat).size = (a - 1).toNat := by
  rw [ByteArray.size_extract]; omega
theorem size_r (s : ByteArray) (a : Int) : (s.extract a.toNat s.size).size = s.size - a.toNat := by
  rw [ByteArray.size_extract]; omega
theorem put_ok' (s : ByteArray) (n a : Int) (g : ByteArray) (hs : s.size ≤ 48) (hg : g.size = 1) (h0 : 1 ≤ a) (h1 : a ≤ (s.size : Int)) : qc5.f s n a g = some (putB s a g, n) := by
  have e := size_l s a h0 h1
  have e2 := size_r s a
  unfold qc5.f putB
  rw [qbf (by omega) (by omega), if_pos (by omega), if_pos (by omega), if_pos (by rw [e]; omega), if_pos (by omega), if_pos h1, if_pos (by rw [ByteArray.size_append, e, e2]; omega)]
theorem rdOf_in (l : List ByteArray) (i : Int) (h0 : 0 ≤ i) (h1 : i < (l.length : Int)) : qgL ByteArray.empty l i ∈ l := by
  have hi : i.toNat < l.length := by omega
  simp [qgL, List.getD, hi]
theorem of_ok (c : List Int) (hc : qdH c) (p s : Int) (h0 : 0 ≤ p) (h1 : p ≤ 100000000000) (l : List ByteArray) (hl : 1 ≤ l.length) (hl2 : l.length ≤ 1000) : ∃ r p' s', qcA.f c p s l = some (r, p', s') ∧ r ∈ l ∧ p ≤ p' ∧ p' ≤ p + 2 := by
  obtain ⟨r, p', s', e, r0, r1, a, b⟩ := qeC c hc p s h0 h1 (l.length : Int) (by omega) (by omega)
  refine ⟨qgL ByteArray.empty l r, p', s', ?_, rdOf_in l r r0 r1, a, b⟩
  unfold qcA.f
  rw [e, qaS]
  dsimp only
  rw [if_pos r0, if_pos r1]
theorem qt1 (s : ByteArray) (a : Int) (g : ByteArray) (hg : g.size = 1) (h0 : 1 ≤ a) (h1 : a ≤ (s.size : Int)) : (putB s a g).size = s.size := by
  unfold putB
  rw [ByteArray.size_append, ByteArray.size_append, size_l s a h0 h1, size_r s a, hg]
  omega
theorem pz_l1 (c : List Int) (hc : qdH c) (n : Int) : ∀ (d : Nat) (s : ByteArray) (p st : Int), s.size + d = 60 → 0 ≤ p → p + 4 * d ≤ 1000000000 → ∃ s' p' st', Ev (fun k => qaq.l1 k c p st s n) (s', n, p', st') ∧ s'.size ≤ 60 ∧ p ≤ p' ∧ p' ≤ p + 4 * (d + 1)
  | 0, s, p, st, h, h0, h1 => by
    obtain ⟨r, p1, s1, e1, r0, r1, a1, b1⟩ := qeC c hc p st h0 (by omega) 2 (by omega) (by omega)
    refine ⟨s, p1, s1, Ev.mk' 0 fun k _ => ?_, by omega, by omega, by omega⟩
    simp only [qaq.l1]
    rw [e1, qaS]
    dsimp only
    rw [qbf (by omega) (by omega), if_neg (by omega)]
  | d + 1, s, p, st, h, h0, h1 => by
    obtain ⟨r, p1, s1, e1, r0, r1, a1, b1⟩ := qeC c hc p st h0 (by omega) 2 (by omega) (by omega)
    obtain ⟨g, p2, s2, e2, hg, a2, b2⟩ := of_ok c hc p1 s1 (by omega) (by omega) [(⟨#[120]⟩ : ByteArray), (⟨#[111]⟩ : ByteArray), (⟨#[63]⟩ : ByteArray)] (by decide) (by decide)
    have hz : g.size = 1 := by
      simp only [List.mem_cons, List.not_mem_nil, or_false] at hg
      rcases hg with rfl | rfl | rfl <;> rfl
    by_cases c1 : (s.size : Int) < 48 + r
    · obtain ⟨s', p', st', ⟨K, hk⟩, l', a', b'⟩ := pz_l1 c hc n d (s ++ g) p2 s2 (by rw [ByteArray.size_append]; omega) (by omega) (by omega)
      dsimp only at hk
      refine ⟨s', p', st', Ev.mk' K fun k hk2 => ?_, l', by omega, by omega⟩
      simp only [qaq.l1]
      rw [e1, qaS]
      dsimp only
      rw [qbf (by omega) (by omega), if_pos c1, e2, qaS]
      dsimp only
      rw [if_pos (by omega)]
      exact hk k hk2
    · refine ⟨s, p1, s1, Ev.mk' 0 fun k _ => ?_, by omega, by omega, by omega⟩
      simp only [qaq.l1]
      rw [e1, qaS]
      dsimp only
      rw [qbf (by omega) (by omega), if_neg c1]
theorem pz_j2 (c : List Int) (hc : qdH c) (s : ByteArray) (n : Int) (hs : s.size ≤ 60) (p st : Int) (h0 : 0 ≤ p) (h1 : p ≤ 10000000) : ∃ s' n' p' st', Ev (fun k => qaq.j2 k c p st s n) (s', n', p', st') ∧ s'.size ≤ 60 ∧ p ≤ p' ∧ p' ≤ p + 1000 := by
  obtain ⟨r, p1, s1, e1, r0, r1, a1, b1⟩ := qeC c hc p st h0 (by omega) 16 (by omega) (by omega)
  by_cases c0 : r = 0
  · obtain ⟨g, p2, s2, e2, hg, a2, b2⟩ := qkz c hc p1 s1 (by omega) (by omega) [(-1), 4, 4611686018427387904] (by decide) (by decide)
    refine ⟨s, g, p2, s2, Ev.mk' 0 fun k _ => ?_, hs, by omega, by omega⟩
    simp only [qaq.j2]
    rw [e1, qaS]
    dsimp only
    rw [if_pos c0, e2, qaS]
  · by_cases c1 : r = 1
    · obtain ⟨g, p2, s2, e2, hg, a2, b2⟩ := of_ok c hc p1 s1 (by omega) (by omega) [(⟨#[]⟩ : ByteArray), (⟨#[120]⟩ : ByteArray), (⟨#[111]⟩ : ByteArray), (⟨#[63]⟩ : ByteArray), (⟨#[111, 120, 122]⟩ : ByteArray), (⟨#[120, 120, 120]⟩ : ByteArray)] (by decide) (by decide)
      have hz : g.size ≤ 3 := by
        simp only [List.mem_cons, List.not_mem_nil, or_false] at hg
        rcases hg with rfl | rfl | rfl | rfl | rfl | rfl <;> decide
      refine ⟨g, n, p2, s2, Ev.mk' 0 fun k _ => ?_, by omega, by omega, by omega⟩
      simp only [qaq.j2]
      rw [e1, qaS]
      dsimp only
      rw [if_neg c0, if_pos c1, e2, qaS]
    · by_cases c2 : r = 2
      · obtain ⟨s', p', st', ⟨K, hk⟩, l', a', b'⟩ := pz_l1 c hc n (60 - s.size) s p1 s1 (by omega) (by omega) (by omega)
        dsimp only at hk
        refine ⟨s', n, p', st', Ev.mk' K fun k hk2 => ?_, l', by omega, by omega⟩
        simp only [qaq.j2]
        rw [e1, qaS]
        dsimp only
        rw [if_neg c0, if_neg c1, if_pos c2]
        exact hk k hk2
      · refine ⟨s, n, p1, s1, Ev.mk' 0 fun k _ => ?_, hs, by omega, by omega⟩
        simp only [qaq.j2]
        rw [e1, qaS]
        dsimp only
        rw [if_neg c0, if_neg c1, if_neg c2]
theorem pz_l0 (c : List Int) (hc : qdH c) : ∀ (d : Nat) (s : ByteArray) (n : Int) (p st : Int), d ≤ 100 → 1 ≤ s.size → s.size ≤ 48 → 0 ≤ p → p + 10 * d ≤ 1000000 → ∃ s' n' p' st', Ev (fun k => qaq.l0 k (d : Int) c p st s n) (s', n', p', st') ∧ s'.size ≤ 60 ∧ p ≤ p' ∧ p' ≤ p + 10 * d + 1000
  | 0, s, n, p, st, hd, hs0, hs, h0, h1 => by
    obtain ⟨s', n', p', st', ⟨K, hk⟩, l', a', b'⟩ := pz_j2 c hc s n (by omega) p st h0 (by omega)
    dsimp only at hk
    refine ⟨s', n', p', st', Ev.mk' K fun k hk2 => ?_, l', a', by omega⟩
    simp only [qaq.l0]
    rw [if_neg (by omega)]
    exact hk k hk2
  | d + 1, s, n, p, st, hd, hs0, hs, h0, h1 => by
    obtain ⟨r, p1, s1, e1, r0, r1, a1, b1⟩ := qeC c hc p st h0 (by omega) (s.size : Int) (by omega) (by omega)
    obtain ⟨g, p2, s2, e2, hg, a2, b2⟩ := of_ok c hc p1 s1 (by omega) (by omega) [(⟨#[63]⟩ : ByteArray), (⟨#[63]⟩ : ByteArray), (⟨#[63]⟩ : ByteArray), (⟨#[111]⟩ : ByteArray), (⟨#[120]⟩ : ByteArray)] (by decide) (by decide)
    have hz : g.size = 1 := by
      simp only [List.mem_cons, List.not_mem_nil, or_false] at hg
      rcases hg with rfl | rfl | rfl | rfl | rfl <;> rfl
    have e3 := put_ok' s n (1 + r) g hs hz (by omega) (by omega)
    have hz2 := qt1 s (1 + r) g hz (by omega) (by omega)
    obtain ⟨b, p4, s4, e4, a4, b4⟩ := qph c hc p2 s2 (by omega) (by omega) 2 (by omega) (by omega)
    cases b with
    | true =>
      obtain ⟨s', n', p', st', ⟨K, hk⟩, l', a', b'⟩ := pz_j2 c hc (putB s (1 + r) g) n (by omega) p4 s4 (by omega) (by omega)
      dsimp only at hk
      refine ⟨s', n', p', st', Ev.mk' K fun k hk2 => ?_, l', by omega, by omega⟩
      simp only [qaq.l0]
      rw [if_pos (by omega), e1, qaS]
      dsimp only
      rw [e2, qaS]
      dsimp only
      rw [qbf (by omega) (by omega), e3, qaS]
      dsimp only
      rw [e4, qaS]
      dsimp only
      rw [if_pos rfl]
      exact hk k hk2
    | false =>
      obtain ⟨s', n', p', st', ⟨K, hk⟩, l', a', b'⟩ := pz_l0 c hc d (putB s (1 + r) g) n p4 s4 (by omega) (by omega) (by omega) (by omega) (by omega)
      dsimp only at hk
      refine ⟨s', n', p', st', Ev.mk' K fun k hk2 => ?_, l', by omega, by omega⟩
      simp only [qaq.l0]
      rw [if_pos (by omega), e1, qaS]
      dsimp only
      rw [e2, qaS]
      dsimp only
      rw [qbf (n := 1 + r) (by omega) (by omega), e3, qaS]
      dsimp only
      rw [e4, qaS]
      dsimp only
      rw [if_neg Bool.false_ne_true, show wrap64 (((d + 1 : Nat) : Int) - 1) = (d : Int) by rw [qbf (by omega) (by omega)]; omega]
      exact hk k hk2
theorem mk_size (a0 a1 a2 : Int) (h : (qou a0 a1 a2).2.2 = true) : 1 ≤ (qou a0 a1 a2).1.size ∧ (qou a0 a1 a2).1.size ≤ 48 := by
  unfold qou at h ⊢
  by_cases hc : (1 ≤ a0 ∧ a0 ≤ 48) ∧ (0 ≤ a1 ∧ a1 ≤ 3) ∧ 0 ≤ a2 ∧ a2 ≤ 9999
  · rw [if_pos hc] at h ⊢
    cases hr : run a1.toNat 20 a2.toNat [] with
    | none => rw [hr] at h; exact absurd h (by simp [fin])
    | some l =>
      simp only [fin]
      rw [qow]
      omega
  · rw [if_neg hc] at h; exact absurd h (by simp)
theorem qma (c : List Int) (hc : qdH c) (p st : Int) (h0 : 0 ≤ p) (h1 : p ≤ 10000) : ∃ s n p' st', Ev (fun k => qaq.f k c p st) (s, n, p', st') ∧ s.size ≤ 60 ∧ p ≤ p' ∧ p' ≤ p + 5000 := by
  obtain ⟨r1, p1, s1, e1, r10, r11, a1, b1⟩ := qeC c hc p st h0 (by omega) 20 (by omega) (by omega)
  obtain ⟨r2, p2, s2, e2, r20, r21, a2, b2⟩ := qeC c hc p1 s1 (by omega) (by omega) 4 (by omega) (by omega)
  obtain ⟨r3, p3, s3, e3, r30, r31, a3, b3⟩ := qeC c hc p2 s2 (by omega) (by omega) 10000 (by omega) (by omega)
  obtain ⟨K1, hm⟩ := qnq (6 + r1) r2 r3
  dsimp only at hm
  obtain ⟨r4, p4, s4, e4, r40, r41, a4, b4⟩ := qeC c hc p3 s3 (by omega) (by omega) 8 (by omega) (by omega)
  obtain ⟨m, rfl⟩ : ∃ m : Nat, r4 = m := ⟨r4.toNat, by omega⟩
  cases hok : (qou (6 + r1) r2 r3).2.2 with
  | true =>
    obtain ⟨z0, z1⟩ := mk_size _ _ _ hok
    obtain ⟨s', n', p', st', ⟨K, hk⟩, l', a', b'⟩ := pz_l0 c hc m (qou (6 + r1) r2 r3).1 (qou (6 + r1) r2 r3).2.1 p4 s4 (by omega) z0 z1 (by omega) (by omega)
    dsimp only at hk
    refine ⟨s', n', p', st', ⟨K1 + K + 1, fun k hk2 => ?_⟩, l', by omega, by omega⟩
    obtain ⟨j, rfl⟩ : ∃ j, k = j + 1 := ⟨k - 1, by omega⟩
    simp only [qaq.f]
    rw [e1, qaS]
    dsimp only
    rw [e2, qaS]
    dsimp only
    rw [e3, qaS]
    dsimp only
    rw [qbf (by omega) (by omega), hm _ (by omega), qaS, if_pos hok]
    simp only [qaq.j0]
    rw [e4, qaS]
    exact hk j (by omega)
  | false =>
    obtain ⟨s', n', p', st', ⟨K, hk⟩, l', a', b'⟩ := pz_l0 c hc m (⟨#[111, 120, 111, 120, 111, 120]⟩ : ByteArray) 1 p4 s4 (by omega) (by decide) (by decide) (by omega) (by omega)
    dsimp only at hk
    refine ⟨s', n', p', st', ⟨K1 + K + 1, fun k hk2 => ?_⟩, l', by omega, by omega⟩
    obtain ⟨j, rfl⟩ : ∃ j, k = j + 1 := ⟨k - 1, by omega⟩
    simp only [qaq.f]
    rw [e1, qaS]
    dsimp only
    rw [e2, qaS]
    dsimp only
    rw [e3, qaS]
    dsimp only
    rw [qbf (by omega) (by omega), hm _ (by omega), qaS, hok, if_neg Bool.false_ne_true]
    simp only [qaq.j0]
    rw [e4, qaS]
    exact hk j (by omega)
theorem qrU (a : Int) (h : a ∈ ([0, 1, 2, 3, 4, 5, 6] : List Int)) : ∃ L, Ev (fun k => qcI.f k a) L := by
  simp only [List.mem_cons, List.not_mem_nil, or_false] at h
  rcases h with rfl | rfl | rfl | rfl | rfl | rfl | rfl
  · exact ⟨[], 60, fun k hk => by obtain ⟨j, rfl⟩ : ∃ j, k = j + 60 := ⟨k - 60, by omega⟩; kernel_rfl⟩
  · exact ⟨[⟨2, 0⟩], 60, fun k hk => by obtain ⟨j, rfl⟩ : ∃ j, k = j + 60 := ⟨k - 60, by omega⟩; kernel_rfl⟩
  · exact ⟨[⟨2, 0⟩, ⟨3, 0⟩], 60, fun k hk => by obtain ⟨j, rfl⟩ : ∃ j, k = j + 60 := ⟨k - 60, by omega⟩; kernel_rfl⟩
  · exact ⟨[⟨2, 0⟩, ⟨3, 0⟩, ⟨5, 0⟩], 60, fun k hk => by obtain ⟨j, rfl⟩ : ∃ j, k = j + 60 := ⟨k - 60, by omega⟩; kernel_rfl⟩
  · exact ⟨[⟨2, 0⟩, ⟨3, 0⟩, ⟨5, 0⟩, ⟨7, 0⟩], 60, fun k hk => by obtain ⟨j, rfl⟩ : ∃ j, k = j + 60 := ⟨k - 60, by omega⟩; kernel_rfl⟩
  · exact ⟨[⟨2, 0⟩, ⟨3, 0⟩, ⟨5, 0⟩, ⟨7, 0⟩, ⟨11, 0⟩], 60, fun k hk => by obtain ⟨j, rfl⟩ : ∃ j, k = j + 60 := ⟨k - 60, by omega⟩; kernel_rfl⟩
  · exact ⟨[⟨2, 0⟩, ⟨3, 0⟩, ⟨5, 0⟩, ⟨7, 0⟩, ⟨11, 0⟩, ⟨13, 0⟩], 60, fun k hk => by obtain ⟨j, rfl⟩ : ∃ j, k = j + 60 := ⟨k - 60, by omega⟩; kernel_rfl⟩
theorem qre (p st : Int) (c : List Int) : ∀ (d : Nat) (L : List qaj), L.length + d = 100 → ∃ L', Ev (fun k => qaY.l1 k L c p st) (L', p, st)
  | 0, L, h => ⟨L, Ev.mk' 0 fun k _ => by
      simp only [qaY.l1]
      rw [if_neg (by omega)]⟩
  | d + 1, L, h => by
    obtain ⟨L', K, hk⟩ := qre p st c d (L ++ [(⟨3, 0⟩ : qaj)]) (by simp; omega)
    dsimp only at hk
    by_cases c1 : (L.length : Int) < 12
    · exact ⟨L', Ev.mk' K fun k hk2 => by
        simp only [qaY.l1]
        rw [if_pos c1, if_pos (by omega)]
        exact hk k hk2⟩
    · exact ⟨L, Ev.mk' 0 fun k _ => by
        simp only [qaY.l1]
        rw [if_neg c1]⟩
theorem qrd (c : List Int) (hc : qdH c) : ∀ (d : Nat) (L : List qaj) (p st : Int), L.length + d ≤ 50 → 0 ≤ p → p + 10 * d ≤ 1000000 → ∃ L' p' st', Ev (fun k => qaY.l0 k L (d : Int) c p st) (L', p', st') ∧ p ≤ p' ∧ p' ≤ p + 10 * d + 10
  | 0, L, p, st, hl, h0, h1 => by
    obtain ⟨r, p1, s1, e1, r0, r1, a1, b1⟩ := qeC c hc p st h0 (by omega) 16 (by omega) (by omega)
    by_cases c0 : r = 0
    · obtain ⟨g, p2, s2, e2, hg, a2, b2⟩ := qkz c hc p1 s1 (by omega) (by omega) [1, 2, 59, 60, 61, 0] (by decide) (by decide)
      obtain ⟨g3, p3, s3, e3, hg3, a3, b3⟩ := qkz c hc p2 s2 (by omega) (by omega) [0, 1, (-1)] (by decide) (by decide)
      refine ⟨L ++ [(⟨g, g3⟩ : qaj)], p3, s3, Ev.mk' 0 fun k _ => ?_, by omega, by omega⟩
      simp only [qaY.l0]
      rw [if_neg (by omega), e1, qaS]
      dsimp only
      rw [if_pos c0, e2, qaS]
      dsimp only
      rw [e3, qaS]
      dsimp only
      rw [if_pos (by omega)]
    · by_cases c1 : r = 1
      · refine ⟨L ++ [(⟨2, 0⟩ : qaj), (⟨2, 1⟩ : qaj)], p1, s1, Ev.mk' 0 fun k _ => ?_, by omega, by omega⟩
        simp only [qaY.l0]
        rw [if_neg (by omega), e1, qaS]
        dsimp only
        rw [if_neg c0, if_pos c1, qaS, if_pos (by simp; omega)]
      · by_cases c2 : r = 2
        · obtain ⟨L', K, hk⟩ := qre p1 s1 c (100 - L.length) L (by omega)
          dsimp only at hk
          refine ⟨L', p1, s1, Ev.mk' K fun k hk2 => ?_, by omega, by omega⟩
          simp only [qaY.l0]
          rw [if_neg (by omega), e1, qaS]
          dsimp only
          rw [if_neg c0, if_neg c1, if_pos c2]
          exact hk k hk2
        · refine ⟨L, p1, s1, Ev.mk' 0 fun k _ => ?_, by omega, by omega⟩
          simp only [qaY.l0]
          rw [if_neg (by omega), e1, qaS]
          dsimp only
          rw [if_neg c0, if_neg c1, if_neg c2]
  | d + 1, L, p, st, hl, h0, h1 => by
    obtain ⟨r, p1, s1, e1, r0, r1, a1, b1⟩ := qeC c hc p st h0 (by omega) 9 (by omega) (by omega)
    obtain ⟨q, p2, s2, e2, q0, q1, a2, b2⟩ := qeC c hc p1 s1 (by omega) (by omega) (2 + r) (by omega) (by omega)
    obtain ⟨L', p', st', ⟨K, hk⟩, a', b'⟩ := qrd c hc d (L ++ [(⟨2 + r, q⟩ : qaj)]) p2 s2 (by simp; omega) (by omega) (by omega)
    dsimp only at hk
    refine ⟨L', p', st', Ev.mk' K fun k hk2 => ?_, by omega, by omega⟩
    simp only [qaY.l0]
    rw [if_pos (by omega), e1, qaS]
    dsimp only
    rw [qbf (n := 2 + r) (by omega) (by omega), e2, qaS]
    dsimp only
    rw [if_pos (by omega), show wrap64 (((d + 1 : Nat) : Int) - 1) = (d : Int) by rw [qbf (by omega) (by omega)]; omega]
    exact hk k hk2
theorem wheel_ok (c : List Int) (hc : qdH c) (p st : Int) (h0 : 0 ≤ p) (h1 : p ≤ 10000) : ∃ L p' st', Ev (fun k => qaY.f k c p st) (L, p', st') ∧ p ≤ p' ∧ p' ≤ p + 1000 := by
  obtain ⟨b, p1, s1, e1, a1, b1⟩ := qph c hc p st h0 (by omega) 5 (by omega) (by omega)
  cases b with
  | true =>
    obtain ⟨g, p2, s2, e2, hg, a2, b2⟩ := qkz c hc p1 s1 (by omega) (by omega) [0, 1, 2, 3, 4, 5, 6] (by decide) (by decide)
    obtain ⟨L, K, hk⟩ := qrU g hg
    dsimp only at hk
    refine ⟨L, p2, s2, ⟨K, fun k hk2 => ?_⟩, by omega, by omega⟩
    simp only [qaY.f]
    rw [e1, qaS]
    dsimp only
    rw [if_pos rfl, e2, qaS]
    dsimp only
    rw [hk k hk2, qaS]
  | false =>
    obtain ⟨r, p2, s2, e2, r0, r1, a2, b2⟩ := qeC c hc p1 s1 (by omega) (by omega) 4 (by omega) (by omega)
    obtain ⟨m, rfl⟩ : ∃ m : Nat, r = m := ⟨r.toNat, by omega⟩
    obtain ⟨L, p', st', ⟨K, hk⟩, a', b'⟩ := qrd c hc m [] p2 s2 (by simp; omega) (by omega) (by omega)
    refine ⟨L, p', st', ⟨K, fun k hk2 => ?_⟩, by omega, by omega⟩
    simp only [qaY.f]
    rw [e1, qaS]
    dsimp only
    rw [if_neg Bool.false_ne_true, e2, qaS]
    exact hk k hk2
end Go.Proofs.YtbnmajedmajfoaaGreatDoor.P
namespace Go.Proofs.YtbnmajedmajfoaaGreatDoor.P
open Go.RowKit Go.Proofs.YtbnmajedmajfoaaGreatDoorW.qaG Go.Proofs.YtbnmajedmajfoaaGreatDoorW.PrintLast
set_option linter.unusedVariables false
set_option linter.unusedSimpArgs false
theorem qmo (c : List Int) (hc : qdH c) : ∃ s n, Ev (fun k => qc0.f k c) (s, n) := by
  obtain ⟨s, n, p1, s1, ⟨K, hk⟩, z, a1, b1⟩ := qma c hc 0 0 (by omega) (by omega)
  dsimp only at hk
  refine ⟨s, n, ⟨K, fun k hk2 => ?_⟩⟩
  simp only [qc0.f, qbz.f, qbz.g]
  rw [hk k hk2, qaS, qaS, qaS]
theorem quf (y : Int) : (strOfNums ([y] : List Int)).size = 1 := rfl
theorem qjB (c : List Int) (hc : qdH c) (x2 : ByteArray) (h2 : x2.size = 6) : ∀ (d : Nat) (x1 : ByteArray) (p st : Int), x1.size + d ≤ 100 → 0 ≤ p → p + 10 * d ≤ 100000 → ∃ r p' s', Ev (fun k => qaI.l0 k x1 x2 (d : Int) c p st) (r, p', s') ∧ r.size ≤ 100
  | 0, x1, p, st, hx, h0, h1 => by
    refine ⟨x1, p, st, ⟨2, fun k hk => ?_⟩, by omega⟩
    obtain ⟨k, rfl⟩ : ∃ j, k = j + 2 := ⟨k - 2, by omega⟩
    simp only [qaI.l0]
    rw [if_neg (by omega)]
    simp only [qaI.j1]
    rw [if_neg Bool.false_ne_true]
  | d + 1, x1, p, st, hx, h0, h1 => by
    by_cases hz : (x1.size : Int) > 0
    · obtain ⟨r1, p1, s1, e1, r10, r11, a1, b1⟩ := qeC c hc p st h0 (by omega) (x1.size : Int) (by omega) (by omega)
      obtain ⟨r2, p2, s2, e2, r20, r21, a2, b2⟩ := qeC c hc p1 s1 (by omega) (by omega) (x2.size : Int) (by omega) (by omega)
      obtain ⟨r3, p3, s3, e3, r30, r31, a3, b3⟩ := qeC c hc p2 s2 (by omega) (by omega) 3 (by omega) (by omega)
      have zs := quf (bt x2 r2)
      have z1 : (x1.extract 0 r1.toNat).size = r1.toNat := by rw [ByteArray.size_extract]; omega
      have z2 : (x1.extract r1.toNat x1.size).size = x1.size - r1.toNat := by rw [ByteArray.size_extract]; omega
      have z3 : (x1.extract (r1 + 1).toNat x1.size).size = x1.size - (r1 + 1).toNat := by rw [ByteArray.size_extract]; omega
      have hw : wrap64 (r1 + 1) = r1 + 1 := qbf (by omega) (by omega)
      have hd : wrap64 (((d + 1 : Nat) : Int) - 1) = (d : Int) := by rw [qbf (by omega) (by omega)]; omega
      by_cases c0 : r3 = 0
      · obtain ⟨r, p', s', ⟨K, hk⟩, hr⟩ := qjB c hc x2 h2 d (((x1.extract 0 r1.toNat) ++ (strOfNums ([bt x2 r2] : List Int))) ++ (x1.extract r1.toNat x1.size)) p3 s3 (by rw [ByteArray.size_append, ByteArray.size_append]; omega) (by omega) (by omega)
        dsimp only at hk
        refine ⟨r, p', s', ⟨K + 2, fun k hk2 => ?_⟩, hr⟩
        obtain ⟨k, rfl⟩ : ∃ j, k = j + 2 := ⟨k - 2, by omega⟩
        simp only [qaI.l0]
        rw [if_pos (by omega), decide_eq_true hz]
        simp only [qaI.j1]
        rw [if_pos trivial, e1, qaS]
        dsimp only
        rw [e2, qaS]
        dsimp only
        rw [if_pos r20, if_pos r21, qaS, e3, qaS]
        dsimp only
        rw [if_pos c0, if_pos r10, if_pos (by omega), if_pos (by omega), if_pos (by rw [ByteArray.size_append]; omega), hd]
        exact hk k (by omega)
      · by_cases c1 : r3 = 1
        · obtain ⟨r, p', s', ⟨K, hk⟩, hr⟩ := qjB c hc x2 h2 d (((x1.extract 0 r1.toNat) ++ (strOfNums ([bt x2 r2] : List Int))) ++ (x1.extract (r1 + 1).toNat x1.size)) p3 s3 (by rw [ByteArray.size_append, ByteArray.size_append]; omega) (by omega) (by omega)
          dsimp only at hk
          refine ⟨r, p', s', ⟨K + 2, fun k hk2 => ?_⟩, hr⟩
          obtain ⟨k, rfl⟩ : ∃ j, k = j + 2 := ⟨k - 2, by omega⟩
          simp only [qaI.l0]
          rw [if_pos (by omega), decide_eq_true hz]
          simp only [qaI.j1]
          rw [if_pos trivial, e1, qaS]
          dsimp only
          rw [e2, qaS]
          dsimp only
          rw [if_pos r20, if_pos r21, qaS, e3, qaS]
          dsimp only
          rw [if_neg c0, if_pos c1, if_pos r10, if_pos (by omega), if_pos (by omega), hw, if_pos (by omega), if_pos (by omega), if_pos (by rw [ByteArray.size_append]; omega), hd]
          exact hk k (by omega)
        · obtain ⟨r, p', s', ⟨K, hk⟩, hr⟩ := qjB c hc x2 h2 d ((x1.extract 0 r1.toNat) ++ (x1.extract (r1 + 1).toNat x1.size)) p3 s3 (by rw [ByteArray.size_append]; omega) (by omega) (by omega)
          dsimp only at hk
          refine ⟨r, p', s', ⟨K + 2, fun k hk2 => ?_⟩, hr⟩
          obtain ⟨k, rfl⟩ : ∃ j, k = j + 2 := ⟨k - 2, by omega⟩
          simp only [qaI.l0]
          rw [if_pos (by omega), decide_eq_true hz]
          simp only [qaI.j1]
          rw [if_pos trivial, e1, qaS]
          dsimp only
          rw [e2, qaS]
          dsimp only
          rw [if_pos r20, if_pos r21, qaS, e3, qaS]
          dsimp only
          rw [if_neg c0, if_neg c1, if_pos r10, if_pos (by omega), hw, if_pos (by omega), if_pos (by omega), if_pos (by omega), hd]
          exact hk k (by omega)
    · refine ⟨x1, p, st, ⟨2, fun k hk => ?_⟩, by omega⟩
      obtain ⟨k, rfl⟩ : ∃ j, k = j + 2 := ⟨k - 2, by omega⟩
      simp only [qaI.l0]
      rw [if_pos (by omega), decide_eq_false hz]
      simp only [qaI.j1]
      rw [if_neg Bool.false_ne_true]
theorem que (c : List Int) (hc : qdH c) (x2 : ByteArray) (h2 : x2.size = 6) (x1 : ByteArray) (hx : x1.size ≤ 90) (p st : Int) (h0 : 0 ≤ p) (h1 : p ≤ 20000) : ∃ r p' s', Ev (fun k => qaI.f k c p st x1 x2) (r, p', s') ∧ r.size ≤ 100 := by
  obtain ⟨r1, p1, s1, e1, r10, r11, a1, b1⟩ := qeC c hc p st h0 (by omega) 2 (by omega) (by omega)
  obtain ⟨r, p', s', ⟨K, hk⟩, hr⟩ := qjB c hc x2 h2 (1 + r1).toNat x1 p1 s1 (by omega) (by omega) (by omega)
  dsimp only at hk
  refine ⟨r, p', s', ⟨K, fun k hk2 => ?_⟩, hr⟩
  simp only [qaI.f]
  rw [e1, qaS]
  dsimp only
  rw [qbf (n := 1 + r1) (by omega) (by omega)]
  have := hk k hk2
  rw [show (((1 + r1).toNat : Nat) : Int) = 1 + r1 by omega] at this
  exact this
theorem qjb (c : List Int) (hc : qdH c) : ∃ t, Ev (fun k => qaD.f k c) t ∧ t.size ≤ 1048576 := by
  obtain ⟨s, n, p1, s1, ⟨K1, h1⟩, z, a1, b1⟩ := qma c hc 0 0 (by omega) (by omega)
  obtain ⟨K2, h2⟩ := qfP s n
  dsimp only at h1 h2
  cases hg : qdu s n with
  | false =>
    refine ⟨(⟨#[111, 120, 58, 52]⟩ : ByteArray), ⟨K1 + K2, fun k hk => ?_⟩, by decide⟩
    simp only [qaD.f, qaD.g]
    rw [h1 k (by omega), qaS]
    dsimp only
    rw [h2 k (by omega), qaS, hg, if_neg Bool.false_ne_true, qaS]
  | true =>
    have hn : 0 ≤ n ∧ n ≤ 3 := by
      unfold qdu at hg; simp only [Bool.and_eq_true, decide_eq_true_eq] at hg; omega
    obtain ⟨t, ht, h3, -⟩ := num_ok n hn.1 hn.2
    have z1 : (s ++ (⟨#[58]⟩ : ByteArray)).size = s.size + 1 := by rw [ByteArray.size_append]; rfl
    have z2 : ((s ++ (⟨#[58]⟩ : ByteArray)) ++ t).size = s.size + 2 := by rw [ByteArray.size_append]; omega
    obtain ⟨b, p4, s4, e4, a4, b4⟩ := qph c hc p1 s1 (by omega) (by omega) 3 (by omega) (by omega)
    cases b with
    | false =>
      refine ⟨(s ++ (⟨#[58]⟩ : ByteArray)) ++ t, ⟨K1 + K2 + 1, fun k hk => ?_⟩, by omega⟩
      obtain ⟨j, rfl⟩ : ∃ j, k = j + 1 := ⟨k - 1, by omega⟩
      simp only [qaD.f, qaD.g]
      rw [h1 _ (by omega), qaS]
      dsimp only
      rw [h2 _ (by omega), qaS, hg, if_pos rfl, if_pos (by omega), h3 j, qaS, if_pos (by omega), e4, qaS]
      dsimp only
      rw [if_neg Bool.false_ne_true, qaS]
    | true =>
      obtain ⟨r, p', s', ⟨K3, h5⟩, hr⟩ := que c hc (⟨#[111, 120, 63, 58, 48, 51]⟩ : ByteArray) rfl ((s ++ (⟨#[58]⟩ : ByteArray)) ++ t) (by omega) p4 s4 (by omega) (by omega)
      dsimp only at h5
      refine ⟨r, ⟨K1 + K2 + K3 + 1, fun k hk => ?_⟩, by omega⟩
      obtain ⟨j, rfl⟩ : ∃ j, k = j + 1 := ⟨k - 1, by omega⟩
      simp only [qaD.f, qaD.g]
      rw [h1 _ (by omega), qaS]
      dsimp only
      rw [h2 _ (by omega), qaS, hg, if_pos rfl, if_pos (by omega), h3 j, qaS, if_pos (by omega), e4, qaS]
      dsimp only
      rw [if_pos rfl, h5 _ (by omega), qaS, qaS]
theorem isA_j1 (c : List Int) (hc : qdH c) (f : List qaj) (hf : f.length ≤ 1000) (b : Bool) (s : ByteArray) (n : Int) (hb : b = true → 0 ≤ n ∧ n ≤ (f.length : Int)) (p st : Int) (h0 : 0 ≤ p) (h1 : p ≤ 10000) : ∃ r p' s', Ev (fun k => qat.j1 k f b c p st s n) (s, n, r, p', s') := by
  cases b with
  | true =>
    obtain ⟨q0, q1⟩ := hb rfl
    obtain ⟨r1, p1, s1, e1, r10, r11, a1, b1⟩ := qeC c hc p st h0 (by omega) ((f.length : Int) - n + 1) (by omega) (by omega)
    refine ⟨(f.take (r1 + n).toNat).drop r1.toNat, p1, s1, Ev.mk' 0 fun k _ => ?_⟩
    simp only [qat.j1]
    rw [if_pos trivial, qbf (n := (f.length : Int) - n) (by omega) (by omega), qbf (n := (f.length : Int) - n + 1) (by omega) (by omega), e1, qaS]
    dsimp only
    rw [if_pos ⟨r10, q0, by omega⟩]
  | false =>
    obtain ⟨L, p', st', ⟨K, hk⟩, a', b'⟩ := wheel_ok c hc p st h0 h1
    dsimp only at hk
    refine ⟨L, p', st', Ev.mk' K fun k hk2 => ?_⟩
    simp only [qat.j1]
    rw [if_neg Bool.false_ne_true, hk k hk2, qaS]
theorem isA_j0 (c : List Int) (hc : qdH c) (f : List qaj) (b : Bool) (s : ByteArray) (n : Int) (p st : Int) (h0 : 0 ≤ p) (h1 : p ≤ 9000) : ∃ r p' s', Ev (fun k => qat.j0 k f b c p st s n) (s, n, r, p', s') := by
  cases b with
  | true =>
    refine ⟨f, p, st, Ev.mk' 0 fun k _ => ?_⟩
    simp only [qat.j0]
    rw [if_pos trivial]
  | false =>
    obtain ⟨⟨K1, h2⟩, -⟩ := qg1 s n
    have hl := qjk s n
    dsimp only at h2
    by_cases hc3 : (qfN s n).2 = true ∧ n > 0 ∧ ((qfN s n).1.length : Int) ≥ n
    · obtain ⟨c1, c2, c3⟩ := hc3
      obtain ⟨b, p4, s4, e4, a4, b4⟩ := qph c hc p st h0 (by omega) 2 (by omega) (by omega)
      obtain ⟨r, p', s', K, hk⟩ := isA_j1 c hc (qfN s n).1 (by omega) b s n (fun _ => ⟨by omega, by omega⟩) p4 s4 (by omega) (by omega)
      dsimp only at hk
      refine ⟨r, p', s', Ev.mk' (K1 + K) fun k hk2 => ?_⟩
      simp only [qat.j0]
      rw [if_neg Bool.false_ne_true, h2 k (by omega), qaS, if_pos c1, if_pos c2, if_pos c3, e4, qaS]
      exact hk k (by omega)
    · obtain ⟨r, p', s', K, hk⟩ := isA_j1 c hc (qfN s n).1 (by omega) false s n (fun h => by simp at h) p st (by omega) (by omega)
      dsimp only at hk
      refine ⟨r, p', s', Ev.mk' (K1 + K) fun k hk2 => ?_⟩
      simp only [qat.j0]
      rw [if_neg Bool.false_ne_true, h2 k (by omega), qaS, hk k (by omega)]
      by_cases c1 : (qfN s n).2 = true
      · rw [if_pos c1]
        by_cases c2 : n > 0
        · rw [if_pos c2, if_neg fun c3 => hc3 ⟨c1, c2, c3⟩]
        · rw [if_neg c2]
      · rw [if_neg c1]
theorem qkL (c : List Int) (hc : qdH c) : ∃ s n r, Ev (fun k => qat.f k c) (s, n, r) := by
  obtain ⟨s, n, p1, s1, ⟨K1, h1⟩, z, a1, b1⟩ := qma c hc 0 0 (by omega) (by omega)
  obtain ⟨⟨K2, h2⟩, -⟩ := qhx s n
  dsimp only at h1 h2
  by_cases c1 : (qfo s n).2 = true
  · obtain ⟨b, p4, s4, e4, a4, b4⟩ := qph c hc p1 s1 (by omega) (by omega) 3 (by omega) (by omega)
    obtain ⟨r, p', s', K3, h3⟩ := isA_j0 c hc (qfo s n).1 (!b) s n p4 s4 (by omega) (by omega)
    dsimp only at h3
    refine ⟨s, n, r, ⟨K1 + K2 + K3, fun k hk => ?_⟩⟩
    simp only [qat.f, qat.g]
    rw [h1 k (by omega), qaS]
    dsimp only
    rw [h2 k (by omega), qaS, if_pos c1, e4, qaS]
    dsimp only
    rw [h3 k (by omega), qaS]
  · obtain ⟨r, p', s', K3, h3⟩ := isA_j0 c hc (qfo s n).1 false s n p1 s1 (by omega) (by omega)
    dsimp only at h3
    refine ⟨s, n, r, ⟨K1 + K2 + K3, fun k hk => ?_⟩⟩
    simp only [qat.f, qat.g]
    rw [h1 k (by omega), qaS]
    dsimp only
    rw [h2 k (by omega), qaS, if_neg c1, h3 k (by omega), qaS]
end Go.Proofs.YtbnmajedmajfoaaGreatDoor.P
namespace Go.Proofs.YtbnmajedmajfoaaGreatDoor.P
open Go.RowKit Go.Proofs.YtbnmajedmajfoaaGreatDoorW.qaG Go.Proofs.YtbnmajedmajfoaaGreatDoorW.PrintLast
set_option linter.unusedVariables false
set_option linter.unusedSimpArgs false
theorem form_or (z : ByteArray) (hz : z.size ≤ 1048576) :
    (∃ b n, qk7 z b n ∧ Ev (fun k => qaN.f k z) ((⟨b.toArray⟩ : ByteArray), (n : Int), true) ∧ qbY.f z = some ((⟨b.toArray⟩ : ByteArray), (n : Int), true)) ∨
    (Ev (fun k => qaN.f k z) ((⟨#[]⟩ : ByteArray), (0 : Int), false) ∧ qbY.f z = some ((⟨#[]⟩ : ByteArray), (0 : Int), false)) := by
  by_cases h : ∃ b n, qk7 z b n
  · obtain ⟨b, n, h⟩ := h
    exact .inl ⟨b, n, h, qpv h, ql0 h⟩
  · have h2 : ∀ b n, ¬ qk7 z b n := fun b n hf => h ⟨b, n, hf⟩
    exact .inr ⟨qpw hz h2, qpb hz h2⟩
def isText (s : ByteArray) (n : Int) (x : ByteArray) : Prop := qdu s n = true ∧ x.data.toList = s.data.toList ++ [58, UInt8.ofNat (48 + n.toNat)]
theorem qpD (s : ByteArray) (n : Int) (hg : qdu s n = true) : ∃ x, qb0.f s n = some (x, true) ∧ isText s n x := by
  obtain ⟨x, h1, h2⟩ := qqB s n hg
  refine ⟨x, ?_, hg, h2⟩
  simp only [qb0.f, qcv, hg, qaS, if_true, h1]
theorem j9_ok (c9 : List Int) (hc0 : qdH c9) : Ev (fun k => qaa.j8 k c9) true := by
  obtain ⟨t, m, R, ⟨Ka, ha⟩⟩ := qkL c9 hc0
  obtain ⟨z, ⟨Kb, hb⟩, hz⟩ := qjb c9 hc0
  dsimp only at ha hb
  obtain ⟨⟨K1, h1⟩, ⟨K2, h2⟩⟩ := qjd t m R
  dsimp only at h1 h2
  rcases form_or z hz with ⟨b, n, hf, ⟨K3, h3⟩, h4⟩ | ⟨⟨K3, h3⟩, h4⟩
  · dsimp only at h3
    obtain ⟨x, h5, h6, h7⟩ := qpD ⟨b.toArray⟩ n hf.2.2
    have hx : x = z := by
      refine ByteArray.ext (Array.toList_inj.1 ?_)
      rw [h7, hf.1]; simp
    refine Ev.mk' (Ka + Kb + K1 + K2 + K3) fun k hk => ?_
    simp (disch := omega) only [qaa.j8, ha, hb, h1, h2, h3, h4, qaS, bne_self_eq_false, beq_self_eq_true, Bool.not_true, Bool.or_self, Bool.false_eq_true, if_false, if_true, h5, hx]
  · dsimp only at h3
    refine Ev.mk' (Ka + Kb + K1 + K2 + K3) fun k hk => ?_
    simp (disch := omega) only [qaa.j8, ha, hb, h1, h2, h3, h4, qaS, bne_self_eq_false, beq_self_eq_true, Bool.not_true, Bool.or_self, Bool.false_eq_true, if_false, if_true]
theorem j8_ok (c9 : List Int) (hc0 : qdH c9) (s : ByteArray) (n : Int) (x : ByteArray) (e : Bool) (he : e = true → isText s n x) : Ev (fun k => qaa.j7 k c9 x e false s n) true := by
  obtain ⟨K, hk⟩ := j9_ok c9 hc0
  dsimp only at hk
  cases e with
  | false =>
    refine Ev.mk' K fun k hk' => ?_
    simp only [qaa.j7, Bool.false_eq_true, if_false, hk k hk']
  | true =>
    obtain ⟨hg, hx⟩ := he rfl
    obtain ⟨g1, g2, g3, g4, g5⟩ := qez hg
    have hf : qk7 x s.data.toList n.toNat := ⟨hx, by omega, by rw [show ((n.toNat : Nat) : Int) = n by omega]; exact hg⟩
    have h4 := ql0 hf
    have hs : (⟨s.data.toList.toArray⟩ : ByteArray) = s := rfl
    rw [show ((n.toNat : Nat) : Int) = n by omega] at h4
    refine Ev.mk' K fun k hk' => ?_
    simp only [qaa.j7, Bool.false_eq_true, if_false, if_true, h4, qaS, hk k hk']
    simp
def qm3 (s : ByteArray) (x : Int) (f0 f1 : Int) : Prop := ∃ i : Nat, x = (i : Int) + 1 ∧ i < s.size ∧ s.size ≤ 48 ∧ bt s i = 120 ∧ qeS s i = [(⟨f0, f1⟩ : qaj)]
theorem qke (s : ByteArray) (hz : s.size ≤ 48) : ∀ d i : Nat, i + d = s.size → (qjr s i d).2.2.2 = true → qm3 s (qjr s i d).1 (qjr s i d).2.1 (qjr s i d).2.2.1
  | 0, i, h, ht => by simp [qjr] at ht
  | d + 1, i, h, ht => by
    simp only [qjr] at ht ⊢
    by_cases c : bt s i = 120 ∧ (qeS s i).length = 1
    · rw [if_pos c]
      refine ⟨i, rfl, by omega, hz, c.1, ?_⟩
      match hr : qeS s i, c.2 with
      | [r], _ => simp [qab]
    · rw [if_neg c] at ht ⊢
      exact qke s hz d (i + 1) (by omega) ht
theorem qrI {s : ByteArray} {x f0 f1 : Int} (h : qm3 s x f0 f1) : (⟨f0, f1⟩ : qaj) ∈ qeR s := by
  obtain ⟨i, -, -, -, -, h⟩ := h
  have : (⟨f0, f1⟩ : qaj) ∈ qeS s i := by rw [h]; exact List.mem_cons_self
  exact (List.mem_filter.1 this).1
theorem qor {s : ByteArray} {n x f0 f1 : Int} (h : qm3 s x f0 f1) (hg : qdu s n = true) (l : List qaj) (hl : l ∈ answers s n.toNat) : (⟨f0, f1⟩ : qaj) ∈ l := by
  obtain ⟨i, -, hi, -, hb, h⟩ := h
  obtain ⟨a1, a2, a3, a4, a5, a6, a7⟩ := qgP s n hg l hl
  have hl := qsP s l s.size 0 (by omega) a6 i (Nat.zero_le _) hi (by omega)
  rw [hb] at hl
  obtain ⟨r, hr, hc⟩ := qug l _ hl
  have hm : r ∈ qeS s i := List.mem_filter.2 ⟨a3 r hr, hc⟩
  rw [h, List.mem_singleton] at hm
  rw [← hm]; exact hr
theorem j7_ok (c9 : List Int) (hc0 : qdH c9) (s : ByteArray) (n : Int) (x : ByteArray) (e : Bool) (he : e = true → isText s n x) (y f0 f1 : Int) (b : Bool) (fit : List qaj) (hb : b = true → qm3 s y f0 f1 ∧ fit = qeR s) : Ev (fun k => qaa.j6 k c9 fit y b x e s n f0 f1) true := by
  obtain ⟨K, hk⟩ := j8_ok c9 hc0 s n x e he
  dsimp only at hk
  cases b with
  | false =>
    refine Ev.mk' K fun k hk' => ?_
    simp only [qaa.j6, Bool.false_eq_true, if_false, hk k hk']
  | true =>
    obtain ⟨hh, rfl⟩ := hb rfl
    have hf := qnO (qrI hh)
    obtain ⟨i, rfl, hi, hz2, hbt, -⟩ := hh
    have hl := qe8 s
    refine Ev.mk' (K + 1001) fun k hk' => ?_
    simp only [qaa.j6, if_true]
    rw [qbf (by omega) (by omega), show ((i : Int) + 1 - 1) = (i : Int) by omega, if_pos (by omega), if_pos (by omega), if_pos hbt, qqQ _ _ _ (by omega) k (by omega), qaS, hf, Bool.not_true, hk k (by omega)]
theorem l3_ok (c9 : List Int) (s : ByteArray) (n cnt : Int) (x : ByteArray) (e : Bool) (y f0 f1 : Int) (b : Bool) (fit sure rules : List qaj) (A : List (List qaj)) (ca i : Int) (hm : rules.length ≤ 1000) (hs : sure.length ≤ 1000)
    (h1 : ∀ r ∈ sure, qkp r rules = true) (h2 : b = true → qkp ⟨f0, f1⟩ rules = true) (hc : Ev (fun k => qaa.l0 k c9 cnt sure fit y b x e A ca (wrap64 (i + 1)) s n f0 f1) true) :
    ∀ d j : Nat, j + d = sure.length → Ev (fun k => qaa.l3 k c9 cnt sure fit y b x e rules A ca i sure (sure.length : Int) (j : Int) s n f0 f1) true
  | 0, j, h => by
    obtain ⟨K, hk⟩ := hc
    dsimp only at hk
    refine Ev.mk' (K + 1001) fun k hk' => ?_
    simp only [qaa.l3]
    rw [if_neg (by omega)]
    cases b with
    | false => simp only [Bool.false_eq_true, if_false, hk k (by omega)]
    | true => rw [if_pos rfl, qqQ _ _ _ hm k (by omega), qaS, h2 rfl, if_pos rfl, hk k (by omega)]
  | d + 1, j, h => by
    obtain ⟨K, hk⟩ := l3_ok c9 s n cnt x e y f0 f1 b fit sure rules A ca i hm hs h1 h2 hc d (j + 1) (by omega)
    dsimp only at hk
    have hr : qkp (qab sure j) rules = true := h1 _ (qm7 sure j (by omega))
    refine Ev.mk' (K + 1001) fun k hk' => ?_
    simp only [qaa.l3]
    rw [if_pos (by omega), if_pos (by omega), if_pos (by omega), qqQ _ _ _ hm k (by omega), qaS, hr, if_pos rfl, qbf (by omega) (by omega), show ((j : Int) + 1) = ((j + 1 : Nat) : Int) by omega, hk k (by omega)]
theorem l2_ok (c9 : List Int) (s : ByteArray) (n cnt : Int) (x : ByteArray) (e : Bool) (y f0 f1 : Int) (b : Bool) (fit sure rules : List qaj) (A : List (List qaj)) (ca i : Int) (hm : rules.length ≤ 1000) (hf : fit.length ≤ 1000)
    (h1 : ∀ r ∈ rules, r ∈ fit) (h2 : rules.Pairwise (fun a b => qhC a b = true)) (hc : Ev (fun k => qaa.l3 k c9 cnt sure fit y b x e rules A ca i sure (sure.length : Int) 0 s n f0 f1) true) :
    ∀ d j : Nat, j + d = rules.length → Ev (fun k => qaa.l2 k c9 cnt sure fit y b x e rules A ca i rules (rules.length : Int) (j : Int) s n f0 f1) true
  | 0, j, h => by
    obtain ⟨K, hk⟩ := hc
    dsimp only at hk
    refine Ev.mk' K fun k hk' => ?_
    simp only [qaa.l2]
    rw [if_neg (by omega), hk k hk']
  | d + 1, j, h => by
    obtain ⟨K, hk⟩ := l2_ok c9 s n cnt x e y f0 f1 b fit sure rules A ca i hm hf h1 h2 hc d (j + 1) (by omega)
    dsimp only at hk
    have hr : qkp (qab rules j) fit = true := qnO (h1 _ (qm7 rules j (by omega)))
    refine Ev.mk' (K + 1001) fun k hk' => ?_
    simp only [qaa.l2]
    have hw : wrap64 ((j : Int) + 1) = ((j + 1 : Nat) : Int) := qbf (by omega) (by omega)
    have hg : qcS.f k fit (qab rules j).f0 (qab rules j).f1 = some true := by rw [qqQ _ _ _ hf k (by omega)]; exact congrArg some hr
    rw [if_pos (by omega), if_pos (by omega), if_pos (by omega), hg, hw]
    by_cases c : j = 0
    · rw [if_neg (by omega), qaS, if_pos rfl, hk k (by omega)]
    · have e1 : qab rules (j : Int) = rules[j]'(by omega) := by simp [qab, List.getD, show j < rules.length by omega]
      have e2 : qab rules ((j : Int) - 1) = rules[j - 1]'(by omega) := by
        rw [show (j : Int) - 1 = ((j - 1 : Nat) : Int) by omega]
        simp [qab, List.getD, show j - 1 < rules.length by omega]
      have hl : qhC (qab rules ((j : Int) - 1)) (qab rules (j : Int)) = true := by
        rw [e1, e2]; exact List.pairwise_iff_getElem.1 h2 (j - 1) j (by omega) (by omega) (by omega)
      rw [if_pos (by omega), qbf (n := (j : Int) - 1) (by omega) (by omega), if_pos (by omega), if_pos (by omega), qrH, qaS, hl, if_pos rfl, qaS, if_pos rfl, hk k (by omega)]
theorem l1_ok (c9 : List Int) (s : ByteArray) (n cnt : Int) (x : ByteArray) (e : Bool) (y f0 f1 : Int) (b : Bool) (fit sure rules : List qaj) (A : List (List qaj)) (ca i : Int) (pt : ByteArray) (hp : pt.size = s.size)
    (h1 : ∀ i : Nat, i < s.size → bt pt i < 128 ∧ (bt s i = 63 ∨ bt s i = bt pt i)) (hc : Ev (fun k => qaa.l2 k c9 cnt sure fit y b x e rules A ca i rules (rules.length : Int) 0 s n f0 f1) true) :
    ∀ d j : Nat, j + d = s.size → Ev (fun k => qaa.l1 k c9 cnt sure fit y b x e rules pt A ca i (pt.size : Int) (j : Int) s n f0 f1) true
  | 0, j, h => by
    obtain ⟨K, hk⟩ := hc
    dsimp only at hk
    refine Ev.mk' K fun k hk' => ?_
    simp only [qaa.l1]
    rw [if_neg (by omega), hk k hk']
  | d + 1, j, h => by
    obtain ⟨K, hk⟩ := l1_ok c9 s n cnt x e y f0 f1 b fit sure rules A ca i pt hp h1 hc d (j + 1) (by omega)
    dsimp only at hk
    obtain ⟨a1, a2⟩ := h1 j (by omega)
    refine Ev.mk' K fun k hk' => ?_
    simp only [qaa.l1]
    rw [if_pos (by omega), if_pos a1, if_pos (by omega), if_pos (by omega), show ((j : Int) + 1) = ((j + 1 : Nat) : Int) by omega, hk k hk']
    by_cases c : bt s j = 63
    · rw [if_pos c]
    · rw [if_neg c, if_pos (by omega), if_pos (a2.resolve_left c)]
theorem pat_same (s : ByteArray) (n : Int) (hg : qdu s n = true) (l : List qaj) (hl : l ∈ answers s n.toNat) : (pat l (s.size : Int)).size = s.size ∧ ∀ i : Nat, i < s.size → bt (pat l (s.size : Int)) i < 128 ∧ (bt s i = 63 ∨ bt s i = bt (pat l (s.size : Int)) i) := by
  obtain ⟨g1, g2, g3, g4, g5⟩ := qez hg
  obtain ⟨a1, a2, a3, a4, a5, a6, a7⟩ := qgP s n hg l hl
  refine ⟨by rw [qow]; omega, fun i hi => ?_⟩
  rw [pat_bt l (s.size : Int) i (by omega)]
  refine ⟨by split <;> omega, ?_⟩
  by_cases c : bt s i = 63
  · exact .inl c
  · right
    have h := qsP s l s.size 0 (by omega) a6 i (Nat.zero_le _) hi c
    rw [h]
    rcases qmg g3 i hi with hb | hb | hb <;> rw [hb] <;> simp
    exact absurd hb c
theorem l0_ok (c9 : List Int) (hc0 : qdH c9) (s : ByteArray) (n : Int) (hg : qdu s n = true) (hA : (answers s n.toNat).length ≤ 300) (x : ByteArray) (e : Bool) (he : e = true → isText s n x) (y f0 f1 : Int) (b : Bool) (hb : b = true → qm3 s y f0 f1) (sure : List qaj) (hl : sure.length ≤ 1000) (hs : ∀ r ∈ sure, ∀ a ∈ answers s n.toNat, qkp r a = true) :
    ∀ d i : Nat, i + d = (answers s n.toNat).length → Ev (fun k => qaa.l0 k c9 ((answers s n.toNat).length : Int) sure (qeR s) y b x e (answers s n.toNat) ((answers s n.toNat).length : Int) (i : Int) s n f0 f1) true
  | 0, i, h => by
    obtain ⟨K1, h1⟩ := j7_ok c9 hc0 s n x e he y f0 f1 b (qeR s) (fun h => ⟨hb h, rfl⟩)
    obtain ⟨K2, h2⟩ := FewestI s
    dsimp only at h1 h2
    refine Ev.mk' (K1 + K2) fun k hk' => ?_
    simp only [qaa.l0]
    rw [if_neg (by omega), h2 k (by omega), qaS, h1 k (by omega)]
    by_cases c : ((answers s n.toNat).length : Int) > 0
    · obtain ⟨g1, g2, g3, g4, g5⟩ := qez hg
      have hw := qtm s 4 0 n.toNat (by omega) (by omega) (by omega)
      have hf : qnM s = fewV s 0 4 := by
        unfold qnM
        rw [if_pos (by have := qqc s n.toNat (by omega); rw [show ((n.toNat : Nat) : Int) = n by omega, hg] at this; exact this.symm)]
      rw [if_pos c, hf, if_pos hw.1, if_neg (by have := hw.2; omega)]
    · rw [if_neg c]
  | d + 1, i, h => by
    have hc := l0_ok c9 hc0 s n hg hA x e he y f0 f1 b hb sure hl hs d (i + 1) (by omega)
    have hmem : qar (answers s n.toNat) (i : Int) ∈ answers s n.toNat := by
      have e : qar (answers s n.toNat) (i : Int) = (answers s n.toNat)[i]'(by omega) := by simp [qar, List.getD, show i < (answers s n.toNat).length by omega]
      rw [e]; exact List.getElem_mem _
    obtain ⟨g1, g2, g3, g4, g5⟩ := qez hg
    have hV := qnz s n hg _ hmem
    obtain ⟨a1, a2, a3, a4, a5, a6, a7⟩ := qgP s n hg _ hmem
    obtain ⟨p1, p2⟩ := pat_same s n hg _ hmem
    have hs' : ∀ r ∈ sure, qkp r (qar (answers s n.toNat) (i : Int)) = true := fun r hr => hs r hr _ hmem
    have hb' : b = true → qkp ⟨f0, f1⟩ (qar (answers s n.toNat) (i : Int)) = true := fun h => qnO (qor (hb h) hg _ hmem)
    obtain ⟨rules, hrl⟩ : ∃ r, r = qar (answers s n.toNat) (i : Int) := ⟨_, rfl⟩
    rw [← hrl] at hmem hV a1 a2 a3 a4 a5 a6 a7 p1 p2 hs' hb'
    obtain ⟨-, ⟨K1, h1⟩⟩ := qjd s n rules
    obtain ⟨K2, h2⟩ := PatternI rules (s.size : Int)
    have hv : qqW rules (s.size : Int) = (pat rules (s.size : Int), true) := by unfold qqW; rw [if_pos ⟨a7, by omega, by omega⟩]
    rw [hV] at h1
    rw [hv] at h2
    have hfl := qe8 s
    rw [show ((i + 1 : Nat) : Int) = wrap64 ((i : Int) + 1) from (qbf (by omega) (by omega)).symm] at hc
    have q3 := l3_ok c9 s n ((answers s n.toNat).length : Int) x e y f0 f1 b (qeR s) sure rules (answers s n.toNat) ((answers s n.toNat).length : Int) (i : Int) (by omega) hl hs' hb' hc sure.length 0 (by omega)
    have q2 := l2_ok c9 s n ((answers s n.toNat).length : Int) x e y f0 f1 b (qeR s) sure rules (answers s n.toNat) ((answers s n.toNat).length : Int) (i : Int) (by omega) (by omega) a3 a5 q3 rules.length 0 (by omega)
    obtain ⟨K3, h3⟩ := l1_ok c9 s n ((answers s n.toNat).length : Int) x e y f0 f1 b (qeR s) sure rules (answers s n.toNat) ((answers s n.toNat).length : Int) (i : Int) (pat rules (s.size : Int)) p1 p2 q2 s.size 0 (by omega)
    have h3 : ∀ k, K3 ≤ k → qaa.l1 k c9 ((answers s n.toNat).length : Int) sure (qeR s) y b x e rules (pat rules (s.size : Int)) (answers s n.toNat) ((answers s n.toNat).length : Int) (i : Int) ((pat rules (s.size : Int)).size : Int) 0 s n f0 f1 = some true := h3
    dsimp only at h1 h2
    refine Ev.mk' (K1 + K2 + K3) fun k hk' => ?_
    simp only [qaa.l0]
    rw [if_pos (by omega), if_pos (by omega), if_pos (by omega), ← hrl, h1 k (by omega), qaS, h2 k (by omega), qaS]
    dsimp only
    rw [if_pos rfl, if_pos rfl, if_pos a1, if_pos rfl, h3 k (by omega)]
theorem main_ok (c1 c9 : List Int) (hc1 : qdH c1) (hc0 : qdH c9) (hbig : qfO.f c1 c9 = some false) : Ev (fun k => qaa.f k c1 c9) true := by
  obtain ⟨s, n, K0, h0⟩ := qmo c1 hc1
  dsimp only at h0
  obtain ⟨K1, h1⟩ := qh0 s n
  obtain ⟨K2, h2⟩ := qib s n
  obtain ⟨⟨K3, h3⟩, ⟨K4, h4⟩⟩ := qhx s n
  obtain ⟨⟨K5, h5⟩, ⟨K6, h6⟩⟩ := qms s n
  obtain ⟨⟨K7, h7⟩, ⟨K8, h8⟩⟩ := qg1 s n
  obtain ⟨⟨K9, h9⟩, ⟨K10, h10⟩⟩ := qsq s n
  obtain ⟨v, ⟨K11, h11⟩, h12⟩ := qk8 s n
  obtain ⟨K12, h13⟩ := qfP s n
  have hal := qpX s n
  have ham := qkA s n
  have hfl := qnN s n
  have hsl := qpy s n
  have hil := qjk s n
  obtain ⟨K13, g1⟩ := qp9 (qhh s n).1 (by omega) (fun l hl => by have := ham l hl; omega)
  obtain ⟨K14, g2⟩ := qjl (qfo s n).1 (by omega)
  obtain ⟨K15, g3⟩ := qjl (qj6 s n).1 (by omega)
  obtain ⟨K16, g4⟩ := qjl (qfN s n).1 (by omega)
  dsimp only at h1 h2 h3 h4 h5 h6 h7 h8 h9 h10 h11 h13 g1 g2 g3 g4
  have hv : v.2 = qdu s n ∧ (v.2 = true → isText s n v.1) := by
    by_cases hg : qdu s n = true
    · obtain ⟨x, e1, e2⟩ := qpD s n hg
      rw [h12] at e1
      obtain rfl := Option.some.inj e1
      exact ⟨hg.symm, fun _ => e2⟩
    · have hf := Bool.eq_false_iff.2 hg
      simp only [qb0.f, qcv, hf, qaS, Bool.false_eq_true, if_false] at h12
      obtain rfl := Option.some.inj h12
      exact ⟨hf.symm, fun h => by simp at h⟩
  have hfit2 : (qfN s n).2 = qdu s n := by unfold qfN; split <;> simp_all
  have hsure2 : (qj6 s n).2 = (qfo s n).2 := by
    unfold qj6 qfo
    by_cases c : (qhh s n).2 = true ∧ (qhh s n).1 ≠ []
    · rw [if_pos c, if_pos ⟨c.1, fun h => c.2 (List.length_eq_zero_iff.1 h)⟩]
    · rw [if_neg c, if_neg (fun h => c ⟨h.1, fun e => h.2 (by rw [e]; rfl)⟩)]
  have hint2 : (qdS s n).2.2.2 = true → qm3 s (qdS s n).1 (qdS s n).2.1 (qdS s n).2.2.1 ∧ (qfN s n).1 = qeR s := by
    intro h
    unfold qdS at h ⊢
    by_cases hg : qdu s n = true
    · obtain ⟨q1, q2, q3, q4, q5⟩ := qez hg
      rw [if_pos hg] at h ⊢
      exact ⟨qke s q2 s.size 0 (by omega) h, by unfold qfN; rw [if_pos hg]⟩
    · rw [if_neg hg] at h; simp at h
  have hj1 : Ev (fun k => qaa.j0 k c9 (qhh s n).1 (qhh s n).2 ((qhh s n).1.length : Int) (qfo s n).1 (qfo s n).2 (qj6 s n).1 (qfN s n).1 (qdS s n).1 (qdS s n).2.2.2 v.1 v.2 false s n (qdS s n).2.1 (qdS s n).2.2.1) true := by
    cases hok : (qhh s n).2 with
    | false =>
      obtain ⟨K, hk⟩ := j7_ok c9 hc0 s n v.1 v.2 hv.2 (qdS s n).1 (qdS s n).2.1 (qdS s n).2.2.1 (qdS s n).2.2.2 (qfN s n).1 hint2
      dsimp only at hk
      refine Ev.mk' K fun k hk' => ?_
      simp only [qaa.j0, Bool.false_eq_true, if_false, hk k hk']
    | true =>
      have hA : qdu s n = true ∧ (answers s n.toNat).length ≤ 300 ∧ (qhh s n).1 = answers s n.toNat := by
        unfold qhh at hok ⊢
        by_cases c : qdu s n = true ∧ (answers s n.toNat).length ≤ 300
        · rw [if_pos c]; exact ⟨c.1, c.2, rfl⟩
        · rw [if_neg c] at hok; simp at hok
      obtain ⟨hg, hA1, hA2⟩ := hA
      have hfo : (qfN s n).1 = qeR s := by unfold qfN; rw [if_pos hg]
      have hs : ∀ r ∈ (qj6 s n).1, ∀ a ∈ answers s n.toNat, qkp r a = true := by
        intro r hr a ha
        unfold qj6 at hr
        split at hr
        · rw [← hA2] at ha
          exact List.all_eq_true.1 (List.mem_filter.1 hr).2 a ha
        · simp at hr
      obtain ⟨K, hk⟩ := l0_ok c9 hc0 s n hg hA1 v.1 v.2 hv.2 (qdS s n).1 (qdS s n).2.1 (qdS s n).2.2.1 (qdS s n).2.2.2 (fun h => (hint2 h).1) (qj6 s n).1 (by omega) hs (answers s n.toNat).length 0 (by omega)
      have hk : ∀ k, K ≤ k → qaa.l0 k c9 ((answers s n.toNat).length : Int) (qj6 s n).1 (qeR s) (qdS s n).1 (qdS s n).2.2.2 v.1 v.2 (answers s n.toNat) ((answers s n.toNat).length : Int) 0 s n (qdS s n).2.1 (qdS s n).2.2.1 = some true := hk
      have h1st : (qfo s n).2 = true → (qfo s n).1 = qar (answers s n.toNat) 0 ∧ 0 < (answers s n.toNat).length := by
        intro h
        unfold qfo at h ⊢
        by_cases c : (qhh s n).2 = true ∧ (qhh s n).1 ≠ []
        · rw [if_pos c, hA2]
          have := c.2
          rw [hA2] at this
          exact ⟨rfl, List.length_pos_iff.2 this⟩
        · rw [if_neg c] at h; simp at h
      rw [hA2, hfo]
      refine ⟨K + K14 + 2, fun k hk' => ?_⟩
      obtain ⟨k, rfl⟩ : ∃ j, k = j + 2 := ⟨k - 2, by omega⟩
      simp only [qaa.j0, Bool.false_eq_true, if_false, if_true]
      cases h3b : (qfo s n).2 with
      | true =>
        obtain ⟨f1, f2⟩ := h1st h3b
        rw [f1] at g2 ⊢
        rw [if_pos rfl, if_pos (by omega), g2 _ (by omega), qaS]
        simp only [qaa.j1, Bool.not_true, Bool.false_eq_true, if_false, hk k (by omega)]
      | false =>
        simp only [qaa.j1, Bool.false_eq_true, if_false, hk k (by omega)]
  obtain ⟨K17, g5⟩ := hj1
  dsimp only at g5
  refine ⟨K0 + K1 + K2 + K3 + K4 + K5 + K6 + K7 + K8 + K9 + K10 + K11 + K12 + K13 + K14 + K15 + K16 + K17, fun k hk' => ?_⟩
  have e1 : qed.f k s n = some (qhh s n) := by simp only [qed.f, h1 k (by omega), qaS]
  have e2 : qeg.f k s n = some (qhh s n) := by simp only [qeg.f, h2 k (by omega), qaS]
  have e3 : qcL.f k s n = some (((qhh s n).1.length : Int), (qhh s n).2) := by simp only [qcL.f, h1 k (by omega), qaS]
  have e4 : qcM.f k s n = some (((qhh s n).1.length : Int), (qhh s n).2) := by simp only [qcM.f, h2 k (by omega), qaS]
  have e5 : qbB.f s n = some (qdu s n) := by simp only [qbB.f, qcv, qaS]
  have e6 : qcz.f k s n = some (qdu s n) := by simp only [qcz.f, h13 k (by omega), qaS]
  simp only [qaa.f, hbig, Bool.false_eq_true, if_false]
  rw [qaS, h0 k (by omega), qaS]
  dsimp only
  rw [e1, qaS, e2, qaS, e3, qaS, e4, qaS, h4 k (by omega), qaS, h3 k (by omega), qaS, h6 k (by omega), qaS, h5 k (by omega), qaS, h8 k (by omega), qaS, h7 k (by omega), qaS, h10 k (by omega), qaS, h9 k (by omega), qaS, h12, qaS, h11 k (by omega), qaS]
  dsimp only
  rw [g1 k (by omega), qaS, g2 k (by omega), qaS, g3 k (by omega), qaS, g4 k (by omega), qaS, e5, qaS, qaS, e6, qaS]
  simp (config := { maxSteps := 400000 }) only [bne_self_eq_false, beq_self_eq_true, Bool.not_true, Bool.or_self, Bool.false_eq_true, if_false, if_true, hfit2, hsure2, hv.1]
  cases hok : (qhh s n).2 with
  | false =>
    have hf2 : (qfo s n).2 = false := by unfold qfo; rw [if_neg (by simp [hok])]
    rw [hok] at g5
    simp (disch := omega) only [hf2, qaS, bne_self_eq_false, Bool.false_eq_true, if_false]
    have g6 := g5 k (by omega)
    rw [hf2, hv.1] at g6
    exact g6
  | true =>
    have hgd : qdu s n = true := by
      unfold qhh at hok
      by_cases c : qdu s n = true ∧ (answers s n.toNat).length ≤ 300
      · exact c.1
      · rw [if_neg c] at hok; simp at hok
    have hf2 : (qfo s n).2 = decide (((qhh s n).1.length : Int) > 0) := by
      unfold qfo
      by_cases c : (qhh s n).1 = []
      · rw [if_neg (by simp [c]), c]; simp
      · have := List.length_pos_iff.2 c
        rw [if_pos ⟨hok, c⟩, decide_eq_true (by omega)]
    rw [hok] at g5
    have g6 := g5 k (by omega)
    rw [hv.1] at g6
    simp (disch := omega) only [← hf2, bne_self_eq_false, Bool.false_eq_true, if_false, if_true, hgd, Bool.not_true]
    rw [hgd] at g6
    exact g6
theorem big_some (a b : List Int) : ∃ t, qfO.f a b = some t := by
  unfold qfO.f
  split
  · exact ⟨_, rfl⟩
  · exact ⟨_, rfl⟩
theorem qqI {l : List Int} (h : ∀ z_ ∈ l, (Lit.int .u8 z_).wf = true) : qdH l := fun x hx => by
  have h1 := h x hx
  unfold Lit.wf at h1
  simp only [Bool.and_eq_true, decide_eq_true_eq] at h1
  exact h1
theorem FnPatternsAnswered : qaa.Pure := by
  intro l0 l1 _ h0 _ h1
  obtain ⟨b, hb⟩ := big_some l0 l1
  cases b with
  | true => exact ⟨0, by simp only [qaa.f]; rw [hb, qaS, if_pos rfl]⟩
  | false =>
    obtain ⟨K, hk⟩ := main_ok l0 l1 (qqI h0) (qqI h1) hb
    exact ⟨K, hk K (Nat.le_refl _)⟩
end Go.Proofs.YtbnmajedmajfoaaGreatDoor.P
