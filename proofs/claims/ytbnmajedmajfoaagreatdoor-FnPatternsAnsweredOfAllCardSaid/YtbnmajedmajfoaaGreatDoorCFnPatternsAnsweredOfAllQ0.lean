/- The plain laws on what the functions answer; the last one: the law FnPatternsAnsweredOfAll answers true for all arguments. Proved in this text: its theorems. Conditions: as each theorem states them. -/
import Derived.Test.YtbnmajedmajfoaaGreatDoorCFnPatternsAnsweredOfAllP
import Derived.Test.YtbnmajedmajfoaaGreatDoorCFnPatternsAnsweredOfAllF0
import Derived.Test.YtbnmajedmajfoaaGreatDoorCFnPatternsAnsweredOfAllF1
import Derived.Test.YtbnmajedmajfoaaGreatDoorCFnPatternsAnsweredOfAllF2
import Derived.Test.YtbnmajedmajfoaaGreatDoorCFnPatternsAnsweredOfAllF3
import Derived.Deep.Slices
import Derived.Deep.Fields
import Derived.ChangeSame
import Derived.ChangeSlices
import Derived.Lib.SmallJoins
import Derived.ProofKit
import Derived.OpenShut
import Derived.ShutString
import Derived.ChangeOld
import Derived.SizedLaws
namespace Go.Proofs.YtbnmajedmajfoaaGreatDoor.P
open Go.RowKit Go.Proofs.YtbnmajedmajfoaaGreatDoorW.PrintWords Go.Proofs.YtbnmajedmajfoaaGreatDoorW.PrintLast
set_option linter.unusedVariables false
set_option linter.unusedSimpArgs false
section
open Go.ChangeShapes Go.WideShapes Go.Deep Go.ChangeAt
variable {H : Type} {enc : TypeId × Value → H} {P : Program} {w : World} {base : Nat} {spare : Nat → Bool} {held : Bool}
theorem open_pairs {t e : TypeId} {f0 f1 : Field} {fuel : Nat} {v : Value} {x : DataW H × List MemPlace} (ht : P.underlying t = some (.slice e)) (he : P.underlying e = some (.struct #[f0, f1]))
    (hone : oneCellFields P #[f0, f1] = true) (hC : P.cellsOf e = 2) (h0 : P.underlying f0.type = some (.int .i64)) (h1 : P.underlying f1.type = some (.int .i64)) (h : DataW.trod enc P w base spare held fuel t [v] = some x) :
    ∃ (a : Option Addr) (len cap : Nat) (l : List (Int × Int)), v = .slice a len cap ∧ len = l.length ∧ len ≤ cap ∧ l.length ≤ 9223372036854775807 ∧ (∀ p ∈ l, (Lit.int .i64 p.1).wf = true ∧ (Lit.int .i64 p.2).wf = true) ∧
      (0 < l.length → ∃ ad, a = some ad ∧ ∀ j p, l[j]? = some p → w.cell? (ad.add (j * 2)) = some (.int .i64 p.1) ∧ w.cell? (ad.add (j * 2 + 1)) = some (.int .i64 p.2)) := by
  rcases open_slice ht h with ⟨hcs, -⟩ | ⟨a, len, cap, m, n, D, Pl, hcs, hb, hl, hm, hmm, hx, hi⟩
  · simp at hcs
    exact ⟨none, 0, 0, [], hcs, rfl, Nat.le_refl _, by simp, by simp, by simp⟩
  · simp at hcs
    have hlm : len ≤ m := by rw [hmm]; split <;> omega
    have hget : ∀ i, i < len → ∃ p : Int × Int, w.cell? (a.add (i * 2)) = some (.int .i64 p.1) ∧ w.cell? (a.add (i * 2 + 1)) = some (.int .i64 p.2) ∧ (Lit.int .i64 p.1).wf = true ∧ (Lit.int .i64 p.2).wf = true := by
      intro i him
      obtain ⟨cs', hc, ht'⟩ := hi i (by omega)
      rw [hC] at hc
      obtain ⟨y0, y1, n', hy, -, t0, t1⟩ := trod_struct2 he ht'
      obtain ⟨_, hcl, hat⟩ := World.cells?_some hc
      obtain ⟨o0, k0⟩ := hone_of hone 0 f0 rfl
      obtain ⟨o1, k1⟩ := hone_of hone 1 f1 rfl
      have c0 := hat (i := 0) (by omega)
      have c1 := hat (i := 1) (by omega)
      match cs', hcl with
      | [u0, u1], _ =>
        simp only [o0, k0, List.drop_zero, List.take_succ_cons, List.take_zero] at t0
        simp only [o1, k1, List.drop_succ_cons, List.drop_zero, List.take_succ_cons, List.take_zero] at t1
        obtain ⟨z0, e0, -, w0⟩ := DataW.trod_int h0 t0
        obtain ⟨z1, e1, -, w1⟩ := DataW.trod_int h1 t1
        simp at e0 e1
        subst e0 e1
        refine ⟨(z0, z1), ?_, ?_, w0, w1⟩
        · simpa [Go.Deep.add_add] using c0
        · simpa [Go.Deep.add_add] using c1
    let g : Nat → Int × Int := fun i => if hi : i < len then (hget i hi).choose else (0, 0)
    have hg : ∀ i, i < len → w.cell? (a.add (i * 2)) = some (.int .i64 (g i).1) ∧ w.cell? (a.add (i * 2 + 1)) = some (.int .i64 (g i).2) ∧ (Lit.int .i64 (g i).1).wf = true ∧ (Lit.int .i64 (g i).2).wf = true := by
      intro i hi
      have := (hget i hi).choose_spec
      simpa [g, hi] using this
    refine ⟨some a, len, cap, (List.range len).map g, hcs, by simp, hl, by simp; unfold maxLen at hm; omega, ?_, ?_⟩
    · intro p hp
      simp at hp
      obtain ⟨i, hi, rfl⟩ := hp
      exact ⟨(hg i hi).2.2.1, (hg i hi).2.2.2⟩
    · intro _
      refine ⟨a, rfl, fun j p hj => ?_⟩
      simp [List.getElem?_map] at hj
      obtain ⟨i, hij, rfl⟩ := hj
      have hjl : j < len := by
        have := (List.getElem?_eq_some_iff.1 hij).1
        simpa using this
      have : i = j := by
        have := List.getElem?_range hjl
        rw [this] at hij
        simpa using hij.symm
      subst this
      exact ⟨(hg i hjl).1, (hg i hjl).2.1⟩
theorem open_nums {t e : TypeId} {k : IntKind} {fuel : Nat} {v : Value} {x : DataW H × List MemPlace} (ht : P.underlying t = some (.slice e)) (he : P.underlying e = some (.int k)) (hc : P.cellsOf e = 1)
    (h : DataW.trod enc P w base spare held fuel t [v] = some x) :
    ∃ (a : Option Addr) (len cap : Nat) (l : List Int), v = .slice a len cap ∧ len = l.length ∧ len ≤ cap ∧ l.length ≤ 9223372036854775807 ∧ (∀ n ∈ l, (Lit.int k n).wf = true) ∧ (Kd.int k).C w a l.length l := by
  rcases open_ints ht he hc h with ⟨hcs, -⟩ | ⟨a, len, cap, zs, hcs, hb, hl, hm, hz, hx, hcell, hwf⟩
  · simp at hcs
    exact ⟨none, 0, 0, [], hcs, rfl, Nat.le_refl _, by simp, by simp, Kd.C_nil _ _⟩
  · simp at hcs
    have hlz : len ≤ zs.length := by rw [hz]; split <;> omega
    have hlen : (zs.take len).length = len := by simp; omega
    have hmax : (zs.take len).length ≤ 9223372036854775807 := by rw [hlen]; unfold maxLen at hm; omega
    refine ⟨some a, len, cap, zs.take len, hcs, hlen.symm, hl, hmax, fun n hn => hwf n (List.mem_of_mem_take hn), ?_⟩
    refine Kd.C_of_reads (d := (0 : Int)) (h1 := fun _ => rfl) ⟨rfl, hmax, fun hn => ⟨a, rfl, fun i hi => ?_⟩⟩
    rw [hlen] at hi
    rw [hcell i (by omega)]
    congr 2
    simp [List.getD, hi]
end
end Go.Proofs.YtbnmajedmajfoaaGreatDoor.P
namespace Go.Proofs.YtbnmajedmajfoaaGreatDoor.P
open Go.RowKit Go.Proofs.YtbnmajedmajfoaaGreatDoorW.PrintWords Go.Proofs.YtbnmajedmajfoaaGreatDoorW.PrintLast
set_option linter.unusedVariables false
set_option linter.unusedSimpArgs false
theorem Ev.get {α : Type} {g : Nat → Option α} {r : α} (h : Ev g r) : ∃ K, ∀ k, K ≤ k → g k = some r := h
theorem Ev.mk' {α : Type} {g : Nat → Option α} {r : α} (K : Nat) (h : ∀ k, K ≤ k → g (k + 1) = some r) : Ev g r :=
  ⟨K + 1, fun k hk => by obtain ⟨m, rfl⟩ : ∃ m, k = m + 1 := ⟨k - 1, by omega⟩; exact h m (by omega)⟩
theorem Ev.pos {α : Type} {c : Prop} [Decidable c] {g f : Nat → Option α} {r : α} (hc : c) (h : Ev g r) : Ev (fun k => if c then g k else f k) r := by
  obtain ⟨K, h⟩ := h
  exact ⟨K, fun k hk => by show (if c then g k else f k) = some r; rw [if_pos hc]; exact h k hk⟩
theorem Ev.neg {α : Type} {c : Prop} [Decidable c] {g f : Nat → Option α} {r : α} (hc : ¬ c) (h : Ev f r) : Ev (fun k => if c then g k else f k) r := by
  obtain ⟨K, h⟩ := h
  exact ⟨K, fun k hk => by show (if c then g k else f k) = some r; rw [if_neg hc]; exact h k hk⟩
theorem Ev.let_ {α β : Type} {f : Nat → α → Option β} {a : α} {r : β} (k : Ev (fun n => f n a) r) : Ev (fun n => (some a).bind (f n)) r := k
theorem Ev.some_ {α : Type} {a r : α} (h : a = r) : Ev (fun _ => some a) r := ⟨0, fun _ _ => by rw [h]⟩
theorem Ev.eq_ {α : Type} {g : Nat → Option α} {a r : α} (h : Ev g a) (e : a = r) : Ev g r := e ▸ h
theorem wrap_id {n : Int} (h1 : -9223372036854775808 ≤ n) (h2 : n ≤ 9223372036854775807) : wrap64 n = n := by unfold wrap64; omega
theorem wf_int {n : Int} (h : (Lit.int .i64 n).wf = true) : -9223372036854775808 ≤ n ∧ n ≤ 9223372036854775807 := by
  unfold Lit.wf at h
  simp only [Bool.and_eq_true, decide_eq_true_eq] at h
  exact h
theorem obind {α β : Type} (a : α) (f : α → Option β) : (some a).bind f = f a := id rfl
end Go.Proofs.YtbnmajedmajfoaaGreatDoor.P
namespace Go.Proofs.YtbnmajedmajfoaaGreatDoor.P
open Go.RowKit Go.Proofs.YtbnmajedmajfoaaGreatDoorW.PrintWords Go.Proofs.YtbnmajedmajfoaaGreatDoorW.PrintLast
set_option linter.unusedVariables false
set_option linter.unusedSimpArgs false
theorem l1In_ok (a b c : Int) : spec_l1In.f a b c = some (decide (b ≤ a) && decide (a ≤ c)) := by
  unfold spec_l1In.f
  by_cases h : b ≤ a <;> simp [h]
end Go.Proofs.YtbnmajedmajfoaaGreatDoor.P
namespace Go.Proofs.YtbnmajedmajfoaaGreatDoor.P
open Go.RowKit Go.Proofs.YtbnmajedmajfoaaGreatDoorW.PrintWords Go.Proofs.YtbnmajedmajfoaaGreatDoorW.PrintLast
set_option linter.unusedVariables false
set_option linter.unusedSimpArgs false
def left (l : List SRule) (n : Int) : Bool := !(l.any (crosses n))
def goodRules (l : List SRule) : Bool := decide (l.length ≤ 12) && l.all okRule
theorem okRule_iff (x : SRule) : okRule x = true ↔ 2 ≤ x.f0 ∧ x.f0 ≤ 60 ∧ 0 ≤ x.f1 ∧ x.f1 < x.f0 := by
  unfold okRule; simp
theorem siRule_ok (x : SRule) : spec_siRule.f x.f0 x.f1 = some (okRule x) := by
  unfold spec_siRule.f okRule
  simp only [l1In_ok, Option.bind_some]
  by_cases h1 : 2 ≤ x.f0
  · by_cases h2 : x.f0 ≤ 60
    · have : wrap64 (x.f0 - 1) = x.f0 - 1 := wrap_id (by omega) (by omega)
      rw [this]
      by_cases h3 : 0 ≤ x.f1
      · simp [h1, h2, h3]; omega
      · simp [h1, h2, h3]
    · simp [h1, h2]
  · simp [h1]
theorem rd_drop (l : List SRule) (k : Nat) (h : k < l.length) : l.drop k = rd_Rule l k :: l.drop (k + 1) := drop_rd l k h
theorem siGood_l0 (l : List SRule) (hm : l.length ≤ 12) : ∀ d i : Nat, i + d = l.length → Ev (fun k => spec_siGood.l0 k l l.length i) ((l.drop i).all okRule)
  | 0, i, h => Ev.mk' 0 fun k _ => by
    simp only [spec_siGood.l0]
    rw [if_neg (by omega), List.drop_eq_nil_of_le (by omega)]; rfl
  | d + 1, i, h => by
    obtain ⟨K, ih⟩ := siGood_l0 l hm d (i + 1) (by omega)
    dsimp only at ih
    refine Ev.mk' K fun k hk => ?_
    simp only [spec_siGood.l0]
    rw [if_pos (by omega), if_pos (by omega), if_pos (by omega), siRule_ok, rd_drop l i (by omega), List.all_cons, Option.bind_some]
    rw [show wrap64 ((i : Int) + 1) = ((i + 1 : Nat) : Int) from wrap_id (by omega) (by omega), ih k hk]
    cases okRule (rd_Rule l i) <;> simp
theorem siGood_ev (l : List SRule) : Ev (fun k => spec_siGood.f k l) (goodRules l) := by
  unfold goodRules
  by_cases h : l.length ≤ 12
  · obtain ⟨K, ih⟩ := siGood_l0 l h l.length 0 (by omega)
    refine ⟨K, fun k hk => ?_⟩
    simp only [spec_siGood.f]
    rw [if_neg (by omega)]
    simpa [h] using ih k hk
  · refine ⟨0, fun k _ => ?_⟩
    simp only [spec_siGood.f]
    rw [if_pos (by omega)]
    simp [h]
theorem areRules_ok (l : List SRule) : impl_areRules.f l = some (goodRules l) := rfl
theorem good_all {l : List SRule} (h : goodRules l = true) : l.length ≤ 12 ∧ l.all okRule = true := by
  unfold goodRules at h
  simpa using h
theorem siRest_ok (n : Int) (x : SRule) (h : okRule x = true) : spec_siRest.f n x.f0 = some (n % x.f0) := by
  have := mod_ok n x.f0 ((okRule_iff x).1 h).1 ((okRule_iff x).1 h).2.1
  exact this
theorem siFirst_l0 (n : Int) (l : List SRule) (hm : l.length ≤ 9223372036854775807) (hl : l.all okRule = true) : ∀ d i : Nat, i + d = l.length → Ev (fun k => spec_siFirst.l0 k n l l.length i) (firstIx (crosses n) (l.drop i) i)
  | 0, i, h => Ev.mk' 0 fun k _ => by
    simp only [spec_siFirst.l0]
    rw [if_neg (by omega), List.drop_eq_nil_of_le (by omega)]; rfl
  | d + 1, i, h => by
    obtain ⟨K, ih⟩ := siFirst_l0 n l hm hl d (i + 1) (by omega)
    dsimp only at ih
    refine Ev.mk' K fun k hk => ?_
    simp only [spec_siFirst.l0]
    rw [if_pos (by omega), if_pos (by omega), if_pos (by omega), siRest_ok n _ (List.all_eq_true.mp hl _ (rd_mem l i (by omega))), rd_drop l i (by omega), Option.bind_some]
    rw [show wrap64 ((i : Int) + 1) = ((i + 1 : Nat) : Int) from wrap_id (by omega) (by omega), ih k hk]
    rw [firstIx]
    by_cases hc : n % (rd_Rule l i).f0 = (rd_Rule l i).f1
    · rw [if_pos hc, if_pos (by simp [crosses, hc])]
    · rw [if_neg hc, if_neg (by simp [crosses, hc])]; rfl
theorem siFirst_ev (n : Int) (l : List SRule) (hm : l.length ≤ 9223372036854775807) (hl : l.all okRule = true) : Ev (fun k => spec_siFirst.f k l n) (firstIx (crosses n) l 0) :=
  siFirst_l0 n l hm hl l.length 0 (by omega)
theorem first_left (n : Int) (l : List SRule) : decide (firstIx (crosses n) l 0 < 0) = left l n := by
  have h := firstIx_any (crosses n) l 0 (by omega)
  unfold left
  rw [← h]
  by_cases hc : 0 ≤ firstIx (crosses n) l 0
  · simp [hc, Int.not_lt.mpr hc]
  · simp [hc, Int.not_le.mp hc]
theorem siLeft_ev (n : Int) (l : List SRule) (hm : l.length ≤ 9223372036854775807) (hl : l.all okRule = true) : Ev (fun k => spec_siLeft.f k l n) (left l n) := by
  obtain ⟨K, h⟩ := siFirst_ev n l hm hl
  refine ⟨K, fun k hk => ?_⟩
  simp only [spec_siLeft.f, h k hk, Option.bind_some, first_left]
theorem isLeft_ok (n : Int) (l : List SRule) (hl : l.all okRule = true) : impl_isLeft.f l n = some (left l n) := by
  simp only [impl_isLeft.f, impl_firstRule.f, if_pos hl, Option.bind_some, first_left]
end Go.Proofs.YtbnmajedmajfoaaGreatDoor.P
namespace Go.Proofs.YtbnmajedmajfoaaGreatDoor.P
open Go.RowKit Go.Proofs.YtbnmajedmajfoaaGreatDoorW.PrintWords Go.Proofs.YtbnmajedmajfoaaGreatDoorW.PrintLast
set_option linter.unusedVariables false
set_option linter.unusedSimpArgs false
def sign (b : UInt8) : Bool := b == 111 || (b == 120 || b == 63)
def goodP (s : ByteArray) (n : Int) : Bool := decide (1 ≤ s.size) && (decide (s.size ≤ 48) && (s.data.toList.all sign && (decide (0 ≤ n) && decide (n ≤ 3))))
theorem all_drop_sign (l : List UInt8) : (l.dropWhile ([111, 120, 63] : List UInt8).contains = []) ↔ l.all sign = true := by
  induction l with
  | nil => simp
  | cons x l ih =>
    have e : ([111, 120, 63] : List UInt8).contains x = sign x := by simp [sign, List.contains_cons]; rfl
    rw [List.dropWhile_cons, e, List.all_cons]
    cases hx : sign x
    · simp
    · simpa using ih
theorem drop_id (p : UInt8 → Bool) (l : List UInt8) (h : ∀ x, l.head? = some x → p x = false) : l.dropWhile p = l := by
  cases l with
  | nil => rfl
  | cons x l => rw [List.dropWhile_cons, h x rfl]; rfl
theorem trimS_nil (l : List UInt8) : (Lib.trimS l [111, 120, 63] = []) ↔ l.all sign = true := by
  have e : ∀ m : List UInt8, Lib.trimLeftS m [111, 120, 63] = [] ↔ m.all sign = true := fun m => all_drop_sign m
  have e2 : ∀ m : List UInt8, Lib.trimRightS m [111, 120, 63] = (Lib.trimLeftS m.reverse [111, 120, 63]).reverse := fun m => rfl
  unfold Lib.trimS
  rw [e, e2, List.all_reverse]
  constructor
  · intro h
    have h2 := (e (Lib.trimLeftS l.reverse [111, 120, 63])).2 h
    have h3 : Lib.trimLeftS l.reverse [111, 120, 63] = [] := by
      cases hd : Lib.trimLeftS l.reverse [111, 120, 63] with
      | nil => rfl
      | cons x m =>
        exfalso
        have hx : ([111, 120, 63] : List UInt8).contains x = false := by
          have := List.head?_dropWhile_not (p := fun b => ([111, 120, 63] : List UInt8).contains b) (l := l.reverse)
          unfold Lib.trimLeftS at hd
          rw [hd] at this
          simpa using this
        rw [hd, List.all_cons] at h
        have e3 : ([111, 120, 63] : List UInt8).contains x = sign x := by simp [sign, List.contains_cons]; rfl
        rw [e3] at hx
        rw [hx] at h
        simp at h
    have := (e l.reverse).1 h3
    simpa using this
  · intro h
    have h3 := (e l.reverse).2 (by simpa using h)
    rw [h3]; rfl
theorem isPuzzle_ok (s : ByteArray) (n : Int) : impl_isPuzzle.f s n = some (goodP s n) := by
  unfold impl_isPuzzle.f goodP
  by_cases h1 : (s.size : Int) ≥ 1
  · by_cases h2 : (s.size : Int) ≤ 48
    · have e : strings_Trim.f s (⟨#[111, 120, 63]⟩ : ByteArray) = some ⟨(Lib.trimS s.data.toList [111, 120, 63]).toArray⟩ := by
        unfold strings_Trim.f; rw [if_pos ⟨by omega, rfl⟩]
      rw [if_pos h1, if_pos h2, e, obind]
      have d1 : decide (1 ≤ s.size) = true := decide_eq_true (by omega)
      have d2 : decide (s.size ≤ 48) = true := decide_eq_true (by omega)
      rw [d1, d2, Bool.true_and, Bool.true_and]
      have e3 : (ByteArray.toList ⟨(Lib.trimS s.data.toList [111, 120, 63]).toArray⟩ = ([] : List UInt8)) ↔ s.data.toList.all sign = true := by
        rw [← trimS_nil, ByteArray.toList_eq]
      by_cases h3 : s.data.toList.all sign = true
      · rw [if_pos (e3.2 h3), h3, Bool.true_and]
        by_cases h4 : n ≥ 0
        · rw [if_pos h4, decide_eq_true (show 0 ≤ n by omega), Bool.true_and]
        · rw [if_neg h4, decide_eq_false (show ¬ 0 ≤ n by omega), Bool.false_and]
      · rw [if_neg (fun h => h3 (e3.1 h)), Bool.eq_false_iff.2 h3, Bool.false_and]
    · rw [if_pos h1, if_neg h2, decide_eq_false (show ¬ s.size ≤ 48 by omega), Bool.false_and, Bool.and_false]
  · rw [if_neg h1, decide_eq_false (show ¬ 1 ≤ s.size by omega), Bool.false_and]
theorem bt_sign (s : ByteArray) (i : Nat) (h : i < s.size) : (bt s i = 111 ∨ bt s i = 120 ∨ bt s i = 63) ↔ sign (s.data.toList[i]'(by simpa using h)) = true := by
  have e : bt s i = ((s[i]'h).toNat : Int) := (bt_at s (i : Int) h).symm
  have e2 : s.data.toList[i]'(by simpa using h) = s[i]'h := by simp; rfl
  rw [e2]
  generalize s[i]'h = b at e
  rw [e]
  simp only [sign, Bool.or_eq_true, beq_iff_eq]
  constructor
  · rintro (h | h | h)
    · left; exact UInt8.toNat_inj.mp (by simpa using (by omega : b.toNat = 111))
    · right; left; exact UInt8.toNat_inj.mp (by simpa using (by omega : b.toNat = 120))
    · right; right; exact UInt8.toNat_inj.mp (by simpa using (by omega : b.toNat = 63))
  · rintro (rfl | rfl | rfl) <;> simp
theorem pzPattern_l0 (s : ByteArray) (hm : s.size ≤ 48) : ∀ d i : Nat, i + d = s.size → Ev (fun k => spec_pzPattern.l0 k s i) ((s.data.toList.drop i).all sign)
  | 0, i, h => Ev.mk' 0 fun k _ => by
    simp only [spec_pzPattern.l0]
    rw [if_neg (by omega), List.drop_of_length_le (by simp; omega)]; rfl
  | d + 1, i, h => by
    obtain ⟨K, ih⟩ := pzPattern_l0 s hm d (i + 1) (by omega)
    dsimp only at ih
    have hi : i < s.data.toList.length := by simp; show i < s.size; omega
    have hb := bt_sign s i (by omega)
    refine Ev.mk' K fun k hk => ?_
    rw [List.drop_eq_getElem_cons hi, List.all_cons]
    simp only [spec_pzPattern.l0]
    rw [if_pos (by omega), if_pos (by omega), wrap_id (by omega) (by omega), show ((i : Int) + 1) = ((i + 1 : Nat) : Int) by omega, ih k hk]
    by_cases h1 : bt s i = 111
    · rw [if_pos h1, hb.1 (.inl h1), Bool.true_and]
    · by_cases h2 : bt s i = 120
      · rw [if_neg h1, if_pos h2, hb.1 (.inr (.inl h2)), Bool.true_and]
      · by_cases h3 : bt s i = 63
        · rw [if_neg h1, if_neg h2, if_pos h3, hb.1 (.inr (.inr h3)), Bool.true_and]
        · have hn : sign (s.data.toList[i]'hi) = false := Bool.eq_false_iff.2 (fun h => by rcases hb.2 h with h | h | h <;> contradiction)
          rw [if_neg h1, if_neg h2, if_neg h3, hn, Bool.false_and]
theorem pzGood_ev (s : ByteArray) (n : Int) : Ev (fun k => spec_pzGood.f k s n) (goodP s n) := by
  unfold goodP
  by_cases h : 1 ≤ s.size ∧ s.size ≤ 48
  · obtain ⟨K, h3⟩ := pzPattern_l0 s h.2 s.size 0 (by omega)
    have h3 : ∀ k, K ≤ k → spec_pzPattern.l0 k s 0 = some (s.data.toList.all sign) := fun k hk => by have := h3 k hk; rwa [List.drop_zero] at this
    refine ⟨K, fun k hk => ?_⟩
    have d1 : (decide ((1 : Int) ≤ (s.size : Int)) && decide ((s.size : Int) ≤ 48)) = true := by simp; omega
    simp only [spec_pzGood.f, spec_pzPattern.f, l1In_ok, obind, d1, if_true, h3 k hk]
    rw [decide_eq_true h.1, decide_eq_true h.2, Bool.true_and, Bool.true_and]
    cases s.data.toList.all sign <;> simp
  · refine ⟨0, fun k hk => ?_⟩
    have d1 : (decide ((1 : Int) ≤ (s.size : Int)) && decide ((s.size : Int) ≤ 48)) = false := by
      rw [Bool.and_eq_false_iff]; simp only [decide_eq_false_iff_not]; omega
    have d2 : (decide (1 ≤ s.size) && (decide (s.size ≤ 48) && (s.data.toList.all sign && (decide (0 ≤ n) && decide (n ≤ 3))))) = false := by
      rw [← Bool.and_assoc, Bool.and_eq_false_iff]; left
      rw [Bool.and_eq_false_iff]; simp only [decide_eq_false_iff_not]; omega
    simp only [spec_pzGood.f, spec_pzPattern.f, l1In_ok, obind, d1, Bool.false_eq_true, if_false, d2]
end Go.Proofs.YtbnmajedmajfoaaGreatDoor.P
namespace Go.Proofs.YtbnmajedmajfoaaGreatDoor.P
open Go.RowKit Go.Proofs.YtbnmajedmajfoaaGreatDoorW.PrintWords Go.Proofs.YtbnmajedmajfoaaGreatDoorW.PrintLast
set_option linter.unusedVariables false
set_option linter.unusedSimpArgs false
def fitD (s : ByteArray) (e t : Int) (pos : Nat) : Nat → Bool
  | 0 => true
  | d + 1 => !(bt s pos == 111 && (((pos : Int) + 1) % e == t)) && fitD s e t (pos + 1) d
def rowFit (s : ByteArray) (e t : Int) : Nat → List SRule
  | 0 => []
  | d + 1 => (cond (fitD s e t 0 s.size) [(⟨e, t⟩ : SRule)] []) ++ rowFit s e (t + 1) d
def allFit (s : ByteArray) (e : Int) : Nat → List SRule
  | 0 => []
  | d + 1 => rowFit s e 0 e.toNat ++ allFit s (e + 1) d
def fitOf (s : ByteArray) : List SRule := allFit s 2 9
theorem rowFit_length (s : ByteArray) (e : Int) : ∀ d t, (rowFit s e t d).length ≤ d
  | 0, t => by simp [rowFit]
  | d + 1, t => by
    have := rowFit_length s e d (t + 1)
    simp only [rowFit, List.length_append]
    cases fitD s e t 0 s.size <;> simp <;> omega
theorem allFit_length (s : ByteArray) : ∀ (d : Nat) (e : Int), e + d = 11 → (allFit s e d).length ≤ 11 * d
  | 0, e, h => by simp [allFit]
  | d + 1, e, h => by
    have := allFit_length s d (e + 1) (by omega)
    have h2 := rowFit_length s e e.toNat 0
    simp only [allFit, List.length_append]
    omega
theorem fitOf_length (s : ByteArray) : (fitOf s).length ≤ 99 := allFit_length s 9 2 (by omega)
theorem good_sign {s : ByteArray} {n : Int} (h : goodP s n = true) : s.data.toList.all sign = true := by
  unfold goodP at h; simp only [Bool.and_eq_true] at h; exact h.2.2.1
theorem sign_bt {s : ByteArray} (hs : s.data.toList.all sign = true) (i : Nat) (h : i < s.size) : bt s i = 111 ∨ bt s i = 120 ∨ bt s i = 63 :=
  (bt_sign s i h).2 (List.all_eq_true.1 hs _ (List.getElem_mem _))
theorem pzFits_l0 (s : ByteArray) (hs : s.data.toList.all sign = true) (hz : s.size ≤ 48) (e t : Int) (h0 : 2 ≤ e) (h1 : e ≤ 10) (h2 : 0 ≤ t) (h3 : t < e) : ∀ d pos : Nat, pos + d = s.size → Ev (fun k => spec_pzFits.l0 k s e t pos) (fitD s e t pos d)
  | 0, pos, h => Ev.mk' 0 fun k _ => by
    simp only [spec_pzFits.l0, fitD]
    rw [if_neg (by omega)]
  | d + 1, pos, h => by
    obtain ⟨K, ih⟩ := pzFits_l0 s hs hz e t h0 h1 h2 h3 d (pos + 1) (by omega)
    dsimp only at ih
    have hb := sign_bt hs pos (by omega)
    have hr := siRest_ok ((pos : Int) + 1) ⟨e, t⟩ ((okRule_iff _).2 ⟨h0, by show e ≤ 60; omega, h2, h3⟩)
    have hr : spec_siRest.f ((pos : Int) + 1) e = some (((pos : Int) + 1) % e) := hr
    refine Ev.mk' K fun k hk => ?_
    simp only [spec_pzFits.l0, fitD]
    rw [if_pos (by omega), if_pos (by omega), wrap_id (by omega) (by omega), hr, obind, ih k hk]
    by_cases c : bt s pos = 111
    · rw [if_pos c, beq_iff_eq.2 c, Bool.true_and]
      by_cases c2 : ((pos : Int) + 1) % e = t
      · rw [if_pos c2, beq_iff_eq.2 c2]; rfl
      · rw [if_neg c2, beq_eq_false_iff_ne.2 c2]; simp
    · rw [if_neg c, beq_eq_false_iff_ne.2 c]; simp
theorem pzFits_ev (s : ByteArray) (hs : s.data.toList.all sign = true) (hz : s.size ≤ 48) (e t : Int) (h0 : 2 ≤ e) (h1 : e ≤ 10) (h2 : 0 ≤ t) (h3 : t < e) : Ev (fun k => spec_pzFits.f k s e t) (fitD s e t 0 s.size) :=
  pzFits_l0 s hs hz e t h0 h1 h2 h3 s.size 0 (by omega)
theorem pzFit_l1 (s : ByteArray) (hs : s.data.toList.all sign = true) (hz : s.size ≤ 48) (e : Int) (h0 : 2 ≤ e) (h1 : e ≤ 10) (r : List SRule) : ∀ (d : Nat) (t : Int) (acc : List SRule), t + d = e → 0 ≤ t → acc.length + d ≤ 300 → Ev (fun k => spec_pzFit.l0 k s (acc ++ rowFit s e t d) (e + 1)) r → Ev (fun k => spec_pzFit.l1 k s acc e t) r
  | 0, t, acc, h, h2, h3, ⟨K, hk⟩ => Ev.mk' K fun k hk' => by
    simp only [rowFit, List.append_nil] at hk
    simp only [spec_pzFit.l1]
    rw [if_neg (by omega), wrap_id (by omega) (by omega), hk k hk']
  | d + 1, t, acc, h, h2, h3, hc => by
    obtain ⟨K1, hf⟩ := pzFits_ev s hs hz e t h0 h1 h2 (by omega)
    dsimp only at hf
    simp only [rowFit] at hc
    cases c : fitD s e t 0 s.size with
    | true =>
      rw [c, cond_true, ← List.append_assoc] at hc
      rw [c] at hf
      obtain ⟨K, ih⟩ := pzFit_l1 s hs hz e h0 h1 r d (t + 1) (acc ++ [⟨e, t⟩]) (by omega) (by omega) (by simp; omega) hc
      dsimp only at ih
      refine Ev.mk' (K + K1) fun k hk => ?_
      simp only [spec_pzFit.l1, hf k (by omega), obind]
      rw [if_pos (by omega), if_pos trivial, if_pos (by omega), wrap_id (by omega) (by omega), ih k (by omega)]
    | false =>
      rw [c, cond_false, List.nil_append] at hc
      rw [c] at hf
      obtain ⟨K, ih⟩ := pzFit_l1 s hs hz e h0 h1 r d (t + 1) acc (by omega) (by omega) (by omega) hc
      dsimp only at ih
      refine Ev.mk' (K + K1) fun k hk => ?_
      simp only [spec_pzFit.l1, hf k (by omega), obind]
      rw [if_pos (by omega), if_neg (by decide), wrap_id (by omega) (by omega), ih k (by omega)]
theorem pzFit_l0 (s : ByteArray) (hs : s.data.toList.all sign = true) (hz : s.size ≤ 48) : ∀ (d : Nat) (e : Int) (acc : List SRule), e + d = 11 → 2 ≤ e → acc.length + 11 * d ≤ 200 → Ev (fun k => spec_pzFit.l0 k s acc e) (acc ++ allFit s e d)
  | 0, e, acc, h, h2, h3 => Ev.mk' 0 fun k _ => by
    simp only [spec_pzFit.l0, allFit, List.append_nil]
    rw [if_neg (by omega)]
  | d + 1, e, acc, h, h2, h3 => by
    have hl := rowFit_length s e e.toNat 0
    have ih := pzFit_l0 s hs hz d (e + 1) (acc ++ rowFit s e 0 e.toNat) (by omega) (by omega) (by rw [List.length_append]; omega)
    obtain ⟨K, h4⟩ := pzFit_l1 s hs hz e h2 (by omega) _ e.toNat 0 acc (by omega) (by omega) (by omega) ih
    dsimp only at h4
    refine Ev.mk' K fun k hk => ?_
    simp only [spec_pzFit.l0, allFit]
    rw [if_pos (by omega), h4 k hk, List.append_assoc]
theorem pzFit_ev (s : ByteArray) (hs : s.data.toList.all sign = true) (hz : s.size ≤ 48) : Ev (fun k => spec_pzFit.f k s) (fitOf s) := by
  obtain ⟨K, h⟩ := pzFit_l0 s hs hz 9 2 [] (by omega) (by omega) (by simp)
  exact ⟨K, fun k hk => h k hk⟩
theorem fitting_l2 (s : ByteArray) (hz : s.size ≤ 48) (e t : Int) (h0 : 2 ≤ e) (h1 : e ≤ 10) (acc : List SRule) (hl : acc.length ≤ 300) (r : List SRule) : ∀ (d pos : Nat) (b : Bool), pos + d = s.size → Ev (fun k => impl_fitting.l1 k s (acc ++ cond (b && fitD s e t pos d) [(⟨e, t⟩ : SRule)] []) e e (wrap64 (t + 1))) r → Ev (fun k => impl_fitting.l2 k s acc e t b e t (s.size : Int) pos) r
  | 0, pos, b, h, ⟨K, hk⟩ => Ev.mk' K fun k hk' => by
    have hk := hk k hk'
    simp only [fitD, Bool.and_true] at hk
    simp only [impl_fitting.l2]
    rw [if_neg (by omega)]
    cases b with
    | true => rw [cond_true] at hk; rw [if_pos rfl, if_pos (by omega)]; exact hk
    | false => rw [cond_false, List.append_nil] at hk; rw [if_neg (by decide)]; exact hk
  | d + 1, pos, b, h, hc => by
    simp only [fitD] at hc
    cases b with
    | false =>
      obtain ⟨K, ih⟩ := fitting_l2 s hz e t h0 h1 acc hl r d (pos + 1) false (by omega) hc
      dsimp only at ih
      refine Ev.mk' K fun k hk => ?_
      simp only [impl_fitting.l2]
      rw [if_pos (by omega), if_neg (by decide), wrap_id (by omega) (by omega)]
      exact ih k hk
    | true =>
      have hm : Int.tmod ((pos : Int) + 1) e = ((pos : Int) + 1) % e := Int.tmod_eq_emod_of_nonneg (by omega)
      rw [Bool.true_and] at hc
      by_cases c : bt s pos = 111
      · rw [beq_iff_eq.2 c, Bool.true_and] at hc
        obtain ⟨K, ih⟩ := fitting_l2 s hz e t h0 h1 acc hl r d (pos + 1) (((pos : Int) + 1) % e != t) (by omega) hc
        dsimp only at ih
        refine Ev.mk' K fun k hk => ?_
        simp only [impl_fitting.l2]
        rw [if_pos (by omega), if_pos (by first | rfl | trivial), if_pos (by omega), if_pos (by omega), if_pos c, if_neg (by omega), wrap_id (n := (pos : Int) + 1) (by omega) (by omega), hm]
        exact ih k hk
      · rw [beq_eq_false_iff_ne.2 c, Bool.false_and] at hc
        obtain ⟨K, ih⟩ := fitting_l2 s hz e t h0 h1 acc hl r d (pos + 1) true (by omega) hc
        dsimp only at ih
        refine Ev.mk' K fun k hk => ?_
        simp only [impl_fitting.l2]
        rw [if_pos (by omega), if_pos (by first | rfl | trivial), if_pos (by omega), if_pos (by omega), if_neg c, wrap_id (n := (pos : Int) + 1) (by omega) (by omega)]
        exact ih k hk
theorem fitting_l1 (s : ByteArray) (hz : s.size ≤ 48) (e : Int) (h0 : 2 ≤ e) (h1 : e ≤ 10) (r : List SRule) : ∀ (d : Nat) (t : Int) (acc : List SRule), t + d = e → 0 ≤ t → acc.length + d ≤ 300 → Ev (fun k => impl_fitting.l0 k s (acc ++ rowFit s e t d) (e + 1)) r → Ev (fun k => impl_fitting.l1 k s acc e e t) r
  | 0, t, acc, h, h2, h3, ⟨K, hk⟩ => Ev.mk' K fun k hk' => by
    simp only [rowFit, List.append_nil] at hk
    simp only [impl_fitting.l1]
    rw [if_neg (by omega), wrap_id (by omega) (by omega), hk k hk']
  | d + 1, t, acc, h, h2, h3, hc => by
    simp only [rowFit] at hc
    rw [← List.append_assoc] at hc
    have ih := fitting_l1 s hz e h0 h1 r d (t + 1) (acc ++ cond (fitD s e t 0 s.size) [(⟨e, t⟩ : SRule)] []) (by omega) (by omega) (by rw [List.length_append]; cases fitD s e t 0 s.size <;> simp <;> omega) hc
    obtain ⟨K, h4⟩ := fitting_l2 s hz e t h0 h1 acc (by omega) r s.size 0 true (by omega) (by rw [Bool.true_and, wrap_id (by omega) (by omega)]; exact ih)
    dsimp only at h4
    refine Ev.mk' K fun k hk => ?_
    simp only [impl_fitting.l1]
    rw [if_pos (by omega)]
    exact h4 k hk
theorem fitting_l0 (s : ByteArray) (hz : s.size ≤ 48) : ∀ (d : Nat) (e : Int) (acc : List SRule), e + d = 11 → 2 ≤ e → acc.length + 11 * d ≤ 200 → Ev (fun k => impl_fitting.l0 k s acc e) (acc ++ allFit s e d)
  | 0, e, acc, h, h2, h3 => Ev.mk' 0 fun k _ => by
    simp only [impl_fitting.l0, allFit, List.append_nil]
    rw [if_neg (by omega)]
  | d + 1, e, acc, h, h2, h3 => by
    have hl := rowFit_length s e e.toNat 0
    have ih := fitting_l0 s hz d (e + 1) (acc ++ rowFit s e 0 e.toNat) (by omega) (by omega) (by rw [List.length_append]; omega)
    obtain ⟨K, h4⟩ := fitting_l1 s hz e h2 (by omega) _ e.toNat 0 acc (by omega) (by omega) (by omega) ih
    dsimp only at h4
    refine Ev.mk' K fun k hk => ?_
    simp only [impl_fitting.l0, allFit]
    rw [if_pos (by omega), h4 k hk, List.append_assoc]
theorem fitting_ev (s : ByteArray) (hz : s.size ≤ 48) : Ev (fun k => impl_fitting.f k s) (fitOf s) := by
  obtain ⟨K, h⟩ := fitting_l0 s hz 9 2 [] (by omega) (by omega) (by simp)
  exact ⟨K, fun k hk => h k hk⟩
end Go.Proofs.YtbnmajedmajfoaaGreatDoor.P
namespace Go.Proofs.YtbnmajedmajfoaaGreatDoor.P
open Go.RowKit Go.Proofs.YtbnmajedmajfoaaGreatDoorW.PrintWords Go.Proofs.YtbnmajedmajfoaaGreatDoorW.PrintLast
set_option linter.unusedVariables false
set_option linter.unusedSimpArgs false
def covD (s : ByteArray) (l : List SRule) (pos : Nat) : Nat → Bool
  | 0 => true
  | d + 1 => !(bt s pos == 120 && left l ((pos : Int) + 1)) && covD s l (pos + 1) d
def agD (s : ByteArray) (l : List SRule) (pos : Nat) : Nat → Bool
  | 0 => true
  | d + 1 => !(bt s pos != 63 && (left l ((pos : Int) + 1) != (bt s pos == 111))) && agD s l (pos + 1) d
theorem all_and {α : Type} (p q : α → Bool) : ∀ l : List α, l.all (fun x => p x && q x) = (l.all p && l.all q)
  | [] => rfl
  | x :: l => by
    simp only [List.all_cons, all_and p q l]
    cases p x <;> cases q x <;> cases l.all p <;> cases l.all q <;> rfl
theorem left_all (l : List SRule) (n : Int) : left l n = l.all (fun r => !crosses n r) := by
  unfold left
  induction l with
  | nil => rfl
  | cons x l ih => rw [List.any_cons, List.all_cons, ← ih]; cases crosses n x <;> simp
theorem agD_eq (s : ByteArray) (hs : s.data.toList.all sign = true) (l : List SRule) : ∀ d pos : Nat, pos + d = s.size → agD s l pos d = (l.all (fun r => fitD s r.f0 r.f1 pos d) && covD s l pos d)
  | 0, pos, h => by
    have e : (fun r : SRule => fitD s r.f0 r.f1 pos 0) = fun _ => true := rfl
    rw [e]; simp [agD, covD]
  | d + 1, pos, h => by
    have ih := agD_eq s hs l d (pos + 1) (by omega)
    simp only [agD, covD, fitD]
    rw [all_and (fun r : SRule => !(bt s pos == 111 && ((pos : Int) + 1) % r.f0 == r.f1)) (fun r => fitD s r.f0 r.f1 (pos + 1) d), ih]
    rcases sign_bt hs pos (by omega) with hb | hb | hb <;> rw [hb]
    · have e : l.all (fun r : SRule => !((111 : Int) == 111 && ((pos : Int) + 1) % r.f0 == r.f1)) = left l ((pos : Int) + 1) := (left_all l _).symm
      rw [e]
      generalize left l ((pos : Int) + 1) = x
      generalize l.all (fun r => fitD s r.f0 r.f1 (pos + 1) d) = y
      generalize covD s l (pos + 1) d = z
      cases x <;> cases y <;> cases z <;> rfl
    · have e : l.all (fun r : SRule => !((120 : Int) == 111 && ((pos : Int) + 1) % r.f0 == r.f1)) = true := List.all_eq_true.2 fun _ _ => rfl
      rw [e]
      generalize left l ((pos : Int) + 1) = x
      generalize l.all (fun r => fitD s r.f0 r.f1 (pos + 1) d) = y
      generalize covD s l (pos + 1) d = z
      cases x <;> cases y <;> cases z <;> rfl
    · have e : l.all (fun r : SRule => !((63 : Int) == 111 && ((pos : Int) + 1) % r.f0 == r.f1)) = true := List.all_eq_true.2 fun _ _ => rfl
      rw [e]
      generalize left l ((pos : Int) + 1) = x
      generalize l.all (fun r => fitD s r.f0 r.f1 (pos + 1) d) = y
      generalize covD s l (pos + 1) d = z
      cases x <;> cases y <;> cases z <;> rfl
theorem agrees_l0 (s : ByteArray) (hs : s.data.toList.all sign = true) (hz : s.size ≤ 48) (l : List SRule) (hl : l.all okRule = true) : ∀ d pos : Nat, pos + d = s.size → Ev (fun k => impl_agrees.l0 k s l (s.size : Int) pos) (agD s l pos d)
  | 0, pos, h => Ev.mk' 0 fun k _ => by
    simp only [impl_agrees.l0, agD]
    rw [if_neg (by omega)]
  | d + 1, pos, h => by
    obtain ⟨K, ih⟩ := agrees_l0 s hs hz l hl d (pos + 1) (by omega)
    dsimp only at ih
    refine Ev.mk' K fun k hk => ?_
    have ih : impl_agrees.l0 k s l (s.size : Int) ((pos : Int) + 1) = some (agD s l (pos + 1) d) := ih k hk
    simp only [impl_agrees.l0, agD, isLeft_ok _ l hl, obind]
    rw [if_pos (by omega), if_pos (by omega), if_pos (by omega), wrap_id (by omega) (by omega), ih]
    by_cases c : bt s pos = 63
    · rw [if_pos c, c]; rfl
    · rw [if_neg c, bne_iff_ne.2 c, Bool.true_and]
      cases (left l ((pos : Int) + 1) != (bt s pos == 111)) <;> simp
theorem pzCovers_l0 (s : ByteArray) (hs : s.data.toList.all sign = true) (hz : s.size ≤ 48) (l : List SRule) (hm : l.length ≤ 12) (hl : l.all okRule = true) : ∀ d pos : Nat, pos + d = s.size → Ev (fun k => spec_pzCovers.l0 k s l pos) (covD s l pos d)
  | 0, pos, h => Ev.mk' 0 fun k _ => by
    simp only [spec_pzCovers.l0, covD]
    rw [if_neg (by omega)]
  | d + 1, pos, h => by
    obtain ⟨K, ih⟩ := pzCovers_l0 s hs hz l hm hl d (pos + 1) (by omega)
    dsimp only at ih
    obtain ⟨K1, h3⟩ := siLeft_ev ((pos : Int) + 1) l (by omega) hl
    dsimp only at h3
    have hb := sign_bt hs pos (by omega)
    refine Ev.mk' (K + K1) fun k hk => ?_
    simp only [spec_pzCovers.l0, covD]
    rw [if_pos (by omega), if_pos (by omega), wrap_id (by omega) (by omega), h3 k (by omega), obind, ih k (by omega)]
    by_cases c : bt s pos = 120
    · rw [if_pos c, c]
      cases left l ((pos : Int) + 1) <;> simp
    · rw [if_neg c, beq_eq_false_iff_ne.2 c, Bool.false_and]; rfl
end Go.Proofs.YtbnmajedmajfoaaGreatDoor.P
namespace Go.Proofs.YtbnmajedmajfoaaGreatDoor.P
open Go.RowKit Go.Proofs.YtbnmajedmajfoaaGreatDoorW.PrintWords Go.Proofs.YtbnmajedmajfoaaGreatDoorW.PrintLast
set_option linter.unusedVariables false
set_option linter.unusedSimpArgs false
def comb : Nat → List SRule → List (List SRule)
  | 0, _ => [[]]
  | _ + 1, [] => []
  | n + 1, r :: t => (comb n t).map (fun l => r :: l) ++ comb (n + 1) t
theorem comb_mem : ∀ (n : Nat) (fit l : List SRule), l ∈ comb n fit → l.length = n ∧ ∀ r ∈ l, r ∈ fit
  | 0, fit, l, h => by
    simp only [comb, List.mem_singleton] at h
    subst h; simp
  | n + 1, [], l, h => by simp [comb] at h
  | n + 1, x :: t, l, h => by
    simp only [comb, List.mem_append, List.mem_map] at h
    rcases h with ⟨l', h', rfl⟩ | h
    · have ih := comb_mem n t l' h'
      refine ⟨by simp [ih.1], fun r hr => ?_⟩
      rcases List.mem_cons.1 hr with hr | hr
      · rw [hr]; exact List.mem_cons_self
      · exact List.mem_cons_of_mem _ (ih.2 r hr)
    · have ih := comb_mem (n + 1) t l h
      exact ⟨ih.1, fun r hr => List.mem_cons_of_mem _ (ih.2 r hr)⟩
def res (P : List SRule → Bool) (n : Nat) (out : List (List SRule)) (list : List SRule) (m : Nat) (fit : List SRule) : List (List SRule) := (out ++ (((comb m fit).map (fun l => list ++ l)).filter P)).take n
theorem take_app {α : Type} (A B : List α) (n : Nat) : (A.take n ++ B).take n = (A ++ B).take n := by
  rw [List.take_append, List.take_append, List.take_take, Nat.min_self, List.length_take]
  congr 2
  omega
theorem res_full (P : List SRule → Bool) (n : Nat) (out : List (List SRule)) (list : List SRule) (m : Nat) (fit : List SRule) (h : out.length = n) : res P n out list m fit = out := by
  unfold res
  rw [List.take_append, List.take_of_length_le (by omega)]
  simp [h]
theorem res_nil (P : List SRule → Bool) (n : Nat) (out : List (List SRule)) (list : List SRule) (m : Nat) (h : out.length ≤ n) : res P n out list (m + 1) [] = out := by
  unfold res
  simp [comb, List.take_of_length_le h]
theorem res_step (P : List SRule → Bool) (n : Nat) (out : List (List SRule)) (list : List SRule) (m : Nat) (r : SRule) (t : List SRule) : res P n (res P n out (list ++ [r]) m t) list (m + 1) t = res P n out list (m + 1) (r :: t) := by
  unfold res
  rw [take_app]
  simp only [comb, List.map_append, List.filter_append, List.map_map, List.append_assoc]
  congr 4
theorem res_length (P : List SRule → Bool) (n : Nat) (out : List (List SRule)) (list : List SRule) (m : Nat) (fit : List SRule) : (res P n out list m fit).length ≤ n := by
  unfold res
  rw [List.length_take]; omega
theorem res_zero (P : List SRule → Bool) (n : Nat) (out : List (List SRule)) (list fit : List SRule) (h : out.length < n) : res P n out list 0 fit = if P list = true then out ++ [list] else out := by
  unfold res
  simp only [comb, List.map_cons, List.map_nil, List.append_nil]
  by_cases c : P list = true
  · rw [if_pos c, List.filter_cons, if_pos c, List.filter_nil, List.take_of_length_le (by simp; omega)]
  · rw [if_neg c, List.filter_cons, if_neg c, List.filter_nil, List.append_nil, List.take_of_length_le (by omega)]
def agB (s : ByteArray) (l : List SRule) : Bool := agD s l 0 s.size
def cvB (s : ByteArray) (l : List SRule) : Bool := covD s l 0 s.size
theorem all_snoc (l : List SRule) (r : SRule) (h : l.all okRule = true) (hr : okRule r = true) : (l ++ [r]).all okRule = true := by simp [h, hr]
theorem implCh_f (s : ByteArray) (hs : s.data.toList.all sign = true) (hz : s.size ≤ 48) (F : List SRule) (R most : Nat) (hR : R ≤ 3) (hM : most ≤ 301) (i : Nat)
    (hl0 : ∀ (m : Nat) (list : List SRule) (out : List (List SRule)), list.length + (m + 1) = R → list.all okRule = true → out.length ≤ most → Ev (fun k => impl_someAnswers_1.l0 k s R most F list out (i : Int)) (res (agB s) most out list (m + 1) (F.drop i))) :
    ∀ (m : Nat) (list : List SRule) (out : List (List SRule)), list.length + m = R → list.all okRule = true → out.length ≤ most → Ev (fun k => impl_someAnswers_1.f k s R most F list (i : Int) out) (res (agB s) most out list m (F.drop i)) := by
  intro m list out h1 h2 h3
  by_cases c : out.length = most
  · rw [res_full _ _ _ _ _ _ c]
    refine Ev.mk' 0 fun k hk => ?_
    simp only [impl_someAnswers_1.f]
    rw [if_pos (by omega)]
  · cases m with
    | zero =>
      obtain ⟨K, ha⟩ := agrees_l0 s hs hz list h2 s.size 0 (by omega)
      have ha : ∀ k, K ≤ k → impl_agrees.f k s list = some (agB s list) := ha
      rw [res_zero _ _ _ _ _ (by omega)]
      refine Ev.mk' K fun k hk => ?_
      simp only [impl_someAnswers_1.f, ha k hk, obind]
      rw [if_neg (by omega), if_pos (by omega)]
      by_cases c2 : agB s list = true
      · rw [if_pos c2, if_pos c2, if_pos (by omega)]
      · rw [if_neg c2, if_neg c2]
    | succ m =>
      obtain ⟨K, hk⟩ := hl0 m list out h1 h2 h3
      refine Ev.mk' K fun k hk' => ?_
      simp only [impl_someAnswers_1.f]
      rw [if_neg (by omega), if_neg (by omega)]
      exact hk k hk'
theorem implCh_l0 (s : ByteArray) (hs : s.data.toList.all sign = true) (hz : s.size ≤ 48) (F : List SRule) (hF : F.all okRule = true) (hL : F.length ≤ 99) (R most : Nat) (hR : R ≤ 3) (hM : most ≤ 301) :
    ∀ (d i : Nat), i + d = F.length → ∀ (m : Nat) (list : List SRule) (out : List (List SRule)), list.length + (m + 1) = R → list.all okRule = true → out.length ≤ most → Ev (fun k => impl_someAnswers_1.l0 k s R most F list out (i : Int)) (res (agB s) most out list (m + 1) (F.drop i))
  | 0, i, h, m, list, out, h1, h2, h3 => by
    rw [List.drop_of_length_le (by omega), res_nil _ _ _ _ _ h3]
    refine Ev.mk' 0 fun k hk => ?_
    simp only [impl_someAnswers_1.l0]
    rw [if_neg (by omega)]
  | d + 1, i, h, m, list, out, h1, h2, h3 => by
    have IH := implCh_l0 s hs hz F hF hL R most hR hM d (i + 1) (by omega)
    have hr : okRule (rd_Rule F i) = true := List.all_eq_true.1 hF _ (rd_mem F i (by omega))
    obtain ⟨K1, e1⟩ := implCh_f s hs hz F R most hR hM (i + 1) IH m (list ++ [rd_Rule F i]) out (by simp; omega) (all_snoc _ _ h2 hr) h3
    obtain ⟨K2, e2⟩ := IH m list (res (agB s) most out (list ++ [rd_Rule F i]) m (F.drop (i + 1))) h1 h2 (res_length _ _ _ _ _ _)
    dsimp only at e1 e2
    rw [drop_rd F i (by omega), ← res_step]
    refine Ev.mk' (K1 + K2) fun k hk => ?_
    simp only [impl_someAnswers_1.l0]
    rw [if_pos (by omega), if_pos (by omega), if_pos (by omega), show wrap64 ((i : Int) + 1) = ((i + 1 : Nat) : Int) from wrap_id (by omega) (by omega), e1 k (by omega), obind, e2 k (by omega)]
theorem specAll_f (s : ByteArray) (hs : s.data.toList.all sign = true) (hz : s.size ≤ 48) (fit : List SRule)
    (hl0 : ∀ (m : Nat) (rules : List SRule) (out : List (List SRule)), rules.length + (m + 1) ≤ 3 → rules.all okRule = true → out.length ≤ 301 → Ev (fun k => spec_pzAll.l0 k s fit rules ((m + 1 : Nat) : Int) out 0) (res (cvB s) 301 out rules (m + 1) fit)) :
    ∀ (m : Nat) (rules : List SRule) (out : List (List SRule)), rules.length + m ≤ 3 → rules.all okRule = true → out.length ≤ 300 → Ev (fun k => spec_pzAll.f k s fit rules (m : Int) out) (res (cvB s) 301 out rules m fit) := by
  intro m rules out h1 h2 h3
  cases m with
  | zero =>
    obtain ⟨K, ha⟩ := pzCovers_l0 s hs hz rules (by omega) h2 s.size 0 (by omega)
    have ha : ∀ k, K ≤ k → spec_pzCovers.f k s rules = some (cvB s rules) := ha
    rw [res_zero _ _ _ _ _ (by omega)]
    refine Ev.mk' K fun k hk => ?_
    simp only [spec_pzAll.f, ha k hk, obind]
    rw [if_pos (by omega)]
    by_cases c2 : cvB s rules = true
    · rw [if_pos c2, if_pos c2, if_pos (by omega), if_pos (by omega)]
    · rw [if_neg c2, if_neg c2]
  | succ m =>
    obtain ⟨K, hk⟩ := hl0 m rules out h1 h2 (by omega)
    refine Ev.mk' K fun k hk' => ?_
    simp only [spec_pzAll.f]
    rw [if_neg (by omega)]
    exact hk k hk'
theorem specAll_l0 (s : ByteArray) (hs : s.data.toList.all sign = true) (hz : s.size ≤ 48) :
    ∀ (d : Nat) (fit : List SRule) (i : Nat), fit.all okRule = true → fit.length ≤ 99 → i + d = fit.length → ∀ (m : Nat) (rules : List SRule) (out : List (List SRule)), rules.length + (m + 1) ≤ 3 → rules.all okRule = true → out.length ≤ 301 → Ev (fun k => spec_pzAll.l0 k s fit rules ((m + 1 : Nat) : Int) out i) (res (cvB s) 301 out rules (m + 1) (fit.drop i))
  | 0, fit, i, hF, hL, h, m, rules, out, h1, h2, h3 => by
    rw [List.drop_of_length_le (by omega), res_nil _ _ _ _ _ h3]
    refine Ev.mk' 0 fun k hk => ?_
    simp only [spec_pzAll.l0]
    rw [if_neg (by omega)]
  | d + 1, fit, i, hF, hL, h, m, rules, out, h1, h2, h3 => by
    by_cases c : 300 < out.length
    · rw [res_full _ _ _ _ _ _ (by omega)]
      refine Ev.mk' 0 fun k hk => ?_
      simp only [spec_pzAll.l0]
      rw [if_pos (by omega), if_pos c]
    · have hr : okRule (rd_Rule fit i) = true := List.all_eq_true.1 hF _ (rd_mem fit i (by omega))
      have hFd : (fit.drop (i + 1)).all okRule = true := List.all_eq_true.2 fun x hx => List.all_eq_true.1 hF x (List.mem_of_mem_drop hx)
      have hdl : (fit.drop (i + 1)).length = d := by rw [List.length_drop]; omega
      obtain ⟨K1, e1⟩ := specAll_f s hs hz (fit.drop (i + 1)) (fun m' rules' out' g1 g2 g3 => by have := specAll_l0 s hs hz d (fit.drop (i + 1)) 0 hFd (by omega) (by omega) m' rules' out' g1 g2 g3; rwa [List.drop_zero] at this) m (rules ++ [rd_Rule fit i]) out (by simp; omega) (all_snoc _ _ h2 hr) (by omega)
      obtain ⟨K2, e2⟩ := specAll_l0 s hs hz d fit (i + 1) hF hL (by omega) m rules (res (cvB s) 301 out (rules ++ [rd_Rule fit i]) m (fit.drop (i + 1))) h1 h2 (res_length _ _ _ _ _ _)
      dsimp only at e1 e2
      rw [drop_rd fit i (by omega), ← res_step]
      refine Ev.mk' (K1 + K2) fun k hk => ?_
      simp only [spec_pzAll.l0]
      rw [if_pos (by omega), if_neg c, if_pos (by omega), show wrap64 (((m + 1 : Nat) : Int) - 1) = (m : Int) by rw [wrap_id (by omega) (by omega)]; omega, e1 k (by omega), obind, e2 k (by omega)]
theorem rowFit_all (s : ByteArray) (e : Int) (h0 : 2 ≤ e) (h1 : e ≤ 10) : ∀ (d : Nat) (t : Int), 0 ≤ t → t + d = e → ∀ r ∈ rowFit s e t d, okRule r = true ∧ fitD s r.f0 r.f1 0 s.size = true
  | 0, t, _, _, r, h => by simp [rowFit] at h
  | d + 1, t, ht, hd, r, h => by
    simp only [rowFit, List.mem_append] at h
    rcases h with h | h
    · cases c : fitD s e t 0 s.size with
      | true =>
        rw [c, cond_true, List.mem_singleton] at h
        subst h
        exact ⟨(okRule_iff _).2 ⟨h0, by show e ≤ 60; omega, ht, by show t < e; omega⟩, c⟩
      | false => rw [c] at h; simp at h
    · exact rowFit_all s e h0 h1 d (t + 1) (by omega) (by omega) r h
theorem allFit_all (s : ByteArray) : ∀ (d : Nat) (e : Int), 2 ≤ e → e + d = 11 → ∀ r ∈ allFit s e d, okRule r = true ∧ fitD s r.f0 r.f1 0 s.size = true
  | 0, e, _, _, r, h => by simp [allFit] at h
  | d + 1, e, h0, hd, r, h => by
    simp only [allFit, List.mem_append] at h
    rcases h with h | h
    · exact rowFit_all s e h0 (by omega) e.toNat 0 (by omega) (by omega) r h
    · exact allFit_all s d (e + 1) (by omega) (by omega) r h
theorem fitOf_all (s : ByteArray) : ∀ r ∈ fitOf s, okRule r = true ∧ fitD s r.f0 r.f1 0 s.size = true := allFit_all s 9 2 (by omega) (by omega)
theorem fitOf_ok (s : ByteArray) : (fitOf s).all okRule = true := List.all_eq_true.2 fun r h => (fitOf_all s r h).1
def answers (s : ByteArray) (R : Nat) : List (List SRule) := (comb R (fitOf s)).filter (agB s)
theorem map_nil_app (L : List (List SRule)) : L.map (fun l => ([] : List SRule) ++ l) = L := by
  induction L with
  | nil => rfl
  | cons x t ih => rw [List.map_cons, ih]; rfl
theorem answers_cov (s : ByteArray) (hs : s.data.toList.all sign = true) (R : Nat) : (comb R (fitOf s)).filter (cvB s) = answers s R := by
  unfold answers
  refine List.filter_congr fun l hl => ?_
  have hm := comb_mem R (fitOf s) l hl
  unfold agB cvB
  rw [agD_eq s hs l s.size 0 (by omega), List.all_eq_true.2 (fun r hr => (fitOf_all s r (hm.2 r hr)).2), Bool.true_and]
theorem someAnswers_ev (s : ByteArray) (hs : s.data.toList.all sign = true) (hz : s.size ≤ 48) (R most : Nat) (hR : R ≤ 3) (hM : most ≤ 301) : Ev (fun k => impl_someAnswers.f k s R most) ((answers s R).take most) := by
  obtain ⟨K1, h1⟩ := fitting_ev s hz
  obtain ⟨K2, h2⟩ := implCh_f s hs hz (fitOf s) R most hR hM 0 (implCh_l0 s hs hz (fitOf s) (fitOf_ok s) (fitOf_length s) R most hR hM (fitOf s).length 0 (by omega)) R [] [] (by simp) rfl (by simp)
  dsimp only at h1 h2
  refine ⟨K1 + K2, fun k hk => ?_⟩
  have h2 : impl_someAnswers_1.f k s R most (fitOf s) [] 0 [] = _ := h2 k (by omega)
  simp only [impl_someAnswers.f, h1 k (by omega), obind, h2]
  unfold res answers
  rw [List.drop_zero, map_nil_app]; rfl
theorem pzAll_ev (s : ByteArray) (hs : s.data.toList.all sign = true) (hz : s.size ≤ 48) (R : Nat) (hR : R ≤ 3) : Ev (fun k => spec_pzAll.f k s (fitOf s) [] (R : Int) []) ((answers s R).take 301) := by
  have h := specAll_f s hs hz (fitOf s) (fun m rules out g1 g2 g3 => by have := specAll_l0 s hs hz (fitOf s).length (fitOf s) 0 (fitOf_ok s) (fitOf_length s) (by omega) m rules out g1 g2 g3; rwa [List.drop_zero] at this) R [] [] (by simp; omega) rfl (by simp)
  unfold res at h
  rw [map_nil_app, answers_cov s hs] at h
  exact h
end Go.Proofs.YtbnmajedmajfoaaGreatDoor.P
namespace Go.Proofs.YtbnmajedmajfoaaGreatDoor.P
open Go.RowKit Go.Proofs.YtbnmajedmajfoaaGreatDoorW.PrintWords Go.Proofs.YtbnmajedmajfoaaGreatDoorW.PrintLast
set_option linter.unusedVariables false
set_option linter.unusedSimpArgs false
theorem good_parts {s : ByteArray} {n : Int} (h : goodP s n = true) : 1 ≤ s.size ∧ s.size ≤ 48 ∧ s.data.toList.all sign = true ∧ 0 ≤ n ∧ n ≤ 3 := by
  unfold goodP at h
  simp only [Bool.and_eq_true, decide_eq_true_eq] at h
  exact ⟨h.1, h.2.1, h.2.2.1, h.2.2.2.1, h.2.2.2.2⟩
def ansV (s : ByteArray) (n : Int) : List (List SRule) × Bool := if goodP s n = true ∧ (answers s n.toNat).length ≤ 300 then (answers s n.toNat, true) else ([], false)
theorem ansV_length (s : ByteArray) (n : Int) : (ansV s n).1.length ≤ 300 := by
  unfold ansV
  split
  · next h => exact h.2
  · simp
theorem answers_mem (s : ByteArray) (R : Nat) : ∀ l ∈ answers s R, l.length = R ∧ ∀ r ∈ l, r ∈ fitOf s := fun l hl => comb_mem R (fitOf s) l ((List.mem_filter.1 hl).1)
theorem ansV_mem (s : ByteArray) (n : Int) : ∀ l ∈ (ansV s n).1, l.length ≤ 3 := by
  intro l hl
  unfold ansV at hl
  split at hl
  · next h =>
    have := (answers_mem s n.toNat l hl).1
    have := good_parts h.1
    omega
  · simp at hl
theorem take301 {α : Type} (L : List α) : (((L.take 301).length : Int) > 300) ↔ ¬ L.length ≤ 300 := by rw [List.length_take]; omega
theorem take301' {α : Type} (L : List α) (h : L.length ≤ 300) : L.take 301 = L := List.take_of_length_le (by omega)
theorem pzAnswers_ev (s : ByteArray) (n : Int) : Ev (fun k => spec_pzAnswers.f k s n) (ansV s n) := by
  obtain ⟨K1, h1⟩ := pzGood_ev s n
  dsimp only at h1
  unfold ansV
  by_cases hg : goodP s n = true
  · obtain ⟨g1, g2, g3, g4, g5⟩ := good_parts hg
    obtain ⟨K2, h2⟩ := pzFit_ev s g3 g2
    obtain ⟨K3, h3⟩ := pzAll_ev s g3 g2 n.toNat (by omega)
    rw [show ((n.toNat : Nat) : Int) = n by omega] at h3
    dsimp only at h2 h3
    refine ⟨K1 + K2 + K3, fun k hk => ?_⟩
    simp (disch := omega) only [spec_pzAnswers.f, h1, h2, h3, obind, hg, if_true]
    by_cases c : (answers s n.toNat).length ≤ 300
    · rw [if_neg (fun h => (take301 _).1 h c), if_pos ⟨trivial, c⟩, take301' _ c]
    · rw [if_pos ((take301 _).2 c), if_neg (fun h => c h.2)]
  · have hf := Bool.eq_false_iff.2 hg
    rw [if_neg (fun h => hg h.1)]
    refine ⟨K1, fun k hk => ?_⟩
    simp only [spec_pzAnswers.f, h1 k hk, obind, hf, Bool.false_eq_true, if_false]
theorem answersOf_ev (s : ByteArray) (n : Int) : Ev (fun k => impl_answersOf.f k s n) (ansV s n) := by
  unfold ansV
  by_cases hg : goodP s n = true
  · obtain ⟨g1, g2, g3, g4, g5⟩ := good_parts hg
    obtain ⟨K3, h3⟩ := someAnswers_ev s g3 g2 n.toNat 301 (by omega) (by omega)
    rw [show ((n.toNat : Nat) : Int) = n by omega] at h3
    have h3 : ∀ k, K3 ≤ k → impl_someAnswers.f k s n 301 = _ := h3
    refine ⟨K3, fun k hk => ?_⟩
    simp (disch := omega) only [impl_answersOf.f, isPuzzle_ok, h3, obind, hg, if_true]
    by_cases c : (answers s n.toNat).length ≤ 300
    · rw [if_neg (fun h => (take301 _).1 h c), if_pos ⟨trivial, c⟩, take301' _ c]
    · rw [if_pos ((take301 _).2 c), if_neg (fun h => c h.2)]
  · have hf := Bool.eq_false_iff.2 hg
    rw [if_neg (fun h => hg h.1)]
    refine ⟨0, fun k hk => ?_⟩
    simp only [impl_answersOf.f, isPuzzle_ok, obind, hf, Bool.false_eq_true, if_false]
end Go.Proofs.YtbnmajedmajfoaaGreatDoor.P
namespace Go.Proofs.YtbnmajedmajfoaaGreatDoor.P
open Go.RowKit Go.Proofs.YtbnmajedmajfoaaGreatDoorW.PrintWords Go.Proofs.YtbnmajedmajfoaaGreatDoorW.PrintLast
set_option linter.unusedVariables false
set_option linter.unusedSimpArgs false
def lessR (a b : SRule) : Bool := decide (a.f0 < b.f0) || (a.f0 == b.f0 && decide (a.f1 < b.f1))
theorem pzLess_ok (a b : SRule) : spec_pzLess.f a.f0 a.f1 b.f0 b.f1 = some (lessR a b) := by
  unfold spec_pzLess.f lessR
  by_cases h : a.f0 < b.f0
  · simp [h]
  · by_cases h2 : a.f0 = b.f0
    · simp [h2]
    · simp [h, h2]
theorem cmpC_ok (a b : Int) : cmp_Compare_int.f a b = some (if a < b then -1 else if b < a then 1 else 0) := by
  simp only [cmp_Compare_int.f, cmp_isNaN_int.f, obind, bne_self_eq_false, Bool.false_eq_true, if_false, gt_iff_lt]
  by_cases h : a < b
  · simp [h]
  · by_cases h2 : b < a <;> simp [h, h2]
theorem cmpOr_ev (c1 c2 : Int) (k : Nat) : cmp_Or_int.f (k + 4) [c1, c2] = some (if c1 = 0 then c2 else c1) := by
  have r0 : rd [c1, c2] 0 = c1 := rfl
  have r1 : rd [c1, c2] 1 = c2 := rfl
  have w0 : wrap64 (0 + 1) = 1 := wrap_id (by decide) (by decide)
  have w1 : wrap64 (1 + 1) = 2 := wrap_id (by decide) (by decide)
  simp only [cmp_Or_int.f, cmp_Or_int.l0, List.length_cons, List.length_nil, r0, w0, r1, w1]
  by_cases h : c1 = 0
  · by_cases h2 : c2 = 0 <;> simp [h, h2]
  · simp [h]
theorem compareRules_ev (a b : SRule) : ∃ v, (v ≥ 0 ↔ lessR a b = false) ∧ ∀ k, impl_compareRules.f (k + 4) a.f0 a.f1 b.f0 b.f1 = some v := by
  refine ⟨_, ?_, fun k => by simp only [impl_compareRules.f, cmpC_ok, obind, cmpOr_ev]; rfl⟩
  unfold lessR
  by_cases h : a.f0 < b.f0
  · simp [h]
  · by_cases h2 : b.f0 < a.f0
    · simp [h, h2]; omega
    · have e : a.f0 = b.f0 := by omega
      by_cases h3 : a.f1 < b.f1
      · simp [e, h3]
      · by_cases h4 : b.f1 < a.f1
        · simp [e, h3, h4] <;> omega
        · simp [e, h3, h4] <;> omega
def okI (l : List SRule) (i : Nat) : Nat → Bool
  | 0 => true
  | d + 1 => (decide ((rd_Rule l i).f0 ≤ 10) && (decide (i = 0) || lessR (rd_Rule l ((i : Int) - 1)) (rd_Rule l i))) && okI l (i + 1) d
def fitAll (s : ByteArray) (l : List SRule) (i : Nat) : Nat → Bool
  | 0 => true
  | d + 1 => fitD s (rd_Rule l i).f0 (rd_Rule l i).f1 0 s.size && fitAll s l (i + 1) d
theorem fitAll_eq (s : ByteArray) (l : List SRule) : ∀ d i : Nat, i + d = l.length → fitAll s l i d = (l.drop i).all (fun r => fitD s r.f0 r.f1 0 s.size)
  | 0, i, h => by rw [List.drop_of_length_le (by omega)]; rfl
  | d + 1, i, h => by
    rw [rd_drop l i (by omega), List.all_cons, ← fitAll_eq s l d (i + 1) (by omega)]; rfl
theorem rd_ok (l : List SRule) (hl : l.all okRule = true) (i : Nat) (h : i < l.length) : okRule (rd_Rule l i) = true := by
  have e := rd_drop l i h
  have : rd_Rule l i ∈ l.drop i := by rw [e]; exact List.mem_cons_self
  exact List.all_eq_true.1 hl _ (List.mem_of_mem_drop this)
theorem implAns_l0 (s : ByteArray) (n : Int) (l : List SRule) (hm : l.length ≤ 12) (ag : Bool) (hag : Ev (fun k => impl_agrees.f k s l) ag) : ∀ d i : Nat, i + d = l.length → Ev (fun k => impl_IsAnswer.l0 k l l (l.length : Int) i s n) (okI l i d && (decide ((l.length : Int) = n) && ag), true)
  | 0, i, h => by
    obtain ⟨K, h1⟩ := hag
    dsimp only at h1
    refine Ev.mk' K fun k hk => ?_
    simp only [impl_IsAnswer.l0, okI, h1 k hk, obind]
    rw [if_neg (by omega), Bool.true_and]
    by_cases c : (l.length : Int) = n
    · rw [if_pos c, decide_eq_true c, Bool.true_and]
    · rw [if_neg c, decide_eq_false c, Bool.false_and]
  | d + 1, i, h => by
    obtain ⟨K, ih⟩ := implAns_l0 s n l hm ag hag d (i + 1) (by omega)
    dsimp only at ih
    obtain ⟨v, hv, h2⟩ := compareRules_ev (rd_Rule l ((i : Int) - 1)) (rd_Rule l i)
    refine Ev.mk' (K + 4) fun k hk => ?_
    have ih : impl_IsAnswer.l0 k l l (l.length : Int) ((i : Int) + 1) s n = _ := ih k (by omega)
    have h2 : impl_compareRules.f k (rd_Rule l ((i : Int) - 1)).f0 (rd_Rule l ((i : Int) - 1)).f1 (rd_Rule l i).f0 (rd_Rule l i).f1 = some v := by
      have := h2 (k - 4); rwa [show k - 4 + 4 = k by omega] at this
    simp only [impl_IsAnswer.l0, okI]
    rw [if_pos (by omega), if_pos (by omega), if_pos (by omega), wrap_id (n := (i : Int) + 1) (by omega) (by omega), ih]
    by_cases c : (rd_Rule l i).f0 > 10
    · rw [if_pos c, decide_eq_false (show ¬ (rd_Rule l i).f0 ≤ 10 by omega)]; simp
    · rw [if_neg c, decide_eq_true (show (rd_Rule l i).f0 ≤ 10 by omega), Bool.true_and]
      by_cases c2 : i = 0
      · rw [if_neg (by omega), decide_eq_true c2]; simp
      · rw [if_pos (by omega), wrap_id (by omega) (by omega), if_pos (by omega), if_pos (by omega), h2, obind, decide_eq_false c2, Bool.false_or]
        by_cases c3 : v ≥ 0
        · rw [if_pos c3, hv.1 c3]; simp
        · rw [if_neg c3, show lessR (rd_Rule l ((i : Int) - 1)) (rd_Rule l i) = true by
            cases hx : lessR (rd_Rule l ((i : Int) - 1)) (rd_Rule l i) with
            | true => rfl
            | false => exact absurd (hv.2 hx) c3]; simp
theorem specAns_l0 (s : ByteArray) (hs : s.data.toList.all sign = true) (hz : s.size ≤ 48) (n : Int) (l : List SRule) (hm : l.length ≤ 12) (hl : l.all okRule = true) (cv : Bool) (hcv : Ev (fun k => spec_pzCovers.f k s l) cv) : ∀ d i : Nat, i + d = l.length → Ev (fun k => spec_IsAnswer.l0 k l l (l.length : Int) i s n) ((okI l i d && fitAll s l i d) && cv, true)
  | 0, i, h => by
    obtain ⟨K, h1⟩ := hcv
    dsimp only at h1
    refine Ev.mk' K fun k hk => ?_
    simp only [spec_IsAnswer.l0, okI, fitAll, h1 k hk, obind]
    rw [if_neg (by omega)]; simp
  | d + 1, i, h => by
    obtain ⟨K, ih⟩ := specAns_l0 s hs hz n l hm hl cv hcv d (i + 1) (by omega)
    dsimp only at ih
    have ho := (okRule_iff _).1 (rd_ok l hl i (by omega))
    by_cases c : (rd_Rule l i).f0 > 10
    · refine Ev.mk' 0 fun k hk => ?_
      simp only [spec_IsAnswer.l0, okI]
      rw [if_pos (by omega), if_pos (by omega), if_pos (by omega), if_pos c, decide_eq_false (show ¬ (rd_Rule l i).f0 ≤ 10 by omega)]; simp
    · obtain ⟨K1, hf⟩ := pzFits_ev s hs hz (rd_Rule l i).f0 (rd_Rule l i).f1 ho.1 (by omega) ho.2.2.1 ho.2.2.2
      dsimp only at hf
      refine Ev.mk' (K + K1) fun k hk => ?_
      have ih : spec_IsAnswer.l0 k l l (l.length : Int) ((i : Int) + 1) s n = _ := ih k (by omega)
      simp only [spec_IsAnswer.l0, okI, fitAll, hf k (by omega), obind]
      rw [if_pos (by omega), if_pos (by omega), if_pos (by omega), if_neg c, wrap_id (n := (i : Int) + 1) (by omega) (by omega), ih, decide_eq_true (show (rd_Rule l i).f0 ≤ 10 by omega), Bool.true_and]
      cases fitD s (rd_Rule l i).f0 (rd_Rule l i).f1 0 s.size with
      | false => simp
      | true =>
        rw [if_pos rfl, Bool.true_and]
        by_cases c2 : i = 0
        · rw [if_neg (by omega), decide_eq_true c2]; simp
        · rw [if_pos (by omega), wrap_id (by omega) (by omega), if_pos (by omega), if_pos (by omega), pzLess_ok, obind, decide_eq_false c2, Bool.false_or]
          cases lessR (rd_Rule l ((i : Int) - 1)) (rd_Rule l i) <;> simp
def ansVal (s : ByteArray) (n : Int) (l : List SRule) : Bool × Bool := if (goodP s n && goodRules l) = true then (okI l 0 l.length && (decide ((l.length : Int) = n) && agD s l 0 s.size), true) else (false, false)
theorem IsAnswer_main (s : ByteArray) (n : Int) (l : List SRule) : Ev (fun k => spec_IsAnswer.f k s n l) (ansVal s n l) ∧ Ev (fun k => impl_IsAnswer.f k s n l) (ansVal s n l) := by
  obtain ⟨K1, h1⟩ := pzGood_ev s n
  obtain ⟨K2, h2⟩ := siGood_ev l
  dsimp only at h1 h2
  unfold ansVal
  by_cases hg : goodP s n = true
  · by_cases hr : goodRules l = true
    · rw [if_pos (by rw [hg, hr]; rfl)]
      have hz : s.size ≤ 48 := by have := hg; unfold goodP at this; simp only [Bool.and_eq_true, decide_eq_true_eq] at this; exact this.2.1
      have hs := good_sign hg
      have hm := (good_all hr).1
      have hl := (good_all hr).2
      obtain ⟨K3, h3⟩ := implAns_l0 s n l hm _ (agrees_l0 s hs hz l hl s.size 0 (by omega)) l.length 0 (by omega)
      obtain ⟨K4, h4⟩ := specAns_l0 s hs hz n l hm hl _ (pzCovers_l0 s hs hz l hm hl s.size 0 (by omega)) l.length 0 (by omega)
      have h3 : ∀ k, K3 ≤ k → impl_IsAnswer.l0 k l l (l.length : Int) 0 s n = _ := h3
      have h4 : ∀ k, K4 ≤ k → spec_IsAnswer.l0 k l l (l.length : Int) 0 s n = _ := h4
      have ef : fitAll s l 0 l.length = l.all (fun r => fitD s r.f0 r.f1 0 s.size) := by have := fitAll_eq s l l.length 0 (by omega); rwa [List.drop_zero] at this
      have ea := agD_eq s hs l s.size 0 (by omega)
      constructor
      · refine Ev.mk' (K1 + K2 + K4) fun k hk => ?_
        simp (disch := omega) only [spec_IsAnswer.f, h1, h2, obind, hg, hr, if_true, Bool.not_true]
        simp (disch := omega) only [spec_IsAnswer.j0, h4, Bool.false_eq_true, if_false]
        rw [ea, ← ef]
        by_cases c : (l.length : Int) = n
        · rw [if_pos c, decide_eq_true c, Bool.true_and, Bool.and_assoc]
        · rw [if_neg c, decide_eq_false c]; simp
      · refine Ev.mk' (K1 + K2 + K3) fun k hk => ?_
        simp (disch := omega) only [impl_IsAnswer.f, isPuzzle_ok, areRules_ok, obind, hg, hr, if_true, Bool.not_true]
        simp (disch := omega) only [impl_IsAnswer.j0, h3, Bool.false_eq_true, if_false]
    · have hf := Bool.eq_false_iff.2 hr
      rw [if_neg (by rw [hf]; simp)]
      constructor
      · refine Ev.mk' (K1 + K2) fun k hk => ?_
        simp (disch := omega) only [spec_IsAnswer.f, h1, h2, obind, hg, hf, if_true, Bool.not_false]
        simp (disch := omega) only [spec_IsAnswer.j0, if_true]
      · refine Ev.mk' 0 fun k hk => ?_
        simp (disch := omega) only [impl_IsAnswer.f, isPuzzle_ok, areRules_ok, obind, hg, hf, if_true, Bool.not_false]
        simp (disch := omega) only [impl_IsAnswer.j0, if_true]
  · have hf := Bool.eq_false_iff.2 hg
    rw [if_neg (by rw [hf]; simp)]
    constructor
    · refine Ev.mk' K1 fun k hk => ?_
      simp (disch := omega) only [spec_IsAnswer.f, h1, obind, hf, Bool.false_eq_true, if_false]
      simp (disch := omega) only [spec_IsAnswer.j0, if_true]
    · refine Ev.mk' 0 fun k hk => ?_
      simp (disch := omega) only [impl_IsAnswer.f, isPuzzle_ok, obind, hf, Bool.false_eq_true, if_false]
      simp (disch := omega) only [impl_IsAnswer.j0, if_true]
end Go.Proofs.YtbnmajedmajfoaaGreatDoor.P
namespace Go.Proofs.YtbnmajedmajfoaaGreatDoor.P
open Go.RowKit Go.Proofs.YtbnmajedmajfoaaGreatDoorW.PrintWords Go.Proofs.YtbnmajedmajfoaaGreatDoorW.PrintLast
set_option linter.unusedVariables false
set_option linter.unusedSimpArgs false
def patB (l : List SRule) (i : Int) : Nat → ByteArray → ByteArray
  | 0, acc => acc
  | m + 1, acc => patB l (i + 1) m (acc ++ (if left l i = true then (⟨#[111]⟩ : ByteArray) else ⟨#[120]⟩))
def pat (l : List SRule) (n : Int) : ByteArray := patB l 1 n.toNat (⟨#[]⟩ : ByteArray)
theorem sz_o (a : ByteArray) : (a ++ (⟨#[111]⟩ : ByteArray)).size = a.size + 1 := by rw [ByteArray.size_append]; rfl
theorem sz_x (a : ByteArray) : (a ++ (⟨#[120]⟩ : ByteArray)).size = a.size + 1 := by rw [ByteArray.size_append]; rfl
theorem patI_l0 (l : List SRule) (hl : l.all okRule = true) (hi : Int) (h2 : hi ≤ 48) : ∀ (m : Nat) (i : Int) (acc : ByteArray), i + m = hi + 1 → 1 ≤ i → acc.size + m ≤ 1000 → Ev (fun k => impl_patternOf.l0 k l hi acc i) (patB l i m acc)
  | 0, i, acc, h, h0, h1 => Ev.mk' 0 fun k _ => by
    simp only [impl_patternOf.l0]
    rw [if_neg (by omega)]; rfl
  | m + 1, i, acc, h, h0, h1 => by
    simp only [patB]
    by_cases hc : left l i = true
    · obtain ⟨K, ih⟩ := patI_l0 l hl hi h2 m (i + 1) (acc ++ (⟨#[111]⟩ : ByteArray)) (by omega) (by omega) (by rw [sz_o]; omega)
      dsimp only at ih
      refine Ev.mk' K fun k hk => ?_
      simp only [impl_patternOf.l0, isLeft_ok i l hl, obind]
      rw [if_pos (by omega), if_pos hc, if_pos (by omega), wrap_id (by omega) (by omega), ih k (by omega), if_pos hc]
    · obtain ⟨K, ih⟩ := patI_l0 l hl hi h2 m (i + 1) (acc ++ (⟨#[120]⟩ : ByteArray)) (by omega) (by omega) (by rw [sz_x]; omega)
      dsimp only at ih
      refine Ev.mk' K fun k hk => ?_
      simp only [impl_patternOf.l0, isLeft_ok i l hl, obind]
      rw [if_pos (by omega), if_neg hc, if_pos (by omega), wrap_id (by omega) (by omega), ih k (by omega), if_neg hc]
theorem patternOf_ev (l : List SRule) (hl : l.all okRule = true) (n : Int) (h0 : 1 ≤ n) (h1 : n ≤ 48) : Ev (fun k => impl_patternOf.f k l n) (pat l n) := by
  obtain ⟨K, h⟩ := patI_l0 l hl n h1 n.toNat 1 (⟨#[]⟩ : ByteArray) (by omega) (by omega) (by show (0 : Nat) + _ ≤ _; omega)
  exact ⟨K, fun k hk => h k hk⟩
def patVal (l : List SRule) (n : Int) : ByteArray × Bool := if goodRules l = true ∧ 1 ≤ n ∧ n ≤ 48 then (pat l n, true) else ((⟨#[]⟩ : ByteArray), false)
theorem PatternI (l : List SRule) (n : Int) : Ev (fun k => impl_PatternOf.f k l n) (patVal l n) := by
  unfold patVal
  by_cases hc : goodRules l = true ∧ 1 ≤ n ∧ n ≤ 48
  · obtain ⟨K2, h2⟩ := patternOf_ev l (good_all hc.1).2 n hc.2.1 hc.2.2
    dsimp only at h2
    rw [if_pos hc]
    refine ⟨K2, fun k hk => ?_⟩
    simp only [impl_PatternOf.f, areRules_ok, obind, hc.1, if_true, h2 k hk]
    rw [if_neg (by omega), if_neg (by omega)]
  · rw [if_neg hc]
    refine ⟨0, fun k _ => ?_⟩
    simp only [impl_PatternOf.f, areRules_ok, obind]
    by_cases hg : goodRules l = true
    · rw [if_pos hg]
      by_cases h : n < 1
      · rw [if_pos h]
      · rw [if_neg h, if_pos (by apply Decidable.byContradiction; intro h'; exact hc ⟨hg, by omega, by omega⟩)]
    · rw [if_neg hg]
theorem btm (s : ByteArray) (i : Nat) (h : i < s.size) : bt s (i : Int) = ((s.data.toList[i]'(by rw [Array.length_toList]; exact h)).toNat : Int) := by
  have e := bt_at s (i : Int) h
  have e2 : s.data.toList[i]'(by rw [Array.length_toList]; exact h) = s[i]'h := by simp; rfl
  rw [e2]; exact e.symm
def patL (l : List SRule) (i : Int) : Nat → List UInt8
  | 0 => []
  | m + 1 => (if left l i = true then 111 else 120) :: patL l (i + 1) m
theorem patL_length (l : List SRule) : ∀ (m : Nat) (i : Int), (patL l i m).length = m
  | 0, i => rfl
  | m + 1, i => by simp [patL, patL_length l m]
theorem patL_get (l : List SRule) : ∀ (m : Nat) (i : Int) (j : Nat) (h : j < (patL l i m).length), (patL l i m)[j] = (if left l (i + j) = true then 111 else 120)
  | 0, i, j, h => absurd h (by simp [patL])
  | m + 1, i, 0, h => by simp [patL]
  | m + 1, i, j + 1, h => by
    simp only [patL, List.getElem_cons_succ]
    rw [patL_get l m (i + 1) j, show i + 1 + (j : Int) = i + ((j + 1 : Nat) : Int) by omega]
theorem pat_list (l : List SRule) (n : Int) : (pat l n).data.toList = patL l 1 n.toNat := by
  have h : ∀ (m : Nat) (i : Int) (acc : ByteArray), (patB l i m acc).data.toList = acc.data.toList ++ patL l i m := by
    intro m
    induction m with
    | zero => intro i acc; simp [patB, patL]
    | succ m ih =>
      intro i acc
      simp only [patB, patL]
      rw [ih]
      by_cases c : left l i = true
      · simp [c, ByteArray.data_append]
      · simp [c, ByteArray.data_append]
  have := h n.toNat 1 (⟨#[]⟩ : ByteArray)
  simpa [pat] using this
theorem pat_size (l : List SRule) (n : Int) : (pat l n).size = n.toNat := by
  have h := congrArg List.length (pat_list l n)
  rw [patL_length] at h
  have hl : (pat l n).data.toList.length = (pat l n).size := Array.length_toList
  omega
theorem pat_bt (l : List SRule) (n : Int) (i : Nat) (h : i < n.toNat) : bt (pat l n) (i : Int) = if left l ((i : Int) + 1) = true then 111 else 120 := by
  rw [btm _ i (by rw [pat_size]; exact h)]
  have e2 : ∀ (L : List UInt8) (hL : (pat l n).data.toList = L) (h : i < L.length), (pat l n).data.toList[i]'(by rw [hL]; exact h) = L[i] := by intro L hL h; subst hL; rfl
  rw [e2 _ (pat_list l n) (by rw [patL_length]; exact h), patL_get, show (1 : Int) + (i : Int) = (i : Int) + 1 by omega]
  split <;> rfl
end Go.Proofs.YtbnmajedmajfoaaGreatDoor.P
namespace Go.Proofs.YtbnmajedmajfoaaGreatDoor.P
open Go.RowKit Go.Proofs.YtbnmajedmajfoaaGreatDoorW.PrintWords Go.Proofs.YtbnmajedmajfoaaGreatDoorW.PrintLast
set_option linter.unusedVariables false
set_option linter.unusedSimpArgs false
theorem rowFit_pair (s : ByteArray) (e : Int) : ∀ (d : Nat) (t : Int), (rowFit s e t d).Pairwise (fun a b => lessR a b = true) ∧ ∀ r ∈ rowFit s e t d, r.f0 = e ∧ t ≤ r.f1
  | 0, t => ⟨List.Pairwise.nil, fun r h => by simp [rowFit] at h⟩
  | d + 1, t => by
    obtain ⟨h1, h2⟩ := rowFit_pair s e d (t + 1)
    simp only [rowFit]
    cases fitD s e t 0 s.size with
    | false => exact ⟨h1, fun r h => ⟨(h2 r h).1, by have := (h2 r h).2; omega⟩⟩
    | true =>
      refine ⟨List.pairwise_cons.2 ⟨fun r hr => ?_, h1⟩, fun r hr => ?_⟩
      · obtain ⟨e1, e2⟩ := h2 r hr
        unfold lessR
        rw [e1, beq_self_eq_true, Bool.true_and, decide_eq_true (show t < r.f1 by omega), Bool.or_true]
      · rcases List.mem_cons.1 hr with rfl | hr
        · exact ⟨rfl, Int.le_refl _⟩
        · exact ⟨(h2 r hr).1, by have := (h2 r hr).2; omega⟩
theorem allFit_pair (s : ByteArray) : ∀ (d : Nat) (e : Int), (allFit s e d).Pairwise (fun a b => lessR a b = true) ∧ ∀ r ∈ allFit s e d, e ≤ r.f0 ∧ r.f0 < e + d
  | 0, e => ⟨List.Pairwise.nil, fun r h => by simp [allFit] at h⟩
  | d + 1, e => by
    obtain ⟨h1, h2⟩ := allFit_pair s d (e + 1)
    obtain ⟨h3, h4⟩ := rowFit_pair s e e.toNat 0
    simp only [allFit]
    refine ⟨List.pairwise_append.2 ⟨h3, h1, fun a ha b hb => ?_⟩, fun r hr => ?_⟩
    · have e1 := (h4 a ha).1
      have e2 := (h2 b hb).1
      unfold lessR
      rw [decide_eq_true (show a.f0 < b.f0 by omega), Bool.true_or]
    · rcases List.mem_append.1 hr with hr | hr
      · have := (h4 r hr).1; omega
      · have := h2 r hr; omega
theorem comb_sublist : ∀ (n : Nat) (L l : List SRule), l ∈ comb n L → l.Sublist L
  | 0, L, l, h => by
    simp only [comb, List.mem_singleton] at h
    subst h; exact List.nil_sublist _
  | n + 1, [], l, h => by simp [comb] at h
  | n + 1, x :: t, l, h => by
    simp only [comb, List.mem_append, List.mem_map] at h
    rcases h with ⟨l', h', rfl⟩ | h
    · exact (comb_sublist n t l' h').cons_cons x
    · exact (comb_sublist (n + 1) t l h).cons x
theorem okI_of (l : List SRule) (h10 : ∀ r ∈ l, r.f0 ≤ 10) (hp : l.Pairwise (fun a b => lessR a b = true)) : ∀ d i : Nat, i + d = l.length → okI l i d = true
  | 0, i, h => rfl
  | d + 1, i, h => by
    simp only [okI]
    rw [okI_of l h10 hp d (i + 1) (by omega), Bool.and_true]
    have e1 : rd_Rule l (i : Int) = l[i]'(by omega) := by simp [rd_Rule, List.getD, show i < l.length by omega]
    rw [decide_eq_true (h10 _ (by rw [e1]; exact List.getElem_mem _)), Bool.true_and]
    by_cases c : i = 0
    · rw [decide_eq_true c, Bool.true_or]
    · have e2 : rd_Rule l ((i : Int) - 1) = l[i - 1]'(by omega) := by
        rw [show (i : Int) - 1 = ((i - 1 : Nat) : Int) by omega]
        simp [rd_Rule, List.getD, show i - 1 < l.length by omega]
      rw [decide_eq_false c, Bool.false_or, e1, e2]
      exact List.pairwise_iff_getElem.1 hp (i - 1) i (by omega) (by omega) (by omega)
theorem answer_facts (s : ByteArray) (n : Int) (hg : goodP s n = true) (l : List SRule) (hl : l ∈ answers s n.toNat) :
    (l.length : Int) = n ∧ l.all okRule = true ∧ (∀ r ∈ l, r ∈ fitOf s) ∧ (∀ r ∈ l, r.f0 ≤ 10) ∧ l.Pairwise (fun a b => lessR a b = true) ∧ agD s l 0 s.size = true ∧ goodRules l = true := by
  obtain ⟨g1, g2, g3, g4, g5⟩ := good_parts hg
  obtain ⟨h1, h2⟩ := answers_mem s n.toNat l hl
  have h3 : l.all okRule = true := List.all_eq_true.2 fun r hr => (fitOf_all s r (h2 r hr)).1
  refine ⟨by omega, h3, h2, fun r hr => ?_, ?_, (List.mem_filter.1 hl).2, ?_⟩
  · have := ((allFit_pair s 9 2).2 r (h2 r hr)).2; omega
  · exact (allFit_pair s 9 2).1.sublist (comb_sublist _ _ _ (List.mem_filter.1 hl).1)
  · unfold goodRules
    rw [h3, Bool.and_true]; exact decide_eq_true (by omega)
theorem ansVal_answer (s : ByteArray) (n : Int) (hg : goodP s n = true) (l : List SRule) (hl : l ∈ answers s n.toNat) : ansVal s n l = (true, true) := by
  obtain ⟨h1, h2, h3, h4, h5, h6, h7⟩ := answer_facts s n hg l hl
  unfold ansVal
  rw [if_pos (by rw [hg, h7]; rfl), okI_of l h4 h5 l.length 0 (by omega), h6, decide_eq_true h1]
  rfl
theorem agD_at (s : ByteArray) (l : List SRule) : ∀ (d pos : Nat), pos + d = s.size → agD s l pos d = true → ∀ i : Nat, pos ≤ i → i < s.size → bt s i ≠ 63 → left l ((i : Int) + 1) = (bt s i == 111)
  | 0, pos, h, _, i, h1, h2, _ => by omega
  | d + 1, pos, h, ha, i, h1, h2, hb => by
    simp only [agD, Bool.and_eq_true] at ha
    by_cases c : i = pos
    · subst c
      have h3 := ha.1
      rw [Bool.not_eq_true', Bool.and_eq_false_iff] at h3
      rcases h3 with h3 | h3
      · exact absurd (bne_eq_false_iff_eq.1 h3) hb
      · exact bne_eq_false_iff_eq.1 h3
    · exact agD_at s l d (pos + 1) (by omega) ha.2 i (by omega) h2 hb
theorem struck_by (l : List SRule) (n : Int) (h : left l n = false) : ∃ r ∈ l, crosses n r = true := by
  unfold left at h
  rw [Bool.not_eq_false'] at h
  exact List.any_eq_true.1 h
end Go.Proofs.YtbnmajedmajfoaaGreatDoor.P
namespace Go.Proofs.YtbnmajedmajfoaaGreatDoor.P
open Go.RowKit Go.Proofs.YtbnmajedmajfoaaGreatDoorW.PrintWords Go.Proofs.YtbnmajedmajfoaaGreatDoorW.PrintLast
set_option linter.unusedVariables false
set_option linter.unusedSimpArgs false
def firstV (s : ByteArray) (n : Int) : List SRule × Bool := if (ansV s n).2 = true ∧ (ansV s n).1 ≠ [] then (rd_Rules (ansV s n).1 0, true) else ([], false)
theorem rdR_mem (L : List (List SRule)) (h : L ≠ []) : rd_Rules L 0 ∈ L := by
  cases L with
  | nil => exact absurd rfl h
  | cons x t => simp [rd_Rules]
theorem firstV_length (s : ByteArray) (n : Int) : (firstV s n).1.length ≤ 3 := by
  unfold firstV
  split
  · next h => exact ansV_mem s n _ (rdR_mem _ h.2)
  · simp
theorem FirstAnswer_main (s : ByteArray) (n : Int) : Ev (fun k => spec_FirstAnswer.f k s n) (firstV s n) ∧ Ev (fun k => impl_FirstAnswer.f k s n) (firstV s n) := by
  obtain ⟨K1, h1⟩ := pzAnswers_ev s n
  obtain ⟨K2, h2⟩ := answersOf_ev s n
  dsimp only at h1 h2
  unfold firstV
  constructor
  · refine ⟨K1, fun k hk => ?_⟩
    simp only [spec_FirstAnswer.f, h1 k hk, obind]
    cases ansV s n with
    | mk L b => cases b <;> cases L <;> simp <;> omega
  · refine ⟨K2, fun k hk => ?_⟩
    simp only [impl_FirstAnswer.f, h2 k hk, obind]
    cases ansV s n with
    | mk L b => cases b <;> cases L <;> simp <;> omega
end Go.Proofs.YtbnmajedmajfoaaGreatDoor.P
namespace Go.Proofs.YtbnmajedmajfoaaGreatDoor.P
open Go.RowKit Go.Proofs.YtbnmajedmajfoaaGreatDoorW.PrintWords Go.Proofs.YtbnmajedmajfoaaGreatDoorW.PrintLast
set_option linter.unusedVariables false
set_option linter.unusedSimpArgs false
def hasV (x : SRule) (a : List SRule) : Bool := a.any fun y => y.f0 == x.f0 && y.f1 == x.f1
theorem pzHas_l0 (a : List SRule) (x : SRule) (hm : a.length ≤ 1000) : ∀ (d i k : Nat), i + d = a.length → d < k → spec_pzHas.l0 k a a.length i x.f0 x.f1 = some (hasV x (a.drop i))
  | 0, i, k, h, hk => by
    obtain ⟨k, rfl⟩ : ∃ k', k = k' + 1 := ⟨k - 1, by omega⟩
    simp only [spec_pzHas.l0]
    rw [if_neg (by omega), List.drop_eq_nil_of_le (by omega)]; rfl
  | d + 1, i, k, h, hk => by
    obtain ⟨k, rfl⟩ : ∃ k', k = k' + 1 := ⟨k - 1, by omega⟩
    have ih := pzHas_l0 a x hm d (i + 1) k (by omega) (by omega)
    simp only [spec_pzHas.l0]
    rw [if_pos (by omega), if_pos (by omega), if_pos (by omega), wrap_id (by omega) (by omega), show ((i : Int) + 1) = ((i + 1 : Nat) : Int) by omega, ih, rd_drop a i (by omega)]
    unfold hasV
    rw [List.any_cons]
    by_cases c : ((rd_Rule a i).f0 == x.f0 && (rd_Rule a i).f1 == x.f1) = true
    · rw [if_pos c, c]; rfl
    · rw [if_neg c, Bool.eq_false_iff.2 c]; rfl
theorem pzHas_ok (a : List SRule) (x : SRule) (hm : a.length ≤ 1000) (k : Nat) (hk : a.length < k) : spec_pzHas.f k a x.f0 x.f1 = some (hasV x a) := by
  have h := pzHas_l0 a x hm a.length 0 k (by omega) hk
  rw [List.drop_zero] at h
  exact h
theorem con_l0 (a : List SRule) (x : SRule) (hm : a.length ≤ 1000) : ∀ (d i k : Nat), i + d = a.length → d < k → ∃ n : Int, impl_Rule_72.l0 k a a.length i x.f0 x.f1 = some n ∧ decide (n ≥ 0) = hasV x (a.drop i)
  | 0, i, k, h, hk => by
    obtain ⟨k, rfl⟩ : ∃ k', k = k' + 1 := ⟨k - 1, by omega⟩
    refine ⟨-1, ?_, ?_⟩
    · simp only [impl_Rule_72.l0]
      rw [if_neg (by omega)]
    · rw [List.drop_eq_nil_of_le (by omega)]; rfl
  | d + 1, i, k, h, hk => by
    obtain ⟨k, rfl⟩ : ∃ k', k = k' + 1 := ⟨k - 1, by omega⟩
    obtain ⟨n, ih, h2⟩ := con_l0 a x hm d (i + 1) k (by omega) (by omega)
    have hs : (x.f0 == (rd_Rule a i).f0 && x.f1 == (rd_Rule a i).f1) = ((rd_Rule a i).f0 == x.f0 && (rd_Rule a i).f1 == x.f1) := by rw [Bool.beq_comm, Bool.beq_comm (a := x.f1)]
    simp only [impl_Rule_72.l0]
    rw [if_pos (by omega), if_pos (by omega), if_pos (by omega), wrap_id (by omega) (by omega), show ((i : Int) + 1) = ((i + 1 : Nat) : Int) by omega, ih, rd_drop a i (by omega), hs]
    unfold hasV at h2 ⊢
    rw [List.any_cons]
    by_cases c : ((rd_Rule a i).f0 == x.f0 && (rd_Rule a i).f1 == x.f1) = true
    · exact ⟨i, by rw [if_pos c], by rw [c, Bool.true_or]; simp⟩
    · exact ⟨n, by rw [if_neg c], by rw [Bool.eq_false_iff.2 c, Bool.false_or]; exact h2⟩
theorem con_ok (a : List SRule) (x : SRule) (hm : a.length ≤ 1000) (k : Nat) (hk : a.length < k) : impl_Rule_41.f k a x.f0 x.f1 = some (hasV x a) := by
  obtain ⟨n, h, h2⟩ := con_l0 a x hm a.length 0 k (by omega) hk
  rw [List.drop_zero] at h2
  have h : impl_Rule_72.f k a x.f0 x.f1 = some n := h
  simp only [impl_Rule_41.f, h, obind]
  rw [h2]
def sureV (s : ByteArray) (n : Int) : List SRule × Bool := if (ansV s n).2 = true ∧ (ansV s n).1.length ≠ 0 then ((rd_Rules (ansV s n).1 0).filter fun x => (ansV s n).1.all (hasV x), true) else ([], false)
theorem rd0_mem {L : List (List SRule)} (h : L.length ≠ 0) : rd_Rules L 0 ∈ L := by
  cases L with
  | nil => exact absurd rfl h
  | cons a t => simp [rd_Rules]
theorem sureV_length (s : ByteArray) (n : Int) : (sureV s n).1.length ≤ 3 := by
  unfold sureV
  split
  · rename_i h
    exact Nat.le_trans (List.length_filter_le _ _) (ansV_mem s n _ (rd0_mem h.2))
  · simp
theorem SureRules_main (s : ByteArray) (n : Int) : Ev (fun k => spec_SureRules.f k s n) (sureV s n) ∧ Ev (fun k => impl_SureRules.f k s n) (sureV s n) := by
  obtain ⟨K1, h1⟩ := pzAnswers_ev s n
  obtain ⟨K2, h2⟩ := answersOf_ev s n
  dsimp only at h1 h2
  have hm := ansV_mem s n
  unfold sureV
  generalize ansV s n = A at h1 h2 hm ⊢
  obtain ⟨L, t⟩ := A
  dsimp only at h1 h2 hm ⊢
  cases t with
  | false =>
    rw [if_neg (by simp)]
    constructor
    · refine ⟨K1, fun k hk => ?_⟩
      simp only [spec_SureRules.f, h1 k hk, obind, Bool.false_eq_true, if_false]
    · refine ⟨K2, fun k hk => ?_⟩
      simp only [impl_SureRules.f, h2 k hk, obind, Bool.false_eq_true, if_false]
  | true =>
    by_cases c : L.length = 0
    · rw [if_neg (by simp [c])]
      constructor
      · refine ⟨K1, fun k hk => ?_⟩
        simp only [spec_SureRules.f, h1 k hk, obind, if_true, if_pos c]
      · refine ⟨K2, fun k hk => ?_⟩
        simp only [impl_SureRules.f, h2 k hk, obind, if_true, if_pos c]
    · rw [if_pos ⟨rfl, c⟩]
      have hr := hm _ (rd0_mem c)
      constructor
      · refine ⟨K1 + 5, fun k hk => ?_⟩
        have e1 : ∀ x ∈ rd_Rules L 0, L.all (sureHas k x) = L.all (hasV x) := fun x hx => by
          have : ∀ a ∈ L, sureHas k x a = hasV x a := fun a ha => by
            unfold sureHas
            rw [pzHas_ok a x (by have := hm a ha; omega) k (by have := hm a ha; omega)]
            cases hasV x a <;> rfl
          rw [Bool.eq_iff_iff, List.all_eq_true, List.all_eq_true]
          exact ⟨fun h a ha => by rw [← this a ha]; exact h a ha, fun h a ha => by rw [this a ha]; exact h a ha⟩
        simp only [spec_SureRules.f, h1 k (by omega), obind, if_true, if_neg c]
        rw [if_pos ⟨by omega, List.all_eq_true.2 fun x hx => List.all_eq_true.2 fun a ha => by rw [pzHas_ok a x (by have := hm a ha; omega) k (by have := hm a ha; omega)]; rfl⟩, List.filter_congr e1]
      · refine ⟨K2 + 5, fun k hk => ?_⟩
        have e1 : ∀ x ∈ rd_Rules L 0, (!(L.any (sureMiss k x))) = L.all (hasV x) := fun x hx => by
          have : ∀ a ∈ L, sureMiss k x a = !(hasV x a) := fun a ha => by
            unfold sureMiss
            rw [con_ok a x (by have := hm a ha; omega) k (by have := hm a ha; omega)]
            cases hasV x a <;> rfl
          rw [List.all_eq_not_any_not]
          congr 1
          rw [Bool.eq_iff_iff, List.any_eq_true, List.any_eq_true]
          exact ⟨fun ⟨a, ha, h_⟩ => ⟨a, ha, by rw [← this a ha]; exact h_⟩, fun ⟨a, ha, h_⟩ => ⟨a, ha, by rw [this a ha]; exact h_⟩⟩
        simp only [impl_SureRules.f, h2 k (by omega), obind, if_true, if_neg c]
        rw [if_pos ⟨by omega, List.all_eq_true.2 fun x hx => List.all_eq_true.2 fun a ha => by rw [con_ok a x (by have := hm a ha; omega) k (by have := hm a ha; omega)]; rfl⟩, List.filter_congr e1]
end Go.Proofs.YtbnmajedmajfoaaGreatDoor.P
namespace Go.Proofs.YtbnmajedmajfoaaGreatDoor.P
open Go.RowKit Go.Proofs.YtbnmajedmajfoaaGreatDoorW.PrintWords Go.Proofs.YtbnmajedmajfoaaGreatDoorW.PrintLast
set_option linter.unusedVariables false
set_option linter.unusedSimpArgs false
def hintRules (s : ByteArray) (i : Nat) : List SRule := (fitOf s).filter (fun x => ((i : Int) + 1) % x.f0 == x.f1)
def hintV (s : ByteArray) (i : Nat) : Nat → Int × Int × Int × Bool
  | 0 => (0, 0, 0, false)
  | d + 1 => if bt s i = 120 ∧ (hintRules s i).length = 1 then ((i : Int) + 1, (rd_Rule (hintRules s i) 0).f0, (rd_Rule (hintRules s i) 0).f1, true) else hintV s (i + 1) d
theorem hint_spec_filter (s : ByteArray) (i : Nat) (h : i < 48) : (fitOf s).filter (hintHit i) = hintRules s i := by
  refine List.filter_congr fun x hx => ?_
  unfold hintHit
  rw [wrap_id (by omega) (by omega), siRest_ok _ x (fitOf_all s x hx).1]
  by_cases c : ((i : Int) + 1) % x.f0 = x.f1
  · rw [c]; simp
  · rw [beq_eq_false_iff_ne.2 c, beq_eq_false_iff_ne.2 (by simpa using c)]
theorem hint_impl_filter (s : ByteArray) (i : Nat) (h : i < 48) : (fitOf s).filter (fun x => !hintDel i x) = hintRules s i := by
  refine List.filter_congr fun x hx => ?_
  unfold hintDel
  have h2 := (okRule_iff x).1 (fitOf_all s x hx).1
  rw [wrap_id (by omega) (by omega), Int.tmod_eq_emod_of_nonneg (by omega)]
  exact Bool.not_not _
theorem hint_spec_some (s : ByteArray) (i : Nat) (h : i < 48) : (fitOf s).all (fun x => (spec_siRest.f (wrap64 ((i : Int) + 1)) x.f0).isSome) = true := by
  refine List.all_eq_true.2 fun x hx => ?_
  rw [siRest_ok _ x (fitOf_all s x hx).1]; rfl
theorem hint_impl_ne (s : ByteArray) : (fitOf s).all (fun x => x.f0 != 0) = true := by
  refine List.all_eq_true.2 fun x hx => ?_
  have h2 := (okRule_iff x).1 (fitOf_all s x hx).1
  exact bne_iff_ne.2 (by omega)
theorem specHint_l0 (s : ByteArray) (hs : s.data.toList.all sign = true) (hz : s.size ≤ 48) : ∀ d i : Nat, i + d = s.size → Ev (fun k => spec_HintOf.l0 k s (fitOf s) i) (hintV s i d)
  | 0, i, h => Ev.mk' 0 fun k _ => by
    simp only [spec_HintOf.l0, hintV]
    rw [if_neg (by omega)]
  | d + 1, i, h => by
    obtain ⟨K, ih⟩ := specHint_l0 s hs hz d (i + 1) (by omega)
    dsimp only at ih
    have hb := sign_bt hs i (by omega)
    have hl := fitOf_length s
    refine Ev.mk' K fun k hk => ?_
    simp only [spec_HintOf.l0, hintV]
    rw [if_pos (by omega), if_pos (by omega), hint_spec_filter s i (by omega), ih k hk]
    by_cases c : bt s i = 120
    · rw [if_pos c, if_pos ⟨by omega, hint_spec_some s i (by omega)⟩]
      by_cases c2 : (hintRules s i).length = 1
      · rw [if_pos c2, if_pos ⟨c, c2⟩, wrap_id (by omega) (by omega)]
      · rw [if_neg c2, if_neg (fun h => c2 h.2)]
    · rw [if_neg c, if_neg (fun h => c h.1)]
theorem implHint_l0 (s : ByteArray) (hz : s.size ≤ 48) : ∀ d i : Nat, i + d = s.size → Ev (fun k => impl_HintOf.l0 k s (fitOf s) i) (hintV s i d)
  | 0, i, h => Ev.mk' 0 fun k _ => by
    simp only [impl_HintOf.l0, hintV]
    rw [if_neg (by omega)]
  | d + 1, i, h => by
    obtain ⟨K, ih⟩ := implHint_l0 s hz d (i + 1) (by omega)
    dsimp only at ih
    have hl := fitOf_length s
    refine Ev.mk' K fun k hk => ?_
    simp only [impl_HintOf.l0, hintV]
    rw [if_pos (by omega), if_pos (by omega), hint_impl_filter s i (by omega), ih k hk]
    by_cases c : bt s i = 120
    · rw [if_pos c, if_pos ⟨by omega, hint_impl_ne s⟩]
      by_cases c2 : (hintRules s i).length = 1
      · rw [if_pos c2, if_pos ⟨c, c2⟩, wrap_id (by omega) (by omega)]
      · rw [if_neg c2, if_neg (fun h => c2 h.2)]
    · rw [if_neg c, if_neg (fun h => c h.1)]
def hintAll (s : ByteArray) (n : Int) : Int × Int × Int × Bool := if goodP s n = true then hintV s 0 s.size else (0, 0, 0, false)
theorem Hint_main (s : ByteArray) (n : Int) : Ev (fun k => spec_HintOf.f k s n) (hintAll s n) ∧ Ev (fun k => impl_HintOf.f k s n) (hintAll s n) := by
  obtain ⟨K1, h1⟩ := pzGood_ev s n
  dsimp only at h1
  unfold hintAll
  by_cases hg : goodP s n = true
  · obtain ⟨g1, g2, g3, g4, g5⟩ := good_parts hg
    obtain ⟨K2, h2⟩ := pzFit_ev s g3 g2
    obtain ⟨K3, h3⟩ := fitting_ev s g2
    obtain ⟨K4, h4⟩ := specHint_l0 s g3 g2 s.size 0 (by omega)
    obtain ⟨K5, h5⟩ := implHint_l0 s g2 s.size 0 (by omega)
    dsimp only at h2 h3 h4 h5
    rw [if_pos hg]
    refine ⟨⟨K1 + K2 + K4, fun k hk => ?_⟩, ⟨K3 + K5, fun k hk => ?_⟩⟩
    · simp (disch := omega) only [spec_HintOf.f, h1, h2, obind, hg, if_true, h4]
    · simp (disch := omega) only [impl_HintOf.f, isPuzzle_ok, h3, obind, hg, if_true, h5]
  · have hf := Bool.eq_false_iff.2 hg
    rw [if_neg hg]
    refine ⟨⟨K1, fun k hk => ?_⟩, ⟨0, fun k hk => ?_⟩⟩
    · simp (disch := omega) only [spec_HintOf.f, h1, obind, hf, Bool.false_eq_true, if_false]
    · simp (disch := omega) only [impl_HintOf.f, isPuzzle_ok, obind, hf, Bool.false_eq_true, if_false]
end Go.Proofs.YtbnmajedmajfoaaGreatDoor.P
namespace Go.Proofs.YtbnmajedmajfoaaGreatDoor.P
open Go.RowKit Go.Proofs.YtbnmajedmajfoaaGreatDoorW.PrintWords Go.Proofs.YtbnmajedmajfoaaGreatDoorW.PrintLast
set_option linter.unusedVariables false
set_option linter.unusedSimpArgs false
def fitVal (s : ByteArray) (n : Int) : List SRule × Bool := if goodP s n = true then (fitOf s, true) else ([], false)
theorem fitVal_length (s : ByteArray) (n : Int) : (fitVal s n).1.length ≤ 99 := by
  unfold fitVal
  split
  · exact fitOf_length s
  · simp
theorem good_size' {s : ByteArray} {n : Int} (h : goodP s n = true) : s.size ≤ 48 := by
  unfold goodP at h; simp only [Bool.and_eq_true, decide_eq_true_eq] at h; exact h.2.1
theorem RulesThatFit_main (s : ByteArray) (n : Int) : Ev (fun k => spec_RulesThatFit.f k s n) (fitVal s n) ∧ Ev (fun k => impl_RulesThatFit.f k s n) (fitVal s n) := by
  obtain ⟨K, h1⟩ := pzGood_ev s n
  dsimp only at h1
  unfold fitVal
  by_cases hg : goodP s n = true
  · obtain ⟨K2, h2⟩ := pzFit_ev s (good_sign hg) (good_size' hg)
    obtain ⟨K3, h3⟩ := fitting_ev s (good_size' hg)
    dsimp only at h2 h3
    rw [if_pos hg]
    constructor
    · refine ⟨K + K2, fun k hk => ?_⟩
      simp (disch := omega) only [spec_RulesThatFit.f, h1, obind, hg, if_true, h2]
    · refine ⟨K3, fun k hk => ?_⟩
      simp (disch := omega) only [impl_RulesThatFit.f, isPuzzle_ok, obind, hg, if_true, h3]
  · rw [if_neg hg]
    have hf := Bool.eq_false_iff.2 hg
    constructor
    · refine ⟨K, fun k hk => ?_⟩
      simp (disch := omega) only [spec_RulesThatFit.f, h1, obind, hf, Bool.false_eq_true, if_false]
    · refine ⟨0, fun k hk => ?_⟩
      simp (disch := omega) only [impl_RulesThatFit.f, isPuzzle_ok, obind, hf, Bool.false_eq_true, if_false]
end Go.Proofs.YtbnmajedmajfoaaGreatDoor.P
namespace Go.Proofs.YtbnmajedmajfoaaGreatDoor.P
open Go.RowKit Go.Proofs.YtbnmajedmajfoaaGreatDoorW.PrintWords Go.Proofs.YtbnmajedmajfoaaGreatDoorW.PrintLast
set_option linter.unusedVariables false
set_option linter.unusedSimpArgs false
theorem num_ok (n : Int) (h0 : 0 ≤ n) (h1 : n ≤ 3) : ∃ t : ByteArray, t.size = 1 ∧ (∀ k, spec_l1Num.f (k + 1) n = some t) ∧ strconv_Itoa.f n = some t := by
  have hc : n = 0 ∨ n = 1 ∨ n = 2 ∨ n = 3 := by omega
  have e : strconv_Itoa.f n = some ⟨(Lib.decDigits n.toNat).toArray⟩ := by unfold strconv_Itoa.f; rw [if_pos (by omega)]
  rw [Lib.decDigits_one (by omega)] at e
  refine ⟨_, ?_, fun k => ?_, e⟩
  · rfl
  · simp only [spec_l1Num.f]
    rw [if_pos (by omega), wrap_id (by omega) (by omega)]
    rcases hc with rfl | rfl | rfl | rfl <;> rfl
theorem good_txt {s : ByteArray} {n : Int} (h : goodP s n = true) : s.size ≤ 48 ∧ 0 ≤ n ∧ n ≤ 3 := by
  unfold goodP at h
  simp only [Bool.and_eq_true, decide_eq_true_eq] at h
  exact ⟨h.2.1, h.2.2.2.1, h.2.2.2.2⟩
theorem PuzzleText_main (s : ByteArray) (n : Int) : ∃ v : ByteArray × Bool, Ev (fun k => spec_PuzzleText.f k s n) v ∧ impl_PuzzleText.f s n = some v := by
  obtain ⟨K, h1⟩ := pzGood_ev s n
  dsimp only at h1
  by_cases hg : goodP s n = true
  · obtain ⟨hz, h0, h3⟩ := good_txt hg
    obtain ⟨t, ht, hn, hi⟩ := num_ok n h0 h3
    have e1 : (s ++ (⟨#[58]⟩ : ByteArray)).size = s.size + 1 := by rw [ByteArray.size_append]; rfl
    refine ⟨((s ++ (⟨#[58]⟩ : ByteArray)) ++ t, true), Ev.mk' K fun k hk => ?_, ?_⟩
    · simp only [spec_PuzzleText.f, h1 _ (Nat.le_succ_of_le hk), obind, hg, if_true, hn k]
      rw [if_pos (by omega), if_pos (by rw [e1, ht]; omega)]
    · simp only [impl_PuzzleText.f, impl_puzzleText.f, isPuzzle_ok, obind, hg, if_true, hi]
      rw [if_pos (by omega), if_pos (by rw [e1, ht]; omega), obind]
  · have hf := Bool.eq_false_iff.2 hg
    refine ⟨((⟨#[]⟩ : ByteArray), false), ⟨K, fun k hk => ?_⟩, ?_⟩
    · simp only [spec_PuzzleText.f, h1 k hk, obind, hf, Bool.false_eq_true, if_false]
    · simp only [impl_PuzzleText.f, isPuzzle_ok, obind, hf, Bool.false_eq_true, if_false]
end Go.Proofs.YtbnmajedmajfoaaGreatDoor.P
namespace Go.Proofs.YtbnmajedmajfoaaGreatDoor.P
open Go.RowKit Go.Proofs.YtbnmajedmajfoaaGreatDoorW.PrintWords Go.Proofs.YtbnmajedmajfoaaGreatDoorW.PrintLast
set_option linter.unusedVariables false
set_option linter.unusedSimpArgs false
theorem bt_list (s : ByteArray) (i : Nat) (h : i < s.size) : bt s (i : Int) = ((s.data.toList[i]'(by rw [Array.length_toList]; exact h)).toNat : Int) := by
  have e := bt_at s (i : Int) h
  have e2 : s.data.toList[i]'(by rw [Array.length_toList]; exact h) = s[i]'h := by simp; rfl
  rw [e2]; exact e.symm
theorem u8_eq {x : UInt8} {n : Nat} (hn : n < 256) (h : (x.toNat : Int) = (n : Int)) : x = UInt8.ofNat n := by
  apply UInt8.toNat_inj.mp
  rw [UInt8.toNat_ofNat_of_lt' hn]; omega
theorem ext_list (s : ByteArray) (a b : Nat) : s.extract a b = ⟨((s.data.toList.take b).drop a).toArray⟩ := by
  apply ByteArray.ext
  apply Array.toList_inj.1
  rw [List.drop_take]
  simp [ByteArray.data_extract, Array.toList_extract, List.extract]
def splC : List UInt8 → List UInt8 → List (List UInt8)
  | cur, [] => [cur]
  | cur, c :: r => if c = 58 then cur :: splC [] r else splC (cur ++ [c]) r
theorem splC_one : ∀ (l cur p : List UInt8), splC cur l = [p] → cur ++ l = p
  | [], cur, p, h => by simp only [splC] at h; rw [List.append_nil]; exact (List.cons.inj h).1
  | c :: r, cur, p, h => by
    simp only [splC] at h
    by_cases hc : c = 58
    · rw [if_pos hc] at h
      have h2 := (List.cons.inj h).2
      cases r with
      | nil => simp [splC] at h2
      | cons x y =>
        simp only [splC] at h2
        by_cases hx : x = 58
        · rw [if_pos hx] at h2; cases h2
        · rw [if_neg hx] at h2
          exfalso
          have : ∀ (l cur : List UInt8), splC cur l ≠ [] := fun l => by
            induction l with
            | nil => intro cur h_; cases h_
            | cons a t ih => intro cur h_; simp only [splC] at h_; split at h_; cases h_; exact ih _ h_
          exact this _ _ h2
    · rw [if_neg hc] at h
      have := splC_one r (cur ++ [c]) p h
      simpa using this
theorem splC_two : ∀ (l cur p q : List UInt8), splC cur l = [p, q] → cur ++ l = p ++ 58 :: q
  | [], cur, p, q, h => by simp [splC] at h
  | c :: r, cur, p, q, h => by
    simp only [splC] at h
    by_cases hc : c = 58
    · rw [if_pos hc] at h
      obtain ⟨h1, h2⟩ := List.cons.inj h
      have := splC_one r [] q h2
      rw [h1, hc, ← this]; rfl
    · rw [if_neg hc] at h
      have := splC_two r (cur ++ [c]) p q h
      simpa using this
theorem splC_form : ∀ (b cur : List UInt8) (x : UInt8), b.all (fun y => y != 58) = true → x ≠ 58 → splC cur (b ++ [58, x]) = [cur ++ b, [x]]
  | [], cur, x, h, hx => by simp [splC, hx]
  | c :: r, cur, x, h, hx => by
    rw [List.all_cons, Bool.and_eq_true] at h
    have hc : c ≠ 58 := by simpa using h.1
    have := splC_form r (cur ++ [c]) x h.2 hx
    simp only [List.cons_append, splC]
    rw [if_neg hc, this]; simp
theorem split_l0 (s : ByteArray) (hz : s.size ≤ 1048576) : ∀ (d i m : Nat) (out : List ByteArray), i + d = s.size → m ≤ i → out.length + d ≤ 1048576 → Ev (fun k => spec_l1Split.l0 k s 58 out (m : Int) (i : Int)) (out ++ (splC ((s.data.toList.take i).drop m) (s.data.toList.drop i)).map (fun p => (⟨p.toArray⟩ : ByteArray)))
  | 0, i, m, out, h, hm, ho => Ev.mk' 0 fun k _ => by
    have hl : s.data.toList.length = s.size := Array.length_toList
    simp only [spec_l1Split.l0]
    have e0 : s.data.toList.drop i = [] := List.drop_eq_nil_of_le (by omega)
    rw [if_neg (by omega), if_pos (by omega), if_pos (by omega), if_pos (by omega), e0, ext_list]
    simp only [splC, List.map_cons, List.map_nil, Int.toNat_natCast]
    rw [show s.size = i by omega]
  | d + 1, i, m, out, h, hm, ho => by
    have hl : s.data.toList.length = s.size := Array.length_toList
    have hd : s.data.toList.drop i = s.data.toList[i]'(by omega) :: s.data.toList.drop (i + 1) := List.drop_eq_getElem_cons (by omega)
    have hb := bt_list s i (by omega)
    by_cases hc : s.data.toList[i]'(by omega) = 58
    · obtain ⟨K, ih⟩ := split_l0 s hz d (i + 1) (i + 1) (out ++ [s.extract m i]) (by omega) (Nat.le_refl _) (by simp; omega)
      dsimp only at ih
      refine Ev.mk' K fun k hk => ?_
      simp only [spec_l1Split.l0, Int.toNat_natCast]
      rw [if_pos (by omega), if_pos (by omega), if_pos (by rw [hb, hc]; rfl), if_pos (by omega), if_pos (by omega), if_pos (by omega), if_pos (by omega), wrap_id (by omega) (by omega), show ((i : Int) + 1) = ((i + 1 : Nat) : Int) by omega, ih k hk, hd]
      simp only [splC]
      have e0 : (s.data.toList.take (i + 1)).drop (i + 1) = [] := List.drop_eq_nil_of_le (by rw [List.length_take]; omega)
      rw [if_pos hc, ext_list, e0]
      simp
    · obtain ⟨K, ih⟩ := split_l0 s hz d (i + 1) m out (by omega) (by omega) (by omega)
      dsimp only at ih
      refine Ev.mk' K fun k hk => ?_
      simp only [spec_l1Split.l0]
      rw [if_pos (by omega), if_pos (by omega), if_neg (by
        rw [hb]; intro h_; exact hc (u8_eq (n := 58) (by decide) h_)), wrap_id (by omega) (by omega), show ((i : Int) + 1) = ((i + 1 : Nat) : Int) by omega, ih k hk, hd]
      simp only [splC]
      rw [if_neg hc, List.take_succ_eq_append_getElem (by omega), List.drop_append_of_le_length (by rw [List.length_take]; omega)]
theorem split_ev (s : ByteArray) (hz : s.size ≤ 1048576) : Ev (fun k => spec_l1Split.f k s 58) ((splC [] s.data.toList).map (fun p => (⟨p.toArray⟩ : ByteArray))) := by
  obtain ⟨K, h⟩ := split_l0 s hz s.size 0 0 [] (by omega) (Nat.le_refl _) (by simpa using hz)
  exact ⟨K, fun k hk => by show spec_l1Split.l0 k s 58 [] 0 0 = _; simpa using h k hk⟩
def tenP : Nat → Int
  | 0 => 1
  | d + 1 => 10 * tenP d
theorem tenP_pos : ∀ d, 1 ≤ tenP d
  | 0 => by decide
  | d + 1 => by have := tenP_pos d; simp only [tenP]; omega
theorem read_l0 (s : ByteArray) (hz : s.size ≤ 6) : ∀ (d i : Nat) (a : Int), i + d = s.size → 0 ≤ a → (a + 1) * tenP d ≤ 1000000000000 → ∃ n : Int, Ev (fun k => spec_l1Read.l0 k s a (i : Int)) n ∧ (n = -1 ∨ a ≤ n) ∧ (1 ≤ d → n = -1 ∨ 10 * a ≤ n)
  | 0, i, a, h, h0, hb => ⟨a, Ev.mk' 0 fun k _ => by
      simp only [spec_l1Read.l0]
      rw [if_neg (by omega)], .inr (Int.le_refl _), fun h_ => absurd h_ (by omega)⟩
  | d + 1, i, a, h, h0, hb => by
    have hp := tenP_pos d
    have ha : a ≤ 1000000000000 := by
      have h1 : (a + 1) * 1 ≤ (a + 1) * tenP (d + 1) := Int.mul_le_mul_of_nonneg_left (tenP_pos _) (by omega)
      omega
    by_cases c1 : bt s (i : Int) < 48
    · exact ⟨-1, Ev.mk' 0 fun k _ => by
        simp only [spec_l1Read.l0]
        rw [if_pos (by omega), if_pos (by omega), if_pos c1], .inl rfl, fun _ => .inl rfl⟩
    · by_cases c2 : bt s (i : Int) > 57
      · exact ⟨-1, Ev.mk' 0 fun k _ => by
          simp only [spec_l1Read.l0]
          rw [if_pos (by omega), if_pos (by omega), if_neg c1, if_pos c2], .inl rfl, fun _ => .inl rfl⟩
      · obtain ⟨x, hx⟩ : ∃ x, x = bt s (i : Int) - 48 := ⟨_, rfl⟩
        have hb2 : (10 * a + x + 1) * tenP d ≤ 1000000000000 := by
          have h1 : (10 * a + x + 1) * tenP d ≤ (10 * (a + 1)) * tenP d := Int.mul_le_mul_of_nonneg_right (by omega) (by omega)
          have h2 : (10 * (a + 1)) * tenP d = (a + 1) * tenP (d + 1) := by simp only [tenP]; rw [Int.mul_comm 10 (a + 1), Int.mul_assoc]
          omega
        obtain ⟨n, ⟨K, ih⟩, hn1, -⟩ := read_l0 s hz d (i + 1) (10 * a + x) (by omega) (by omega) hb2
        dsimp only at ih
        refine ⟨n, Ev.mk' K fun k hk => ?_, by omega, fun _ => by omega⟩
        simp only [spec_l1Read.l0]
        rw [if_pos (by omega), if_pos (by omega), if_neg c1, if_neg c2, ← hx, wrap_id (n := 10 * a) (by omega) (by omega), show x % 256 = x by omega, wrap_id (n := 10 * a + x) (by omega) (by omega), wrap_id (n := (i : Int) + 1) (by omega) (by omega), show ((i : Int) + 1) = ((i + 1 : Nat) : Int) by omega, ih k hk]
theorem l1In_ok' (a b c : Int) : spec_l1In.f a b c = some (decide (b ≤ a) && decide (a ≤ c)) := by
  unfold spec_l1In.f
  by_cases h1 : b ≤ a
  · by_cases h2 : a ≤ c <;> simp [h1, h2]
  · simp [h1]
theorem read_one (s : ByteArray) (c2 : s.size = 1) : ∀ k, spec_l1Read.f (k + 3) s = (if bt s 0 < 48 then some (-1) else if bt s 0 > 57 then some (-1) else some (bt s 0 - 48)) := by
  have e1 : (decide ((1 : Int) ≤ (s.size : Int)) && decide ((s.size : Int) ≤ 6)) = true := by rw [decide_eq_true (show (1 : Int) ≤ (s.size : Int) by omega), decide_eq_true (show (s.size : Int) ≤ 6 by omega)]; rfl
  have hb := bt_list s 0 (by omega)
  have hb0 : (0 : Int) ≤ bt s 0 := by have h_ : bt s ((0 : Nat) : Int) = _ := hb; have h2_ : bt s 0 = bt s ((0 : Nat) : Int) := rfl; omega
  intro k
  have hd : decide ((s.size : Int) > 1) = false := decide_eq_false (by omega)
  have e2 : spec_l1Read.f (k + 3) s = spec_l1Read.j0 (k + 3) s false := by
    simp only [spec_l1Read.f, l1In_ok', e1, obind, if_true]
    rw [if_pos (by omega), hd]
    split <;> rfl
  rw [e2]
  simp only [spec_l1Read.j0, spec_l1Read.l0, Bool.false_eq_true, if_false]
  rw [if_pos (by omega), if_pos (by omega)]
  by_cases h48 : bt s 0 < 48
  · rw [if_pos h48, if_pos h48]
  · rw [if_neg h48, if_neg h48]
    by_cases h57 : bt s 0 > 57
    · rw [if_pos h57, if_pos h57]
    · rw [if_neg h57, if_neg h57, if_neg (by rw [wrap_id (by omega) (by omega)]; omega)]
      rw [show (bt s 0 - 48) % 256 = bt s 0 - 48 by omega, wrap_id (n := 10 * 0) (by omega) (by omega), wrap_id (by omega) (by omega)]
      congr 1; omega
theorem read_any (s : ByteArray) : ∃ n : Int, Ev (fun k => spec_l1Read.f k s) n ∧ ∀ m : Nat, n = (m : Int) → m ≤ 3 → s.data.toList = [UInt8.ofNat (48 + m)] := by
  have hl : s.data.toList.length = s.size := Array.length_toList
  by_cases c1 : 1 ≤ s.size ∧ s.size ≤ 6
  · have e1 : (decide ((1 : Int) ≤ (s.size : Int)) && decide ((s.size : Int) ≤ 6)) = true := by rw [decide_eq_true (show (1 : Int) ≤ (s.size : Int) by omega), decide_eq_true (show (s.size : Int) ≤ 6 by omega)]; rfl
    by_cases c2 : s.size = 1
    ·
      have hb := bt_list s 0 (by omega)
      have hL : s.data.toList = [s.data.toList[0]'(by omega)] := by
        apply List.ext_getElem (by simp; omega)
        intro i h1 h2
        have : i = 0 := by simp at h2; exact h2
        subst this; rfl
      have hb0 : (0 : Int) ≤ bt s 0 := by have h_ : bt s ((0 : Nat) : Int) = _ := hb; have h2_ : bt s 0 = bt s ((0 : Nat) : Int) := rfl; omega
      have hj := read_one s c2
      by_cases h48 : bt s 0 < 48
      · exact ⟨-1, ⟨3, fun k hk => by obtain ⟨j, rfl⟩ : ∃ j, k = j + 3 := ⟨k - 3, by omega⟩; show spec_l1Read.f (j + 3) s = _; rw [hj, if_pos h48]⟩, fun m hm _ => by omega⟩
      · by_cases h57 : bt s 0 > 57
        · exact ⟨-1, ⟨3, fun k hk => by obtain ⟨j, rfl⟩ : ∃ j, k = j + 3 := ⟨k - 3, by omega⟩; show spec_l1Read.f (j + 3) s = _; rw [hj, if_neg h48, if_pos h57]⟩, fun m hm _ => by omega⟩
        · refine ⟨bt s 0 - 48, ⟨3, fun k hk => by obtain ⟨j, rfl⟩ : ∃ j, k = j + 3 := ⟨k - 3, by omega⟩; show spec_l1Read.f (j + 3) s = _; rw [hj, if_neg h48, if_neg h57]⟩, fun m hm h3 => ?_⟩
          rw [hL, u8_eq (x := s.data.toList[0]'(by omega)) (n := 48 + m) (by omega) (by have h_ : bt s 0 = _ := hb; rw [← h_]; omega)]
    ·
      have hd : decide ((s.size : Int) > 1) = true := decide_eq_true (by omega)
      by_cases c3 : bt s 0 = 48
      · exact ⟨-1, Ev.mk' 0 fun k _ => by
          simp only [spec_l1Read.f, l1In_ok', e1, obind, if_true]
          rw [if_pos (by omega), if_pos c3, hd]
          simp only [spec_l1Read.j0, if_true], fun m hm _ => by omega⟩
      · by_cases c4 : bt s 0 < 48
        · exact ⟨-1, ⟨3, fun k hk => by
            obtain ⟨j, rfl⟩ : ∃ j, k = j + 3 := ⟨k - 3, by omega⟩
            simp only [spec_l1Read.f, l1In_ok', e1, obind, if_true]
            rw [if_pos (by omega), if_neg c3]
            simp only [spec_l1Read.j0, spec_l1Read.l0, Bool.false_eq_true, if_false]
            rw [if_pos (by omega), if_pos (by omega), if_pos c4]⟩, fun m hm _ => by omega⟩
        · by_cases c5 : bt s 0 > 57
          · exact ⟨-1, ⟨3, fun k hk => by
              obtain ⟨j, rfl⟩ : ∃ j, k = j + 3 := ⟨k - 3, by omega⟩
              simp only [spec_l1Read.f, l1In_ok', e1, obind, if_true]
              rw [if_pos (by omega), if_neg c3]
              simp only [spec_l1Read.j0, spec_l1Read.l0, Bool.false_eq_true, if_false]
              rw [if_pos (by omega), if_pos (by omega), if_neg c4, if_pos c5]⟩, fun m hm _ => by omega⟩
          · obtain ⟨x, hx⟩ : ∃ x, x = bt s 0 - 48 := ⟨_, rfl⟩
            obtain ⟨d, hd1⟩ : ∃ d, s.size = d + 2 := ⟨s.size - 2, by omega⟩
            have hT : (x + 1) * tenP (d + 1) ≤ 1000000000000 := by
              have h1 : tenP (d + 1) ≤ 100000 := by
                have : d = 0 ∨ d = 1 ∨ d = 2 ∨ d = 3 ∨ d = 4 := by omega
                rcases this with rfl | rfl | rfl | rfl | rfl <;> decide
              have h2 : (x + 1) * tenP (d + 1) ≤ 10 * tenP (d + 1) := Int.mul_le_mul_of_nonneg_right (by omega) (by have := tenP_pos (d + 1); omega)
              omega
            obtain ⟨n, ⟨K, ih⟩, -, hn⟩ := read_l0 s c1.2 (d + 1) 1 x (by omega) (by omega) hT
            have ih : ∀ k, K ≤ k → spec_l1Read.l0 k s x 1 = some n := ih
            refine ⟨n, ⟨K + 2, fun k hk => ?_⟩, fun m hm h3 => ?_⟩
            · obtain ⟨j, rfl⟩ : ∃ j, k = j + 2 := ⟨k - 2, by omega⟩
              simp only [spec_l1Read.f, l1In_ok', e1, obind, if_true]
              rw [if_pos (by omega), if_neg c3]
              simp only [spec_l1Read.j0, spec_l1Read.l0, Bool.false_eq_true, if_false]
              rw [if_pos (by omega), if_pos (by omega), if_neg c4, if_neg c5, ← hx, wrap_id (n := 10 * 0) (by omega) (by omega), show x % 256 = x by omega, wrap_id (n := 10 * 0 + x) (by omega) (by omega), wrap_id (n := (0 : Int) + 1) (by omega) (by omega), show (10 * 0 + x : Int) = x by omega, show ((0 : Int) + 1) = 1 by omega, ih j (by omega)]
            · have := hn (by omega); omega
  · have e1 : (decide ((1 : Int) ≤ (s.size : Int)) && decide ((s.size : Int) ≤ 6)) = false := by
      rw [Bool.and_eq_false_iff]; simp only [decide_eq_false_iff_not]; omega
    exact ⟨-1, Ev.mk' 0 fun k _ => by
      simp only [spec_l1Read.f, l1In_ok', e1, obind, Bool.false_eq_true, if_false, spec_l1Read.j0, if_true], fun m hm _ => by omega⟩
end Go.Proofs.YtbnmajedmajfoaaGreatDoor.P
namespace Go.Proofs.YtbnmajedmajfoaaGreatDoor.P
open Go.RowKit Go.Proofs.YtbnmajedmajfoaaGreatDoorW.PrintWords Go.Proofs.YtbnmajedmajfoaaGreatDoorW.PrintLast
set_option linter.unusedVariables false
set_option linter.unusedSimpArgs false
def PForm (s : ByteArray) (b : List UInt8) (n : Nat) : Prop := s.data.toList = b ++ [58, UInt8.ofNat (48 + n)] ∧ n ≤ 3 ∧ goodP ⟨b.toArray⟩ (n : Int) = true
theorem good_p {s : ByteArray} {n : Int} (h : goodP s n = true) : 1 ≤ s.size ∧ s.size ≤ 48 ∧ s.data.toList.all sign = true ∧ 0 ≤ n ∧ n ≤ 3 := by
  unfold goodP at h
  simp only [Bool.and_eq_true, decide_eq_true_eq] at h
  exact ⟨h.1, h.2.1, h.2.2.1, h.2.2.2.1, h.2.2.2.2⟩
theorem sign_ne (b : List UInt8) (h : b.all sign = true) : b.all (fun y => y != 58) = true := by
  refine List.all_eq_true.2 fun y hy => ?_
  have := List.all_eq_true.1 h y hy
  simp only [sign, Bool.or_eq_true, beq_iff_eq] at this
  rcases this with rfl | rfl | rfl <;> decide
theorem digit_ne (n : Nat) (h : n ≤ 3) : UInt8.ofNat (48 + n) ≠ 58 := by
  have : n = 0 ∨ n = 1 ∨ n = 2 ∨ n = 3 := by omega
  rcases this with rfl | rfl | rfl | rfl <;> decide
theorem read_digit (n : Nat) (h : n ≤ 3) : Ev (fun k => spec_l1Read.f k ⟨#[UInt8.ofNat (48 + n)]⟩) (n : Int) := by
  have hb : bt (⟨#[UInt8.ofNat (48 + n)]⟩ : ByteArray) 0 = ((48 + n : Nat) : Int) := by
    have e := bt_list (⟨#[UInt8.ofNat (48 + n)]⟩ : ByteArray) 0 (show 0 < 1 by omega)
    have e2 : ((⟨#[UInt8.ofNat (48 + n)]⟩ : ByteArray).data.toList[0]'(show 0 < 1 by omega)) = UInt8.ofNat (48 + n) := rfl
    rw [e2, UInt8.toNat_ofNat_of_lt' (show 48 + n < 256 by omega)] at e
    exact e
  refine ⟨3, fun k hk => ?_⟩
  obtain ⟨j, rfl⟩ : ∃ j, k = j + 3 := ⟨k - 3, by omega⟩
  show spec_l1Read.f (j + 3) _ = _
  rw [read_one _ rfl, hb, if_neg (by omega), if_neg (by omega)]
  congr 1; omega
theorem form_size {s : ByteArray} {b : List UInt8} {n : Nat} (h : PForm s b n) : s.size = b.length + 2 ∧ 1 ≤ b.length ∧ b.length ≤ 48 ∧ b.all sign = true := by
  have h1 := congrArg List.length h.1
  obtain ⟨g1, g2, g3, -, -⟩ := good_p h.2.2
  have e : (⟨b.toArray⟩ : ByteArray).size = b.length := by show b.toArray.size = b.length; simp
  have hl : s.data.toList.length = s.size := Array.length_toList
  simp only [List.length_append, List.length_cons, List.length_nil] at h1
  exact ⟨by omega, by omega, by omega, g3⟩
theorem spec_form {s : ByteArray} {b : List UInt8} {n : Nat} (h : PForm s b n) : Ev (fun k => spec_ParsePuzzle.f k s) ((⟨b.toArray⟩ : ByteArray), (n : Int), true) := by
  obtain ⟨z1, z2, z3, z4⟩ := form_size h
  obtain ⟨K1, h1⟩ := split_ev s (by omega)
  rw [h.1, splC_form b [] _ (sign_ne b z4) (digit_ne n h.2.1)] at h1
  obtain ⟨K2, h2⟩ := read_digit n h.2.1
  obtain ⟨K3, h3⟩ := pzGood_ev ⟨b.toArray⟩ n
  rw [h.2.2] at h3
  dsimp only at h1 h2 h3
  simp only [List.map_cons, List.map_nil, List.nil_append] at h1
  refine ⟨K1 + K2 + K3 + 1, fun k hk => ?_⟩
  obtain ⟨j, rfl⟩ : ∃ j, k = j + 1 := ⟨k - 1, by omega⟩
  simp only [spec_ParsePuzzle.f, h1 (j + 1) (by omega), obind]
  rw [if_neg (by omega)]
  simp only [spec_ParsePuzzle.j0, List.length_cons, List.length_nil]
  have e0 : rdOf ByteArray.empty [(⟨b.toArray⟩ : ByteArray), (⟨[UInt8.ofNat (48 + n)].toArray⟩ : ByteArray)] 0 = ⟨b.toArray⟩ := rfl
  have e1 : rdOf ByteArray.empty [(⟨b.toArray⟩ : ByteArray), (⟨[UInt8.ofNat (48 + n)].toArray⟩ : ByteArray)] 1 = ⟨#[UInt8.ofNat (48 + n)]⟩ := rfl
  rw [if_neg (by decide), if_pos (by decide), if_pos (by decide), e0, e1, h2 j (by omega), obind, h3 j (by omega), obind, if_pos rfl]
theorem spec_none {s : ByteArray} (hz : s.size ≤ 1048576) (h : ∀ b n, ¬ PForm s b n) : Ev (fun k => spec_ParsePuzzle.f k s) ((⟨#[]⟩ : ByteArray), (0 : Int), false) := by
  obtain ⟨K1, h1⟩ := split_ev s hz
  dsimp only at h1
  by_cases c1 : (s.size : Int) > 50
  · refine ⟨K1 + 1, fun k hk => ?_⟩
    obtain ⟨j, rfl⟩ : ∃ j, k = j + 1 := ⟨k - 1, by omega⟩
    simp only [spec_ParsePuzzle.f, h1 (j + 1) (by omega), obind]
    rw [if_pos c1]; simp only [spec_ParsePuzzle.j0, if_true]
  · by_cases c2 : (splC [] s.data.toList).length = 2
    · obtain ⟨p, q, hpq⟩ : ∃ p q, splC [] s.data.toList = [p, q] := by
        match hm : splC [] s.data.toList, c2 with
        | [p, q], _ => exact ⟨p, q, rfl⟩
      have hs := splC_two _ _ _ _ hpq
      rw [List.nil_append] at hs
      rw [hpq] at h1
      obtain ⟨n, ⟨K2, h2⟩, hn⟩ := read_any ⟨q.toArray⟩
      obtain ⟨K3, h3⟩ := pzGood_ev ⟨p.toArray⟩ n
      dsimp only at h2 h3
      have hf : goodP ⟨p.toArray⟩ n = false := by
        rw [Bool.eq_false_iff]
        intro hg
        obtain ⟨-, -, -, g4, g5⟩ := good_p hg
        have hq := hn n.toNat (by omega) (by omega)
        refine h p n.toNat ⟨?_, by omega, by rw [show ((n.toNat : Nat) : Int) = n by omega]; exact hg⟩
        rw [hs, show q = [UInt8.ofNat (48 + n.toNat)] from hq]
      rw [hf] at h3
      refine ⟨K1 + K2 + K3 + 1, fun k hk => ?_⟩
      obtain ⟨j, rfl⟩ : ∃ j, k = j + 1 := ⟨k - 1, by omega⟩
      simp only [spec_ParsePuzzle.f, h1 (j + 1) (by omega), obind, List.map_cons, List.map_nil]
      rw [if_neg c1]
      simp only [spec_ParsePuzzle.j0, List.length_cons, List.length_nil]
      have e0 : rdOf ByteArray.empty [(⟨p.toArray⟩ : ByteArray), (⟨q.toArray⟩ : ByteArray)] 0 = ⟨p.toArray⟩ := rfl
      have e1 : rdOf ByteArray.empty [(⟨p.toArray⟩ : ByteArray), (⟨q.toArray⟩ : ByteArray)] 1 = ⟨q.toArray⟩ := rfl
      rw [if_neg (by decide), if_pos (by decide), if_pos (by decide), e0, e1, h2 j (by omega), obind, h3 j (by omega), obind, if_neg (by decide)]
    · refine ⟨K1 + 1, fun k hk => ?_⟩
      obtain ⟨j, rfl⟩ : ∃ j, k = j + 1 := ⟨k - 1, by omega⟩
      simp only [spec_ParsePuzzle.f, h1 (j + 1) (by omega), obind, List.length_map]
      rw [if_neg c1, bne_iff_ne.2 (by omega)]; simp only [spec_ParsePuzzle.j0, if_true]
theorem index_colon : ∀ (b : List UInt8) (r : List UInt8), b.all (fun y => y != 58) = true → Lib.index (b ++ 58 :: r) [58] = (b.length : Int)
  | [], r, h => by simp [Lib.index, List.isPrefixOf]
  | c :: b, r, h => by
    rw [List.all_cons, Bool.and_eq_true] at h
    have hc : ((58 : UInt8) == c) = false := by
      have := h.1; rw [beq_eq_false_iff_ne]; intro e; subst e; simp at this
    have ih := index_colon b r h.2
    rw [List.cons_append, Lib.index, ih]
    have hp : ([58] : List UInt8).isPrefixOf (c :: (b ++ 58 :: r)) = false := by simp [List.isPrefixOf, hc]
    rw [hp]
    have hb : ((b.length : Int) == -1) = false := beq_eq_false_iff_ne.2 (by omega)
    simp [hb]
theorem itoa_ok (n : Int) (h0 : 0 ≤ n) (h1 : n ≤ 3) : strconv_Itoa.f n = some ⟨#[UInt8.ofNat (48 + n.toNat)]⟩ := by
  have e : strconv_Itoa.f n = some ⟨(Lib.decDigits n.toNat).toArray⟩ := by unfold strconv_Itoa.f; rw [if_pos (by omega)]
  rw [Lib.decDigits_one (by omega)] at e
  exact e
theorem text_ok (b : ByteArray) (n : Int) (hg : goodP b n = true) : ∃ t, impl_puzzleText.f b n = some t ∧ t.data.toList = b.data.toList ++ [58, UInt8.ofNat (48 + n.toNat)] := by
  obtain ⟨g1, g2, -, g4, g5⟩ := good_p hg
  have e1 : (b ++ (⟨#[58]⟩ : ByteArray)).size = b.size + 1 := by rw [ByteArray.size_append]; rfl
  refine ⟨(b ++ (⟨#[58]⟩ : ByteArray)) ++ ⟨#[UInt8.ofNat (48 + n.toNat)]⟩, ?_, by simp [ByteArray.data_append]⟩
  have e2 : (⟨#[UInt8.ofNat (48 + n.toNat)]⟩ : ByteArray).size = 1 := rfl
  simp only [impl_puzzleText.f, itoa_ok n g4 g5, obind]
  rw [if_pos (by omega), if_pos (by rw [e1, e2]; omega)]
theorem impl_form {s : ByteArray} {b : List UInt8} {n : Nat} (h : PForm s b n) : impl_ParsePuzzle.f s = some ((⟨b.toArray⟩ : ByteArray), (n : Int), true) := by
  obtain ⟨z1, z2, z3, z4⟩ := form_size h
  obtain ⟨t, ht, hl⟩ := text_ok ⟨b.toArray⟩ n h.2.2
  have hc : Lib.cut s.data.toList [58] = (b, [UInt8.ofNat (48 + n)], true) := by
    unfold Lib.cut
    rw [h.1, index_colon b [UInt8.ofNat (48 + n)] (sign_ne b z4), if_pos (by omega)]
    simp
  have ha : Lib.atoiAll [UInt8.ofNat (48 + n)] = .ok (n : Int) := by
    have hn := h.2.1
    have : n = 0 ∨ n = 1 ∨ n = 2 ∨ n = 3 := by omega
    rcases this with rfl | rfl | rfl | rfl <;> rfl
  have hts : t.toList = s.toList := by
    rw [ByteArray.toList_eq, ByteArray.toList_eq, hl, h.1, Int.toNat_natCast]
  unfold impl_ParsePuzzle.f impl_parsePuzzle.f
  rw [if_pos (by omega), hc]
  simp only [ha]
  rw [isPuzzle_ok, h.2.2, obind, if_pos rfl, ht, obind, if_pos hts, obind]
theorem impl_none {s : ByteArray} (hz : s.size ≤ 1048576) (h : ∀ b n, ¬ PForm s b n) : impl_ParsePuzzle.f s = some ((⟨#[]⟩ : ByteArray), (0 : Int), false) := by
  unfold impl_ParsePuzzle.f impl_parsePuzzle.f
  rw [if_pos hz]
  obtain ⟨c, hc⟩ : ∃ c, c = Lib.cut s.data.toList [58] := ⟨_, rfl⟩
  rw [← hc]
  cases ha : Lib.atoiAll c.2.1 with
  | ok v =>
    simp only []
    rw [isPuzzle_ok, obind]
    by_cases hg : goodP ⟨c.1.toArray⟩ v = true
    · obtain ⟨t, ht, hl⟩ := text_ok ⟨c.1.toArray⟩ v hg
      obtain ⟨-, -, -, g4, g5⟩ := good_p hg
      rw [if_pos hg, ht, obind]
      have hne : ¬ t.toList = s.toList := by
        intro he
        rw [ByteArray.toList_eq, ByteArray.toList_eq] at he
        refine h c.1 v.toNat ⟨?_, by omega, by rw [show ((v.toNat : Nat) : Int) = v by omega]; exact hg⟩
        rw [← he, hl]
      rw [if_neg hne, obind]
    · rw [if_neg hg, obind]
  | _ => rfl
theorem ParsePuzzle_main (s : ByteArray) (hz : s.size ≤ 1048576) : ∃ v : ByteArray × Int × Bool, Ev (fun k => spec_ParsePuzzle.f k s) v ∧ impl_ParsePuzzle.f s = some v := by
  by_cases h : ∃ b n, PForm s b n
  · obtain ⟨b, n, h⟩ := h
    exact ⟨_, spec_form h, impl_form h⟩
  · have h : ∀ b n, ¬ PForm s b n := fun b n hp => h ⟨b, n, hp⟩
    exact ⟨_, spec_none hz h, impl_none hz h⟩
end Go.Proofs.YtbnmajedmajfoaaGreatDoor.P
namespace Go.Proofs.YtbnmajedmajfoaaGreatDoor.P
open Go.RowKit Go.Proofs.YtbnmajedmajfoaaGreatDoorW.PrintWords Go.Proofs.YtbnmajedmajfoaaGreatDoorW.PrintLast
set_option linter.unusedVariables false
set_option linter.unusedSimpArgs false
theorem goodP_n (s : ByteArray) (n : Nat) (h : n ≤ 3) : goodP s (n : Int) = goodP s 0 := by
  unfold goodP
  rw [decide_eq_true (show (0 : Int) ≤ (n : Int) by omega), decide_eq_true (show (n : Int) ≤ 3 by omega)]
  rfl
def fewV (s : ByteArray) (n : Nat) : Nat → Int × Bool
  | 0 => (0, false)
  | d + 1 => if 0 < (answers s n).length then ((n : Int), true) else fewV s (n + 1) d
theorem implFew_l0 (s : ByteArray) (hg : goodP s 0 = true) : ∀ (d n : Nat), n + d = 4 → Ev (fun k => impl_FewestRules.l0 k s (n : Int)) (fewV s n d)
  | 0, n, h => Ev.mk' 0 fun k _ => by
    simp only [impl_FewestRules.l0, fewV]
    rw [if_neg (by omega)]
  | d + 1, n, h => by
    obtain ⟨g1, g2, g3, g4, g5⟩ := good_parts hg
    obtain ⟨K1, h1⟩ := implFew_l0 s hg d (n + 1) (by omega)
    obtain ⟨K3, h3⟩ := someAnswers_ev s g3 g2 n 1 (by omega) (by omega)
    dsimp only at h1
    have h3 : ∀ k, K3 ≤ k → impl_someAnswers.f k s (n : Int) 1 = _ := h3
    refine Ev.mk' (K1 + K3) fun k hk => ?_
    simp only [impl_FewestRules.l0, fewV, isPuzzle_ok, goodP_n s n (by omega), hg, h3 k (by omega), obind]
    rw [if_pos (by omega), if_pos trivial, show wrap64 ((n : Int) + 1) = ((n + 1 : Nat) : Int) from wrap_id (by omega) (by omega), h1 k (by omega), List.length_take]
    by_cases c : 0 < (answers s n).length
    · rw [if_pos (by omega), if_pos c]
    · rw [if_neg (by omega), if_neg c]
theorem implFew_bad (s : ByteArray) (hg : goodP s 0 = false) : ∀ (d n : Nat), n + d = 4 → Ev (fun k => impl_FewestRules.l0 k s (n : Int)) ((0 : Int), false)
  | 0, n, h => Ev.mk' 0 fun k _ => by
    simp only [impl_FewestRules.l0]
    rw [if_neg (by omega)]
  | d + 1, n, h => by
    obtain ⟨K1, h1⟩ := implFew_bad s hg d (n + 1) (by omega)
    dsimp only at h1
    refine Ev.mk' K1 fun k hk => ?_
    simp only [impl_FewestRules.l0, isPuzzle_ok, goodP_n s n (by omega), hg, obind]
    rw [if_pos (by omega), if_neg (by decide), show wrap64 ((n : Int) + 1) = ((n + 1 : Nat) : Int) from wrap_id (by omega) (by omega), h1 k (by omega)]
def fewestV (s : ByteArray) : Int × Bool := if goodP s 0 = true then fewV s 0 4 else (0, false)
theorem FewestI (s : ByteArray) : Ev (fun k => impl_FewestRules.f k s) (fewestV s) := by
  unfold fewestV
  by_cases hg : goodP s 0 = true
  · obtain ⟨K3, h3⟩ := implFew_l0 s hg 4 0 (by omega)
    rw [if_pos hg]
    exact ⟨K3, fun k hk => h3 k hk⟩
  · have hf := Bool.eq_false_iff.2 hg
    obtain ⟨K3, h3⟩ := implFew_bad s hf 4 0 (by omega)
    rw [if_neg hg]
    exact ⟨K3, fun k hk => h3 k hk⟩
theorem fewV_le (s : ByteArray) : ∀ (d n q : Nat), n ≤ q → q < n + d → 0 < (answers s q).length → (fewV s n d).2 = true ∧ (fewV s n d).1 ≤ (q : Int)
  | 0, n, q, h0, h1, ha => by omega
  | d + 1, n, q, h0, h1, ha => by
    simp only [fewV]
    by_cases c : 0 < (answers s n).length
    · rw [if_pos c]; exact ⟨rfl, by show (n : Int) ≤ q; omega⟩
    · rw [if_neg c]
      exact fewV_le s d (n + 1) q (by
        by_cases e : n = q
        · subst e; exact absurd ha c
        · omega) (by omega) ha
end Go.Proofs.YtbnmajedmajfoaaGreatDoor.P
namespace Go.Proofs.YtbnmajedmajfoaaGreatDoor.P
open Go.RowKit Go.Proofs.YtbnmajedmajfoaaGreatDoorW.PrintWords Go.Proofs.YtbnmajedmajfoaaGreatDoorW.PrintLast
set_option linter.unusedVariables false
set_option linter.unusedSimpArgs false
theorem gRules_l0 (l : List SRule) (hm : l.length ≤ 1000) : ∀ d i : Nat, i + d = l.length → Ev (fun k => laws_gRules.l0 k l l (l.length : Int) (i : Int)) true
  | 0, i, h => Ev.mk' 0 fun k _ => by
    simp only [laws_gRules.l0]
    rw [if_neg (by omega)]
  | d + 1, i, h => by
    obtain ⟨K, ih⟩ := gRules_l0 l hm d (i + 1) (by omega)
    dsimp only at ih
    refine Ev.mk' K fun k hk => ?_
    simp only [laws_gRules.l0, beq_self_eq_true, Bool.not_true, Bool.or_self, Bool.false_eq_true, if_false]
    rw [if_pos (by omega), if_pos (by omega), if_pos (by omega), wrap_id (by omega) (by omega), show ((i : Int) + 1) = ((i + 1 : Nat) : Int) by omega, ih k hk]
    simp; omega
theorem gRules_ev (l : List SRule) (hm : l.length ≤ 1000) : Ev (fun k => laws_gRules.f k l l) true := by
  obtain ⟨K, h⟩ := gRules_l0 l hm l.length 0 (by omega)
  refine ⟨K, fun k hk => ?_⟩
  simp only [laws_gRules.f]
  rw [if_pos trivial]
  exact h k hk
theorem gAnswers_l0 (L : List (List SRule)) (hm : L.length ≤ 1000) (hr : ∀ l ∈ L, l.length ≤ 1000) : ∀ d i : Nat, i + d = L.length → Ev (fun k => laws_gAnswers.l0 k L L (L.length : Int) (i : Int)) true
  | 0, i, h => Ev.mk' 0 fun k _ => by
    simp only [laws_gAnswers.l0]
    rw [if_neg (by omega)]
  | d + 1, i, h => by
    obtain ⟨K, ih⟩ := gAnswers_l0 L hm hr d (i + 1) (by omega)
    have hmem : rd_Rules L i ∈ L := by
      have e : rd_Rules L (i : Int) = L[i]'(by omega) := by simp [rd_Rules, List.getD, show i < L.length by omega]
      rw [e]; exact List.getElem_mem _
    obtain ⟨K2, h2⟩ := gRules_ev (rd_Rules L i) (hr _ hmem)
    dsimp only at ih h2
    refine Ev.mk' (K + K2) fun k hk => ?_
    simp only [laws_gAnswers.l0, h2 k (by omega), obind, if_true]
    rw [if_pos (by omega), if_pos (by omega), if_pos (by omega), wrap_id (by omega) (by omega), show ((i : Int) + 1) = ((i + 1 : Nat) : Int) by omega, ih k (by omega)]
    simp; omega
theorem gAnswers_ev (L : List (List SRule)) (hm : L.length ≤ 1000) (hr : ∀ l ∈ L, l.length ≤ 1000) : Ev (fun k => laws_gAnswers.f k L L) true := by
  obtain ⟨K, h⟩ := gAnswers_l0 L hm hr L.length 0 (by omega)
  refine ⟨K, fun k hk => ?_⟩
  simp only [laws_gAnswers.f]
  rw [if_pos trivial]
  exact h k hk
theorem gIn_l0 (a : List SRule) (x : SRule) (hm : a.length ≤ 1000) : ∀ (d i k : Nat), i + d = a.length → d < k → laws_gIn.l0 k a a.length i x.f0 x.f1 = some (hasV x (a.drop i))
  | 0, i, k, h, hk => by
    obtain ⟨k, rfl⟩ : ∃ k', k = k' + 1 := ⟨k - 1, by omega⟩
    simp only [laws_gIn.l0]
    rw [if_neg (by omega), List.drop_eq_nil_of_le (by omega)]; rfl
  | d + 1, i, k, h, hk => by
    obtain ⟨k, rfl⟩ : ∃ k', k = k' + 1 := ⟨k - 1, by omega⟩
    have ih := gIn_l0 a x hm d (i + 1) k (by omega) (by omega)
    simp only [laws_gIn.l0]
    rw [if_pos (by omega), if_pos (by omega), if_pos (by omega), wrap_id (by omega) (by omega), show ((i : Int) + 1) = ((i + 1 : Nat) : Int) by omega, ih, rd_drop a i (by omega)]
    unfold hasV
    rw [List.any_cons]
    by_cases c : ((rd_Rule a i).f0 == x.f0 && (rd_Rule a i).f1 == x.f1) = true
    · rw [if_pos c, c]; rfl
    · rw [if_neg c, Bool.eq_false_iff.2 c]; rfl
theorem gIn_ok (a : List SRule) (f0 f1 : Int) (hm : a.length ≤ 1000) (k : Nat) (hk : 1001 ≤ k) : laws_gIn.f k a f0 f1 = some (hasV ⟨f0, f1⟩ a) := by
  have h := gIn_l0 a ⟨f0, f1⟩ hm a.length 0 k (by omega) (by omega)
  rw [List.drop_zero] at h
  exact h
theorem gBefore_ok (a b : SRule) : laws_gRuleBefore.f a.f0 a.f1 b.f0 b.f1 = some (lessR a b) := by
  unfold laws_gRuleBefore.f lessR
  by_cases h : a.f0 < b.f0
  · rw [if_pos h, decide_eq_true h, Bool.true_or]
  · rw [if_neg h, decide_eq_false h, Bool.false_or]
    by_cases e : a.f0 = b.f0
    · rw [if_pos e, beq_iff_eq.2 e, Bool.true_and]
    · rw [if_neg e, beq_eq_false_iff_ne.2 e, Bool.false_and]
theorem hasV_mem {x : SRule} {a : List SRule} (h : x ∈ a) : hasV x a = true := List.any_eq_true.2 ⟨x, h, by simp⟩
end Go.Proofs.YtbnmajedmajfoaaGreatDoor.P
namespace Go.Proofs.YtbnmajedmajfoaaGreatDoor.P
open Go.RowKit Go.Proofs.YtbnmajedmajfoaaGreatDoorW.PrintWords Go.Proofs.YtbnmajedmajfoaaGreatDoorW.PrintLast
set_option linter.unusedVariables false
set_option linter.unusedSimpArgs false
theorem form_or (z : ByteArray) (hz : z.size ≤ 1048576) :
    (∃ b n, PForm z b n ∧ Ev (fun k => spec_ParsePuzzle.f k z) ((⟨b.toArray⟩ : ByteArray), (n : Int), true) ∧ impl_ParsePuzzle.f z = some ((⟨b.toArray⟩ : ByteArray), (n : Int), true)) ∨
    (Ev (fun k => spec_ParsePuzzle.f k z) ((⟨#[]⟩ : ByteArray), (0 : Int), false) ∧ impl_ParsePuzzle.f z = some ((⟨#[]⟩ : ByteArray), (0 : Int), false)) := by
  by_cases h : ∃ b n, PForm z b n
  · obtain ⟨b, n, h⟩ := h
    exact .inl ⟨b, n, h, spec_form h, impl_form h⟩
  · have h2 : ∀ b n, ¬ PForm z b n := fun b n hf => h ⟨b, n, hf⟩
    exact .inr ⟨spec_none hz h2, impl_none hz h2⟩
def isText (s : ByteArray) (n : Int) (x : ByteArray) : Prop := goodP s n = true ∧ x.data.toList = s.data.toList ++ [58, UInt8.ofNat (48 + n.toNat)]
theorem text_good (s : ByteArray) (n : Int) (hg : goodP s n = true) : ∃ x, impl_PuzzleText.f s n = some (x, true) ∧ isText s n x := by
  obtain ⟨x, h1, h2⟩ := text_ok s n hg
  refine ⟨x, ?_, hg, h2⟩
  simp only [impl_PuzzleText.f, isPuzzle_ok, hg, obind, if_true, h1]
theorem j9_ok (R : List SRule) (z t : ByteArray) (m : Int) (hz : z.size ≤ 1048576) : Ev (fun k => laws_FnPatternsAnsweredOfAll.j9 k R z t m) true := by
  obtain ⟨⟨K1, h1⟩, ⟨K2, h2⟩⟩ := IsAnswer_main t m R
  dsimp only at h1 h2
  rcases form_or z hz with ⟨b, n, hf, ⟨K3, h3⟩, h4⟩ | ⟨⟨K3, h3⟩, h4⟩
  · dsimp only at h3
    obtain ⟨x, h5, h6, h7⟩ := text_good ⟨b.toArray⟩ n hf.2.2
    have hx : x = z := by
      refine ByteArray.ext (Array.toList_inj.1 ?_)
      rw [h7, hf.1]; simp
    refine Ev.mk' (K1 + K2 + K3) fun k hk => ?_
    simp (disch := omega) only [laws_FnPatternsAnsweredOfAll.j9, h1, h2, h3, h4, obind, bne_self_eq_false, beq_self_eq_true, Bool.not_true, Bool.or_self, Bool.false_eq_true, if_false, if_true, h5, hx]
  · dsimp only at h3
    refine Ev.mk' (K1 + K2 + K3) fun k hk => ?_
    simp (disch := omega) only [laws_FnPatternsAnsweredOfAll.j9, h1, h2, h3, h4, obind, bne_self_eq_false, beq_self_eq_true, Bool.not_true, Bool.or_self, Bool.false_eq_true, if_false, if_true]
theorem j8_ok (R : List SRule) (z t : ByteArray) (m : Int) (hz : z.size ≤ 1048576) (s : ByteArray) (n : Int) (x : ByteArray) (e : Bool) (he : e = true → isText s n x) : Ev (fun k => laws_FnPatternsAnsweredOfAll.j8 k R z x e false s n t m) true := by
  obtain ⟨K, hk⟩ := j9_ok R z t m hz
  dsimp only at hk
  cases e with
  | false =>
    refine Ev.mk' K fun k hk' => ?_
    simp only [laws_FnPatternsAnsweredOfAll.j8, Bool.false_eq_true, if_false, hk k hk']
  | true =>
    obtain ⟨hg, hx⟩ := he rfl
    obtain ⟨g1, g2, g3, g4, g5⟩ := good_parts hg
    have hf : PForm x s.data.toList n.toNat := ⟨hx, by omega, by rw [show ((n.toNat : Nat) : Int) = n by omega]; exact hg⟩
    have h4 := impl_form hf
    have hs : (⟨s.data.toList.toArray⟩ : ByteArray) = s := rfl
    rw [show ((n.toNat : Nat) : Int) = n by omega] at h4
    refine Ev.mk' K fun k hk' => ?_
    simp only [laws_FnPatternsAnsweredOfAll.j8, Bool.false_eq_true, if_false, if_true, h4, obind, hk k hk']
    simp
def hinted (s : ByteArray) (x : Int) (f0 f1 : Int) : Prop := ∃ i : Nat, x = (i : Int) + 1 ∧ i < s.size ∧ s.size ≤ 48 ∧ bt s i = 120 ∧ hintRules s i = [(⟨f0, f1⟩ : SRule)]
theorem hintV_hinted (s : ByteArray) (hz : s.size ≤ 48) : ∀ d i : Nat, i + d = s.size → (hintV s i d).2.2.2 = true → hinted s (hintV s i d).1 (hintV s i d).2.1 (hintV s i d).2.2.1
  | 0, i, h, ht => by simp [hintV] at ht
  | d + 1, i, h, ht => by
    simp only [hintV] at ht ⊢
    by_cases c : bt s i = 120 ∧ (hintRules s i).length = 1
    · rw [if_pos c]
      refine ⟨i, rfl, by omega, hz, c.1, ?_⟩
      match hr : hintRules s i, c.2 with
      | [r], _ => simp [rd_Rule]
    · rw [if_neg c] at ht ⊢
      exact hintV_hinted s hz d (i + 1) (by omega) ht
theorem hinted_fit {s : ByteArray} {x f0 f1 : Int} (h : hinted s x f0 f1) : (⟨f0, f1⟩ : SRule) ∈ fitOf s := by
  obtain ⟨i, -, -, -, -, h⟩ := h
  have : (⟨f0, f1⟩ : SRule) ∈ hintRules s i := by rw [h]; exact List.mem_cons_self
  exact (List.mem_filter.1 this).1
theorem hinted_answer {s : ByteArray} {n x f0 f1 : Int} (h : hinted s x f0 f1) (hg : goodP s n = true) (l : List SRule) (hl : l ∈ answers s n.toNat) : (⟨f0, f1⟩ : SRule) ∈ l := by
  obtain ⟨i, -, hi, -, hb, h⟩ := h
  obtain ⟨a1, a2, a3, a4, a5, a6, a7⟩ := answer_facts s n hg l hl
  have hl := agD_at s l s.size 0 (by omega) a6 i (Nat.zero_le _) hi (by omega)
  rw [hb] at hl
  obtain ⟨r, hr, hc⟩ := struck_by l _ hl
  have hm : r ∈ hintRules s i := List.mem_filter.2 ⟨a3 r hr, hc⟩
  rw [h, List.mem_singleton] at hm
  rw [← hm]; exact hr
theorem j7_ok (R : List SRule) (z t : ByteArray) (m : Int) (hz : z.size ≤ 1048576) (s : ByteArray) (n : Int) (x : ByteArray) (e : Bool) (he : e = true → isText s n x) (y f0 f1 : Int) (b : Bool) (fit : List SRule) (hb : b = true → hinted s y f0 f1 ∧ fit = fitOf s) : Ev (fun k => laws_FnPatternsAnsweredOfAll.j7 k R z fit y b x e s n t m f0 f1) true := by
  obtain ⟨K, hk⟩ := j8_ok R z t m hz s n x e he
  dsimp only at hk
  cases b with
  | false =>
    refine Ev.mk' K fun k hk' => ?_
    simp only [laws_FnPatternsAnsweredOfAll.j7, Bool.false_eq_true, if_false, hk k hk']
  | true =>
    obtain ⟨hh, rfl⟩ := hb rfl
    have hf := hasV_mem (hinted_fit hh)
    obtain ⟨i, rfl, hi, hz2, hbt, -⟩ := hh
    have hl := fitOf_length s
    refine Ev.mk' (K + 1001) fun k hk' => ?_
    simp only [laws_FnPatternsAnsweredOfAll.j7, if_true]
    rw [wrap_id (by omega) (by omega), show ((i : Int) + 1 - 1) = (i : Int) by omega, if_pos (by omega), if_pos (by omega), if_pos hbt, gIn_ok _ _ _ (by omega) k (by omega), obind, hf, Bool.not_true, hk k (by omega)]
theorem l3_ok (R : List SRule) (z t : ByteArray) (m : Int) (s : ByteArray) (n cnt : Int) (x : ByteArray) (e : Bool) (y f0 f1 : Int) (b : Bool) (fit sure rules : List SRule) (A : List (List SRule)) (ca i : Int) (hm : rules.length ≤ 1000) (hs : sure.length ≤ 1000)
    (h1 : ∀ r ∈ sure, hasV r rules = true) (h2 : b = true → hasV ⟨f0, f1⟩ rules = true) (hc : Ev (fun k => laws_FnPatternsAnsweredOfAll.l0 k R z cnt sure fit y b x e A ca (wrap64 (i + 1)) s n t m f0 f1) true) :
    ∀ d j : Nat, j + d = sure.length → Ev (fun k => laws_FnPatternsAnsweredOfAll.l3 k R z cnt sure fit y b x e rules A ca i sure (sure.length : Int) (j : Int) s n t m f0 f1) true
  | 0, j, h => by
    obtain ⟨K, hk⟩ := hc
    dsimp only at hk
    refine Ev.mk' (K + 1001) fun k hk' => ?_
    simp only [laws_FnPatternsAnsweredOfAll.l3]
    rw [if_neg (by omega)]
    cases b with
    | false => simp only [Bool.false_eq_true, if_false, hk k (by omega)]
    | true => rw [if_pos rfl, gIn_ok _ _ _ hm k (by omega), obind, h2 rfl, if_pos rfl, hk k (by omega)]
  | d + 1, j, h => by
    obtain ⟨K, hk⟩ := l3_ok R z t m s n cnt x e y f0 f1 b fit sure rules A ca i hm hs h1 h2 hc d (j + 1) (by omega)
    dsimp only at hk
    have hr : hasV (rd_Rule sure j) rules = true := h1 _ (rd_mem sure j (by omega))
    refine Ev.mk' (K + 1001) fun k hk' => ?_
    simp only [laws_FnPatternsAnsweredOfAll.l3]
    rw [if_pos (by omega), if_pos (by omega), if_pos (by omega), gIn_ok _ _ _ hm k (by omega), obind, hr, if_pos rfl, wrap_id (by omega) (by omega), show ((j : Int) + 1) = ((j + 1 : Nat) : Int) by omega, hk k (by omega)]
theorem l2_ok (R : List SRule) (z t : ByteArray) (m : Int) (s : ByteArray) (n cnt : Int) (x : ByteArray) (e : Bool) (y f0 f1 : Int) (b : Bool) (fit sure rules : List SRule) (A : List (List SRule)) (ca i : Int) (hm : rules.length ≤ 1000) (hf : fit.length ≤ 1000)
    (h1 : ∀ r ∈ rules, r ∈ fit) (h2 : rules.Pairwise (fun a b => lessR a b = true)) (hc : Ev (fun k => laws_FnPatternsAnsweredOfAll.l3 k R z cnt sure fit y b x e rules A ca i sure (sure.length : Int) 0 s n t m f0 f1) true) :
    ∀ d j : Nat, j + d = rules.length → Ev (fun k => laws_FnPatternsAnsweredOfAll.l2 k R z cnt sure fit y b x e rules A ca i rules (rules.length : Int) (j : Int) s n t m f0 f1) true
  | 0, j, h => by
    obtain ⟨K, hk⟩ := hc
    dsimp only at hk
    refine Ev.mk' K fun k hk' => ?_
    simp only [laws_FnPatternsAnsweredOfAll.l2]
    rw [if_neg (by omega), hk k hk']
  | d + 1, j, h => by
    obtain ⟨K, hk⟩ := l2_ok R z t m s n cnt x e y f0 f1 b fit sure rules A ca i hm hf h1 h2 hc d (j + 1) (by omega)
    dsimp only at hk
    have hr : hasV (rd_Rule rules j) fit = true := hasV_mem (h1 _ (rd_mem rules j (by omega)))
    refine Ev.mk' (K + 1001) fun k hk' => ?_
    simp only [laws_FnPatternsAnsweredOfAll.l2]
    have hw : wrap64 ((j : Int) + 1) = ((j + 1 : Nat) : Int) := wrap_id (by omega) (by omega)
    have hg : laws_gIn.f k fit (rd_Rule rules j).f0 (rd_Rule rules j).f1 = some true := by rw [gIn_ok _ _ _ hf k (by omega)]; exact congrArg some hr
    rw [if_pos (by omega), if_pos (by omega), if_pos (by omega), hg, hw]
    by_cases c : j = 0
    · rw [if_neg (by omega), obind, if_pos rfl, hk k (by omega)]
    · have e1 : rd_Rule rules (j : Int) = rules[j]'(by omega) := by simp [rd_Rule, List.getD, show j < rules.length by omega]
      have e2 : rd_Rule rules ((j : Int) - 1) = rules[j - 1]'(by omega) := by
        rw [show (j : Int) - 1 = ((j - 1 : Nat) : Int) by omega]
        simp [rd_Rule, List.getD, show j - 1 < rules.length by omega]
      have hl : lessR (rd_Rule rules ((j : Int) - 1)) (rd_Rule rules (j : Int)) = true := by
        rw [e1, e2]; exact List.pairwise_iff_getElem.1 h2 (j - 1) j (by omega) (by omega) (by omega)
      rw [if_pos (by omega), wrap_id (n := (j : Int) - 1) (by omega) (by omega), if_pos (by omega), if_pos (by omega), gBefore_ok, obind, hl, if_pos rfl, obind, if_pos rfl, hk k (by omega)]
theorem l1_ok (R : List SRule) (z t : ByteArray) (m : Int) (s : ByteArray) (n cnt : Int) (x : ByteArray) (e : Bool) (y f0 f1 : Int) (b : Bool) (fit sure rules : List SRule) (A : List (List SRule)) (ca i : Int) (pt : ByteArray) (hp : pt.size = s.size)
    (h1 : ∀ i : Nat, i < s.size → bt pt i < 128 ∧ (bt s i = 63 ∨ bt s i = bt pt i)) (hc : Ev (fun k => laws_FnPatternsAnsweredOfAll.l2 k R z cnt sure fit y b x e rules A ca i rules (rules.length : Int) 0 s n t m f0 f1) true) :
    ∀ d j : Nat, j + d = s.size → Ev (fun k => laws_FnPatternsAnsweredOfAll.l1 k R z cnt sure fit y b x e rules pt A ca i (pt.size : Int) (j : Int) s n t m f0 f1) true
  | 0, j, h => by
    obtain ⟨K, hk⟩ := hc
    dsimp only at hk
    refine Ev.mk' K fun k hk' => ?_
    simp only [laws_FnPatternsAnsweredOfAll.l1]
    rw [if_neg (by omega), hk k hk']
  | d + 1, j, h => by
    obtain ⟨K, hk⟩ := l1_ok R z t m s n cnt x e y f0 f1 b fit sure rules A ca i pt hp h1 hc d (j + 1) (by omega)
    dsimp only at hk
    obtain ⟨a1, a2⟩ := h1 j (by omega)
    refine Ev.mk' K fun k hk' => ?_
    simp only [laws_FnPatternsAnsweredOfAll.l1]
    rw [if_pos (by omega), if_pos a1, if_pos (by omega), if_pos (by omega), show ((j : Int) + 1) = ((j + 1 : Nat) : Int) by omega, hk k hk']
    by_cases c : bt s j = 63
    · rw [if_pos c]
    · rw [if_neg c, if_pos (by omega), if_pos (a2.resolve_left c)]
theorem pat_same (s : ByteArray) (n : Int) (hg : goodP s n = true) (l : List SRule) (hl : l ∈ answers s n.toNat) : (pat l (s.size : Int)).size = s.size ∧ ∀ i : Nat, i < s.size → bt (pat l (s.size : Int)) i < 128 ∧ (bt s i = 63 ∨ bt s i = bt (pat l (s.size : Int)) i) := by
  obtain ⟨g1, g2, g3, g4, g5⟩ := good_parts hg
  obtain ⟨a1, a2, a3, a4, a5, a6, a7⟩ := answer_facts s n hg l hl
  refine ⟨by rw [pat_size]; omega, fun i hi => ?_⟩
  rw [pat_bt l (s.size : Int) i (by omega)]
  refine ⟨by split <;> omega, ?_⟩
  by_cases c : bt s i = 63
  · exact .inl c
  · right
    have h := agD_at s l s.size 0 (by omega) a6 i (Nat.zero_le _) hi c
    rw [h]
    rcases sign_bt g3 i hi with hb | hb | hb <;> rw [hb] <;> simp
    exact absurd hb c
theorem l0_ok (R : List SRule) (z t : ByteArray) (m : Int) (hz : z.size ≤ 1048576) (s : ByteArray) (n : Int) (hg : goodP s n = true) (hA : (answers s n.toNat).length ≤ 300) (x : ByteArray) (e : Bool) (he : e = true → isText s n x) (y f0 f1 : Int) (b : Bool) (hb : b = true → hinted s y f0 f1) (sure : List SRule) (hl : sure.length ≤ 1000) (hs : ∀ r ∈ sure, ∀ a ∈ answers s n.toNat, hasV r a = true) :
    ∀ d i : Nat, i + d = (answers s n.toNat).length → Ev (fun k => laws_FnPatternsAnsweredOfAll.l0 k R z ((answers s n.toNat).length : Int) sure (fitOf s) y b x e (answers s n.toNat) ((answers s n.toNat).length : Int) (i : Int) s n t m f0 f1) true
  | 0, i, h => by
    obtain ⟨K1, h1⟩ := j7_ok R z t m hz s n x e he y f0 f1 b (fitOf s) (fun h => ⟨hb h, rfl⟩)
    obtain ⟨K2, h2⟩ := FewestI s
    dsimp only at h1 h2
    refine Ev.mk' (K1 + K2) fun k hk' => ?_
    simp only [laws_FnPatternsAnsweredOfAll.l0]
    rw [if_neg (by omega), h2 k (by omega), obind, h1 k (by omega)]
    by_cases c : ((answers s n.toNat).length : Int) > 0
    · obtain ⟨g1, g2, g3, g4, g5⟩ := good_parts hg
      have hw := fewV_le s 4 0 n.toNat (by omega) (by omega) (by omega)
      have hf : fewestV s = fewV s 0 4 := by
        unfold fewestV
        rw [if_pos (by have := goodP_n s n.toNat (by omega); rw [show ((n.toNat : Nat) : Int) = n by omega, hg] at this; exact this.symm)]
      rw [if_pos c, hf, if_pos hw.1, if_neg (by have := hw.2; omega)]
    · rw [if_neg c]
  | d + 1, i, h => by
    have hc := l0_ok R z t m hz s n hg hA x e he y f0 f1 b hb sure hl hs d (i + 1) (by omega)
    have hmem : rd_Rules (answers s n.toNat) (i : Int) ∈ answers s n.toNat := by
      have e : rd_Rules (answers s n.toNat) (i : Int) = (answers s n.toNat)[i]'(by omega) := by simp [rd_Rules, List.getD, show i < (answers s n.toNat).length by omega]
      rw [e]; exact List.getElem_mem _
    obtain ⟨g1, g2, g3, g4, g5⟩ := good_parts hg
    have hV := ansVal_answer s n hg _ hmem
    obtain ⟨a1, a2, a3, a4, a5, a6, a7⟩ := answer_facts s n hg _ hmem
    obtain ⟨p1, p2⟩ := pat_same s n hg _ hmem
    have hs' : ∀ r ∈ sure, hasV r (rd_Rules (answers s n.toNat) (i : Int)) = true := fun r hr => hs r hr _ hmem
    have hb' : b = true → hasV ⟨f0, f1⟩ (rd_Rules (answers s n.toNat) (i : Int)) = true := fun h => hasV_mem (hinted_answer (hb h) hg _ hmem)
    obtain ⟨rules, hrl⟩ : ∃ r, r = rd_Rules (answers s n.toNat) (i : Int) := ⟨_, rfl⟩
    rw [← hrl] at hmem hV a1 a2 a3 a4 a5 a6 a7 p1 p2 hs' hb'
    obtain ⟨-, ⟨K1, h1⟩⟩ := IsAnswer_main s n rules
    obtain ⟨K2, h2⟩ := PatternI rules (s.size : Int)
    have hv : patVal rules (s.size : Int) = (pat rules (s.size : Int), true) := by unfold patVal; rw [if_pos ⟨a7, by omega, by omega⟩]
    rw [hV] at h1
    rw [hv] at h2
    have hfl := fitOf_length s
    rw [show ((i + 1 : Nat) : Int) = wrap64 ((i : Int) + 1) from (wrap_id (by omega) (by omega)).symm] at hc
    have q3 := l3_ok R z t m s n ((answers s n.toNat).length : Int) x e y f0 f1 b (fitOf s) sure rules (answers s n.toNat) ((answers s n.toNat).length : Int) (i : Int) (by omega) hl hs' hb' hc sure.length 0 (by omega)
    have q2 := l2_ok R z t m s n ((answers s n.toNat).length : Int) x e y f0 f1 b (fitOf s) sure rules (answers s n.toNat) ((answers s n.toNat).length : Int) (i : Int) (by omega) (by omega) a3 a5 q3 rules.length 0 (by omega)
    obtain ⟨K3, h3⟩ := l1_ok R z t m s n ((answers s n.toNat).length : Int) x e y f0 f1 b (fitOf s) sure rules (answers s n.toNat) ((answers s n.toNat).length : Int) (i : Int) (pat rules (s.size : Int)) p1 p2 q2 s.size 0 (by omega)
    have h3 : ∀ k, K3 ≤ k → laws_FnPatternsAnsweredOfAll.l1 k R z ((answers s n.toNat).length : Int) sure (fitOf s) y b x e rules (pat rules (s.size : Int)) (answers s n.toNat) ((answers s n.toNat).length : Int) (i : Int) ((pat rules (s.size : Int)).size : Int) 0 s n t m f0 f1 = some true := h3
    dsimp only at h1 h2
    refine Ev.mk' (K1 + K2 + K3) fun k hk' => ?_
    simp only [laws_FnPatternsAnsweredOfAll.l0]
    rw [if_pos (by omega), if_pos (by omega), if_pos (by omega), ← hrl, h1 k (by omega), obind, h2 k (by omega), obind]
    dsimp only
    rw [if_pos rfl, if_pos rfl, if_pos a1, if_pos rfl, h3 k (by omega)]
theorem main_ok (R : List SRule) (z t : ByteArray) (m : Int) (hz : z.size ≤ 1048576) (s : ByteArray) (n : Int) : Ev (fun k => laws_FnPatternsAnsweredOfAll.j0 k R z false s n t m) true := by
  obtain ⟨K1, h1⟩ := answersOf_ev s n
  obtain ⟨K2, h2⟩ := pzAnswers_ev s n
  obtain ⟨⟨K3, h3⟩, ⟨K4, h4⟩⟩ := FirstAnswer_main s n
  obtain ⟨⟨K5, h5⟩, ⟨K6, h6⟩⟩ := SureRules_main s n
  obtain ⟨⟨K7, h7⟩, ⟨K8, h8⟩⟩ := RulesThatFit_main s n
  obtain ⟨⟨K9, h9⟩, ⟨K10, h10⟩⟩ := Hint_main s n
  obtain ⟨v, ⟨K11, h11⟩, h12⟩ := PuzzleText_main s n
  obtain ⟨K12, h13⟩ := pzGood_ev s n
  have hal := ansV_length s n
  have ham := ansV_mem s n
  have hfl := firstV_length s n
  have hsl := sureV_length s n
  have hil := fitVal_length s n
  obtain ⟨K13, g1⟩ := gAnswers_ev (ansV s n).1 (by omega) (fun l hl => by have := ham l hl; omega)
  obtain ⟨K14, g2⟩ := gRules_ev (firstV s n).1 (by omega)
  obtain ⟨K15, g3⟩ := gRules_ev (sureV s n).1 (by omega)
  obtain ⟨K16, g4⟩ := gRules_ev (fitVal s n).1 (by omega)
  dsimp only at h1 h2 h3 h4 h5 h6 h7 h8 h9 h10 h11 h13 g1 g2 g3 g4
  have hv : v.2 = goodP s n ∧ (v.2 = true → isText s n v.1) := by
    by_cases hg : goodP s n = true
    · obtain ⟨x, e1, e2⟩ := text_good s n hg
      rw [h12] at e1
      obtain rfl := Option.some.inj e1
      exact ⟨hg.symm, fun _ => e2⟩
    · have hf := Bool.eq_false_iff.2 hg
      simp only [impl_PuzzleText.f, isPuzzle_ok, hf, obind, Bool.false_eq_true, if_false] at h12
      obtain rfl := Option.some.inj h12
      exact ⟨hf.symm, fun h => by simp at h⟩
  have hfit2 : (fitVal s n).2 = goodP s n := by unfold fitVal; split <;> simp_all
  have hsure2 : (sureV s n).2 = (firstV s n).2 := by
    unfold sureV firstV
    by_cases c : (ansV s n).2 = true ∧ (ansV s n).1 ≠ []
    · rw [if_pos c, if_pos ⟨c.1, fun h => c.2 (List.length_eq_zero_iff.1 h)⟩]
    · rw [if_neg c, if_neg (fun h => c ⟨h.1, fun e => h.2 (by rw [e]; rfl)⟩)]
  have hint2 : (hintAll s n).2.2.2 = true → hinted s (hintAll s n).1 (hintAll s n).2.1 (hintAll s n).2.2.1 ∧ (fitVal s n).1 = fitOf s := by
    intro h
    unfold hintAll at h ⊢
    by_cases hg : goodP s n = true
    · obtain ⟨q1, q2, q3, q4, q5⟩ := good_parts hg
      rw [if_pos hg] at h ⊢
      exact ⟨hintV_hinted s q2 s.size 0 (by omega) h, by unfold fitVal; rw [if_pos hg]⟩
    · rw [if_neg hg] at h; simp at h
  have hj1 : Ev (fun k => laws_FnPatternsAnsweredOfAll.j1 k R z (ansV s n).1 (ansV s n).2 ((ansV s n).1.length : Int) (firstV s n).1 (firstV s n).2 (sureV s n).1 (fitVal s n).1 (hintAll s n).1 (hintAll s n).2.2.2 v.1 v.2 false s n t m (hintAll s n).2.1 (hintAll s n).2.2.1) true := by
    cases hok : (ansV s n).2 with
    | false =>
      obtain ⟨K, hk⟩ := j7_ok R z t m hz s n v.1 v.2 hv.2 (hintAll s n).1 (hintAll s n).2.1 (hintAll s n).2.2.1 (hintAll s n).2.2.2 (fitVal s n).1 hint2
      dsimp only at hk
      refine Ev.mk' K fun k hk' => ?_
      simp only [laws_FnPatternsAnsweredOfAll.j1, Bool.false_eq_true, if_false, hk k hk']
    | true =>
      have hA : goodP s n = true ∧ (answers s n.toNat).length ≤ 300 ∧ (ansV s n).1 = answers s n.toNat := by
        unfold ansV at hok ⊢
        by_cases c : goodP s n = true ∧ (answers s n.toNat).length ≤ 300
        · rw [if_pos c]; exact ⟨c.1, c.2, rfl⟩
        · rw [if_neg c] at hok; simp at hok
      obtain ⟨hg, hA1, hA2⟩ := hA
      have hfo : (fitVal s n).1 = fitOf s := by unfold fitVal; rw [if_pos hg]
      have hs : ∀ r ∈ (sureV s n).1, ∀ a ∈ answers s n.toNat, hasV r a = true := by
        intro r hr a ha
        unfold sureV at hr
        split at hr
        · rw [← hA2] at ha
          exact List.all_eq_true.1 (List.mem_filter.1 hr).2 a ha
        · simp at hr
      obtain ⟨K, hk⟩ := l0_ok R z t m hz s n hg hA1 v.1 v.2 hv.2 (hintAll s n).1 (hintAll s n).2.1 (hintAll s n).2.2.1 (hintAll s n).2.2.2 (fun h => (hint2 h).1) (sureV s n).1 (by omega) hs (answers s n.toNat).length 0 (by omega)
      have hk : ∀ k, K ≤ k → laws_FnPatternsAnsweredOfAll.l0 k R z ((answers s n.toNat).length : Int) (sureV s n).1 (fitOf s) (hintAll s n).1 (hintAll s n).2.2.2 v.1 v.2 (answers s n.toNat) ((answers s n.toNat).length : Int) 0 s n t m (hintAll s n).2.1 (hintAll s n).2.2.1 = some true := hk
      have h1st : (firstV s n).2 = true → (firstV s n).1 = rd_Rules (answers s n.toNat) 0 ∧ 0 < (answers s n.toNat).length := by
        intro h
        unfold firstV at h ⊢
        by_cases c : (ansV s n).2 = true ∧ (ansV s n).1 ≠ []
        · rw [if_pos c, hA2]
          have := c.2
          rw [hA2] at this
          exact ⟨rfl, List.length_pos_iff.2 this⟩
        · rw [if_neg c] at h; simp at h
      rw [hA2, hfo]
      refine ⟨K + K14 + 2, fun k hk' => ?_⟩
      obtain ⟨k, rfl⟩ : ∃ j, k = j + 2 := ⟨k - 2, by omega⟩
      simp only [laws_FnPatternsAnsweredOfAll.j1, Bool.false_eq_true, if_false, if_true]
      cases h3b : (firstV s n).2 with
      | true =>
        obtain ⟨f1, f2⟩ := h1st h3b
        rw [f1] at g2 ⊢
        rw [if_pos rfl, if_pos (by omega), g2 _ (by omega), obind]
        simp only [laws_FnPatternsAnsweredOfAll.j2, Bool.not_true, Bool.false_eq_true, if_false, hk k (by omega)]
      | false =>
        simp only [laws_FnPatternsAnsweredOfAll.j2, Bool.false_eq_true, if_false, hk k (by omega)]
  obtain ⟨K17, g5⟩ := hj1
  dsimp only at g5
  refine Ev.mk' (K1 + K2 + K3 + K4 + K5 + K6 + K7 + K8 + K9 + K10 + K11 + K12 + K13 + K14 + K15 + K16 + K17) fun k hk' => ?_
  have e1 : impl_Answers.f k s n = some (ansV s n) := by simp only [impl_Answers.f, h1 k (by omega), obind]
  have e2 : spec_Answers.f k s n = some (ansV s n) := by simp only [spec_Answers.f, h2 k (by omega), obind]
  have e3 : impl_CountAnswers.f k s n = some (((ansV s n).1.length : Int), (ansV s n).2) := by simp only [impl_CountAnswers.f, h1 k (by omega), obind]
  have e4 : spec_CountAnswers.f k s n = some (((ansV s n).1.length : Int), (ansV s n).2) := by simp only [spec_CountAnswers.f, h2 k (by omega), obind]
  have e5 : impl_IsPuzzle.f s n = some (goodP s n) := by simp only [impl_IsPuzzle.f, isPuzzle_ok, obind]
  have e6 : spec_IsPuzzle.f k s n = some (goodP s n) := by simp only [spec_IsPuzzle.f, h13 k (by omega), obind]
  simp only [laws_FnPatternsAnsweredOfAll.j0, Bool.false_eq_true, if_false]
  rw [e1, obind, e2, obind, e3, obind, e4, obind, h4 k (by omega), obind, h3 k (by omega), obind, h6 k (by omega), obind, h5 k (by omega), obind, h8 k (by omega), obind, h7 k (by omega), obind, h10 k (by omega), obind, h9 k (by omega), obind, h12, obind, h11 k (by omega), obind]
  dsimp only
  rw [g1 k (by omega), obind, g2 k (by omega), obind, g3 k (by omega), obind, g4 k (by omega), obind, e5, obind, obind, e6, obind]
  simp (config := { maxSteps := 400000 }) only [bne_self_eq_false, beq_self_eq_true, Bool.not_true, Bool.or_self, Bool.false_eq_true, if_false, if_true, hfit2, hsure2, hv.1]
  cases hok : (ansV s n).2 with
  | false =>
    have hf2 : (firstV s n).2 = false := by unfold firstV; rw [if_neg (by simp [hok])]
    rw [hok] at g5
    simp (disch := omega) only [hf2, obind, bne_self_eq_false, Bool.false_eq_true, if_false]
    have g6 := g5 k (by omega)
    rw [hf2, hv.1] at g6
    exact g6
  | true =>
    have hgd : goodP s n = true := by
      unfold ansV at hok
      by_cases c : goodP s n = true ∧ (answers s n.toNat).length ≤ 300
      · exact c.1
      · rw [if_neg c] at hok; simp at hok
    have hf2 : (firstV s n).2 = decide (((ansV s n).1.length : Int) > 0) := by
      unfold firstV
      by_cases c : (ansV s n).1 = []
      · rw [if_neg (by simp [c]), c]; simp
      · have := List.length_pos_iff.2 c
        rw [if_pos ⟨hok, c⟩, decide_eq_true (by omega)]
    rw [hok] at g5
    have g6 := g5 k (by omega)
    rw [hv.1] at g6
    simp (disch := omega) only [← hf2, bne_self_eq_false, Bool.false_eq_true, if_false, if_true, hgd, Bool.not_true]
    rw [hgd] at g6
    exact g6
theorem FnPatternsAnsweredOfAll : laws_FnPatternsAnsweredOfAll.Pure := by
  intro s n t m R z w0 w1 w2 w3 w4 w5
  by_cases c1 : (R.length : Int) > 10000
  · refine ⟨1, ?_⟩
    simp only [laws_FnPatternsAnsweredOfAll.f]
    rw [if_pos c1]; simp only [laws_FnPatternsAnsweredOfAll.j0, if_true]
  · by_cases c2 : (z.size : Int) > 1048576
    · refine ⟨1, ?_⟩
      simp only [laws_FnPatternsAnsweredOfAll.f]
      rw [if_neg c1, decide_eq_true c2]; simp only [laws_FnPatternsAnsweredOfAll.j0, if_true]
    · obtain ⟨K, hk⟩ := main_ok R z t m (by omega) s n
      refine ⟨K, ?_⟩
      simp only [laws_FnPatternsAnsweredOfAll.f]
      rw [if_neg c1, decide_eq_false c2]
      exact hk K (Nat.le_refl _)
end Go.Proofs.YtbnmajedmajfoaaGreatDoor.P
