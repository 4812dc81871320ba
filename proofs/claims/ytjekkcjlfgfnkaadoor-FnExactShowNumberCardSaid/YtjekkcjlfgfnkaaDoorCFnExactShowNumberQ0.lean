/- The plain laws on what the functions answer; the last one: the law FnExactShowNumber answers true for all arguments. Proved in this text: its theorems. Conditions: as each theorem states them. -/
import Derived.Test.YtjekkcjlfgfnkaaDoorCFnExactShowNumberP
import Derived.Test.YtjekkcjlfgfnkaaDoorCFnExactShowNumberF0
import Derived.Test.YtjekkcjlfgfnkaaDoorCFnExactShowNumberF1
import Derived.Deep.Slices
import Derived.Deep.Fields
import Derived.ChangeSame
import Derived.ChangeSlices
import Derived.Lib.SmallJoins
import Derived.ProofKit
import Derived.OpenShut
import Derived.ShutString
import Derived.ChangeOld
import Derived.SizedLaws
namespace Go.Proofs.YtjekkcjlfgfnkaaDoor.P
open Go.RowKit Go.Proofs.YtjekkcjlfgfnkaaDoorW.PrintWords Go.Proofs.YtjekkcjlfgfnkaaDoorW.PrintLast
set_option linter.unusedVariables false
set_option linter.unusedSimpArgs false
section
open Go.ChangeShapes Go.WideShapes Go.Deep Go.ChangeAt
variable {H : Type} {enc : TypeId × Value → H} {P : Program} {w : World} {base : Nat} {spare : Nat → Bool} {held : Bool}
theorem open_pairs {t e : TypeId} {f0 f1 : Field} {fuel : Nat} {v : Value} {x : DataW H × List MemPlace} (ht : P.underlying t = some (.slice e)) (he : P.underlying e = some (.struct #[f0, f1]))
    (hone : oneCellFields P #[f0, f1] = true) (hC : P.cellsOf e = 2) (h0 : P.underlying f0.type = some (.int .i64)) (h1 : P.underlying f1.type = some (.int .i64)) (h : DataW.trod enc P w base spare held fuel t [v] = some x) :
    ∃ (a : Option Addr) (len cap : Nat) (l : List (Int × Int)), v = .slice a len cap ∧ len = l.length ∧ len ≤ cap ∧ l.length ≤ 9223372036854775807 ∧ (∀ p ∈ l, (Lit.int .i64 p.1).wf = true ∧ (Lit.int .i64 p.2).wf = true) ∧
      (0 < l.length → ∃ ad, a = some ad ∧ ∀ j p, l[j]? = some p → w.cell? (ad.add (j * 2)) = some (.int .i64 p.1) ∧ w.cell? (ad.add (j * 2 + 1)) = some (.int .i64 p.2)) := by
  rcases open_slice ht h with ⟨hcs, -⟩ | ⟨a, len, cap, m, n, D, Pl, hcs, hb, hl, hm, hmm, hx, hi⟩
  · simp at hcs
    exact ⟨none, 0, 0, [], hcs, rfl, Nat.le_refl _, by simp, by simp, by simp⟩
  · simp at hcs
    have hlm : len ≤ m := by rw [hmm]; split <;> omega
    have hget : ∀ i, i < len → ∃ p : Int × Int, w.cell? (a.add (i * 2)) = some (.int .i64 p.1) ∧ w.cell? (a.add (i * 2 + 1)) = some (.int .i64 p.2) ∧ (Lit.int .i64 p.1).wf = true ∧ (Lit.int .i64 p.2).wf = true := by
      intro i him
      obtain ⟨cs', hc, ht'⟩ := hi i (by omega)
      rw [hC] at hc
      obtain ⟨y0, y1, n', hy, -, t0, t1⟩ := trod_struct2 he ht'
      obtain ⟨_, hcl, hat⟩ := World.cells?_some hc
      obtain ⟨o0, k0⟩ := hone_of hone 0 f0 rfl
      obtain ⟨o1, k1⟩ := hone_of hone 1 f1 rfl
      have c0 := hat (i := 0) (by omega)
      have c1 := hat (i := 1) (by omega)
      match cs', hcl with
      | [u0, u1], _ =>
        simp only [o0, k0, List.drop_zero, List.take_succ_cons, List.take_zero] at t0
        simp only [o1, k1, List.drop_succ_cons, List.drop_zero, List.take_succ_cons, List.take_zero] at t1
        obtain ⟨z0, e0, -, w0⟩ := DataW.trod_int h0 t0
        obtain ⟨z1, e1, -, w1⟩ := DataW.trod_int h1 t1
        simp at e0 e1
        subst e0 e1
        refine ⟨(z0, z1), ?_, ?_, w0, w1⟩
        · simpa [Go.Deep.add_add] using c0
        · simpa [Go.Deep.add_add] using c1
    let g : Nat → Int × Int := fun i => if hi : i < len then (hget i hi).choose else (0, 0)
    have hg : ∀ i, i < len → w.cell? (a.add (i * 2)) = some (.int .i64 (g i).1) ∧ w.cell? (a.add (i * 2 + 1)) = some (.int .i64 (g i).2) ∧ (Lit.int .i64 (g i).1).wf = true ∧ (Lit.int .i64 (g i).2).wf = true := by
      intro i hi
      have := (hget i hi).choose_spec
      simpa [g, hi] using this
    refine ⟨some a, len, cap, (List.range len).map g, hcs, by simp, hl, by simp; unfold maxLen at hm; omega, ?_, ?_⟩
    · intro p hp
      simp at hp
      obtain ⟨i, hi, rfl⟩ := hp
      exact ⟨(hg i hi).2.2.1, (hg i hi).2.2.2⟩
    · intro _
      refine ⟨a, rfl, fun j p hj => ?_⟩
      simp [List.getElem?_map] at hj
      obtain ⟨i, hij, rfl⟩ := hj
      have hjl : j < len := by
        have := (List.getElem?_eq_some_iff.1 hij).1
        simpa using this
      have : i = j := by
        have := List.getElem?_range hjl
        rw [this] at hij
        simpa using hij.symm
      subst this
      exact ⟨(hg i hjl).1, (hg i hjl).2.1⟩
theorem open_nums {t e : TypeId} {k : IntKind} {fuel : Nat} {v : Value} {x : DataW H × List MemPlace} (ht : P.underlying t = some (.slice e)) (he : P.underlying e = some (.int k)) (hc : P.cellsOf e = 1)
    (h : DataW.trod enc P w base spare held fuel t [v] = some x) :
    ∃ (a : Option Addr) (len cap : Nat) (l : List Int), v = .slice a len cap ∧ len = l.length ∧ len ≤ cap ∧ l.length ≤ 9223372036854775807 ∧ (∀ n ∈ l, (Lit.int k n).wf = true) ∧ (Kd.int k).C w a l.length l := by
  rcases open_ints ht he hc h with ⟨hcs, -⟩ | ⟨a, len, cap, zs, hcs, hb, hl, hm, hz, hx, hcell, hwf⟩
  · simp at hcs
    exact ⟨none, 0, 0, [], hcs, rfl, Nat.le_refl _, by simp, by simp, Kd.C_nil _ _⟩
  · simp at hcs
    have hlz : len ≤ zs.length := by rw [hz]; split <;> omega
    have hlen : (zs.take len).length = len := by simp; omega
    have hmax : (zs.take len).length ≤ 9223372036854775807 := by rw [hlen]; unfold maxLen at hm; omega
    refine ⟨some a, len, cap, zs.take len, hcs, hlen.symm, hl, hmax, fun n hn => hwf n (List.mem_of_mem_take hn), ?_⟩
    refine Kd.C_of_reads (d := (0 : Int)) (h1 := fun _ => rfl) ⟨rfl, hmax, fun hn => ⟨a, rfl, fun i hi => ?_⟩⟩
    rw [hlen] at hi
    rw [hcell i (by omega)]
    congr 2
    simp [List.getD, hi]
end
end Go.Proofs.YtjekkcjlfgfnkaaDoor.P
namespace Go.Proofs.YtjekkcjlfgfnkaaDoor.P
open Go.RowKit Go.Proofs.YtjekkcjlfgfnkaaDoorW.PrintWords Go.Proofs.YtjekkcjlfgfnkaaDoorW.PrintLast
set_option linter.unusedVariables false
set_option linter.unusedSimpArgs false
theorem Ev.get {α : Type} {g : Nat → Option α} {r : α} (h : Ev g r) : ∃ K, ∀ k, K ≤ k → g k = some r := h
theorem Ev.mk' {α : Type} {g : Nat → Option α} {r : α} (K : Nat) (h : ∀ k, K ≤ k → g (k + 1) = some r) : Ev g r :=
  ⟨K + 1, fun k hk => by obtain ⟨m, rfl⟩ : ∃ m, k = m + 1 := ⟨k - 1, by omega⟩; exact h m (by omega)⟩
theorem Ev.pos {α : Type} {c : Prop} [Decidable c] {g f : Nat → Option α} {r : α} (hc : c) (h : Ev g r) : Ev (fun k => if c then g k else f k) r := by
  obtain ⟨K, h⟩ := h
  exact ⟨K, fun k hk => by show (if c then g k else f k) = some r; rw [if_pos hc]; exact h k hk⟩
theorem Ev.neg {α : Type} {c : Prop} [Decidable c] {g f : Nat → Option α} {r : α} (hc : ¬ c) (h : Ev f r) : Ev (fun k => if c then g k else f k) r := by
  obtain ⟨K, h⟩ := h
  exact ⟨K, fun k hk => by show (if c then g k else f k) = some r; rw [if_neg hc]; exact h k hk⟩
theorem Ev.let_ {α β : Type} {f : Nat → α → Option β} {a : α} {r : β} (k : Ev (fun n => f n a) r) : Ev (fun n => (some a).bind (f n)) r := k
theorem Ev.some_ {α : Type} {a r : α} (h : a = r) : Ev (fun _ => some a) r := ⟨0, fun _ _ => by rw [h]⟩
theorem Ev.eq_ {α : Type} {g : Nat → Option α} {a r : α} (h : Ev g a) (e : a = r) : Ev g r := e ▸ h
theorem wrap_id {n : Int} (h1 : -9223372036854775808 ≤ n) (h2 : n ≤ 9223372036854775807) : wrap64 n = n := by unfold wrap64; omega
theorem wf_int {n : Int} (h : (Lit.int .i64 n).wf = true) : -9223372036854775808 ≤ n ∧ n ≤ 9223372036854775807 := by
  unfold Lit.wf at h
  simp only [Bool.and_eq_true, decide_eq_true_eq] at h
  exact h
theorem obind {α β : Type} (a : α) (f : α → Option β) : (some a).bind f = f a := id rfl
end Go.Proofs.YtjekkcjlfgfnkaaDoor.P
namespace Go.Proofs.YtjekkcjlfgfnkaaDoor.P
open Go.RowKit Go.Proofs.YtjekkcjlfgfnkaaDoorW.PrintWords Go.Proofs.YtjekkcjlfgfnkaaDoorW.PrintLast
set_option linter.unusedVariables false
set_option linter.unusedSimpArgs false
def left (l : List SRule) (n : Int) : Bool := !(l.any (crosses n))
def goodRules (l : List SRule) : Bool := decide (l.length ≤ 12) && l.all okRule
theorem okRule_iff (x : SRule) : okRule x = true ↔ 2 ≤ x.f0 ∧ x.f0 ≤ 60 ∧ 0 ≤ x.f1 ∧ x.f1 < x.f0 := by
  unfold okRule; simp
theorem l1In_ok (a b c : Int) : spec_l1In.f a b c = some (decide (b ≤ a) && decide (a ≤ c)) := by
  unfold spec_l1In.f
  by_cases h : b ≤ a <;> simp [h]
theorem siRule_ok (x : SRule) : spec_siRule.f x.f0 x.f1 = some (okRule x) := by
  unfold spec_siRule.f okRule
  simp only [l1In_ok, Option.bind_some]
  by_cases h1 : 2 ≤ x.f0
  · by_cases h2 : x.f0 ≤ 60
    · have : wrap64 (x.f0 - 1) = x.f0 - 1 := wrap_id (by omega) (by omega)
      rw [this]
      by_cases h3 : 0 ≤ x.f1
      · simp [h1, h2, h3]; omega
      · simp [h1, h2, h3]
    · simp [h1, h2]
  · simp [h1]
theorem rd_drop (l : List SRule) (k : Nat) (h : k < l.length) : l.drop k = rd_Rule l k :: l.drop (k + 1) := drop_rd l k h
theorem siGood_l0 (l : List SRule) (hm : l.length ≤ 12) : ∀ d i : Nat, i + d = l.length → Ev (fun k => spec_siGood.l0 k l l.length i) ((l.drop i).all okRule)
  | 0, i, h => Ev.mk' 0 fun k _ => by
    simp only [spec_siGood.l0]
    rw [if_neg (by omega), List.drop_eq_nil_of_le (by omega)]; rfl
  | d + 1, i, h => by
    obtain ⟨K, ih⟩ := siGood_l0 l hm d (i + 1) (by omega)
    dsimp only at ih
    refine Ev.mk' K fun k hk => ?_
    simp only [spec_siGood.l0]
    rw [if_pos (by omega), if_pos (by omega), if_pos (by omega), siRule_ok, rd_drop l i (by omega), List.all_cons, Option.bind_some]
    rw [show wrap64 ((i : Int) + 1) = ((i + 1 : Nat) : Int) from wrap_id (by omega) (by omega), ih k hk]
    cases okRule (rd_Rule l i) <;> simp
theorem siGood_ev (l : List SRule) : Ev (fun k => spec_siGood.f k l) (goodRules l) := by
  unfold goodRules
  by_cases h : l.length ≤ 12
  · obtain ⟨K, ih⟩ := siGood_l0 l h l.length 0 (by omega)
    refine ⟨K, fun k hk => ?_⟩
    simp only [spec_siGood.f]
    rw [if_neg (by omega)]
    simpa [h] using ih k hk
  · refine ⟨0, fun k _ => ?_⟩
    simp only [spec_siGood.f]
    rw [if_pos (by omega)]
    simp [h]
theorem areRules_ok (l : List SRule) : impl_areRules.f l = some (goodRules l) := rfl
theorem good_all {l : List SRule} (h : goodRules l = true) : l.length ≤ 12 ∧ l.all okRule = true := by
  unfold goodRules at h
  simpa using h
theorem siRest_ok (n : Int) (x : SRule) (h : okRule x = true) : spec_siRest.f n x.f0 = some (n % x.f0) := by
  have := mod_ok n x.f0 ((okRule_iff x).1 h).1 ((okRule_iff x).1 h).2.1
  exact this
theorem siFirst_l0 (n : Int) (l : List SRule) (hm : l.length ≤ 9223372036854775807) (hl : l.all okRule = true) : ∀ d i : Nat, i + d = l.length → Ev (fun k => spec_siFirst.l0 k n l l.length i) (firstIx (crosses n) (l.drop i) i)
  | 0, i, h => Ev.mk' 0 fun k _ => by
    simp only [spec_siFirst.l0]
    rw [if_neg (by omega), List.drop_eq_nil_of_le (by omega)]; rfl
  | d + 1, i, h => by
    obtain ⟨K, ih⟩ := siFirst_l0 n l hm hl d (i + 1) (by omega)
    dsimp only at ih
    refine Ev.mk' K fun k hk => ?_
    simp only [spec_siFirst.l0]
    rw [if_pos (by omega), if_pos (by omega), if_pos (by omega), siRest_ok n _ (List.all_eq_true.mp hl _ (rd_mem l i (by omega))), rd_drop l i (by omega), Option.bind_some]
    rw [show wrap64 ((i : Int) + 1) = ((i + 1 : Nat) : Int) from wrap_id (by omega) (by omega), ih k hk]
    rw [firstIx]
    by_cases hc : n % (rd_Rule l i).f0 = (rd_Rule l i).f1
    · rw [if_pos hc, if_pos (by simp [crosses, hc])]
    · rw [if_neg hc, if_neg (by simp [crosses, hc])]; rfl
theorem siFirst_ev (n : Int) (l : List SRule) (hm : l.length ≤ 9223372036854775807) (hl : l.all okRule = true) : Ev (fun k => spec_siFirst.f k l n) (firstIx (crosses n) l 0) :=
  siFirst_l0 n l hm hl l.length 0 (by omega)
theorem first_left (n : Int) (l : List SRule) : decide (firstIx (crosses n) l 0 < 0) = left l n := by
  have h := firstIx_any (crosses n) l 0 (by omega)
  unfold left
  rw [← h]
  by_cases hc : 0 ≤ firstIx (crosses n) l 0
  · simp [hc, Int.not_lt.mpr hc]
  · simp [hc, Int.not_le.mp hc]
theorem siLeft_ev (n : Int) (l : List SRule) (hm : l.length ≤ 9223372036854775807) (hl : l.all okRule = true) : Ev (fun k => spec_siLeft.f k l n) (left l n) := by
  obtain ⟨K, h⟩ := siFirst_ev n l hm hl
  refine ⟨K, fun k hk => ?_⟩
  simp only [spec_siLeft.f, h k hk, Option.bind_some, first_left]
theorem isLeft_ok (n : Int) (l : List SRule) (hl : l.all okRule = true) : impl_isLeft.f l n = some (left l n) := by
  simp only [impl_isLeft.f, impl_firstRule.f, if_pos hl, Option.bind_some, first_left]
end Go.Proofs.YtjekkcjlfgfnkaaDoor.P
namespace Go.Proofs.YtjekkcjlfgfnkaaDoor.P
open Go.RowKit Go.Proofs.YtjekkcjlfgfnkaaDoorW.PrintWords Go.Proofs.YtjekkcjlfgfnkaaDoorW.PrintLast
set_option linter.unusedVariables false
set_option linter.unusedSimpArgs false
def sign (b : UInt8) : Bool := b == 111 || (b == 120 || b == 63)
def goodP (s : ByteArray) (n : Int) : Bool := decide (1 ≤ s.size) && (decide (s.size ≤ 48) && (s.data.toList.all sign && (decide (0 ≤ n) && decide (n ≤ 3))))
theorem all_drop_sign (l : List UInt8) : (l.dropWhile ([111, 120, 63] : List UInt8).contains = []) ↔ l.all sign = true := by
  induction l with
  | nil => simp
  | cons x l ih =>
    have e : ([111, 120, 63] : List UInt8).contains x = sign x := by simp [sign, List.contains_cons]; rfl
    rw [List.dropWhile_cons, e, List.all_cons]
    cases hx : sign x
    · simp
    · simpa using ih
theorem drop_id (p : UInt8 → Bool) (l : List UInt8) (h : ∀ x, l.head? = some x → p x = false) : l.dropWhile p = l := by
  cases l with
  | nil => rfl
  | cons x l => rw [List.dropWhile_cons, h x rfl]; rfl
theorem trimS_nil (l : List UInt8) : (Lib.trimS l [111, 120, 63] = []) ↔ l.all sign = true := by
  have e : ∀ m : List UInt8, Lib.trimLeftS m [111, 120, 63] = [] ↔ m.all sign = true := fun m => all_drop_sign m
  have e2 : ∀ m : List UInt8, Lib.trimRightS m [111, 120, 63] = (Lib.trimLeftS m.reverse [111, 120, 63]).reverse := fun m => rfl
  unfold Lib.trimS
  rw [e, e2, List.all_reverse]
  constructor
  · intro h
    have h2 := (e (Lib.trimLeftS l.reverse [111, 120, 63])).2 h
    have h3 : Lib.trimLeftS l.reverse [111, 120, 63] = [] := by
      cases hd : Lib.trimLeftS l.reverse [111, 120, 63] with
      | nil => rfl
      | cons x m =>
        exfalso
        have hx : ([111, 120, 63] : List UInt8).contains x = false := by
          have := List.head?_dropWhile_not (p := fun b => ([111, 120, 63] : List UInt8).contains b) (l := l.reverse)
          unfold Lib.trimLeftS at hd
          rw [hd] at this
          simpa using this
        rw [hd, List.all_cons] at h
        have e3 : ([111, 120, 63] : List UInt8).contains x = sign x := by simp [sign, List.contains_cons]; rfl
        rw [e3] at hx
        rw [hx] at h
        simp at h
    have := (e l.reverse).1 h3
    simpa using this
  · intro h
    have h3 := (e l.reverse).2 (by simpa using h)
    rw [h3]; rfl
theorem isPuzzle_ok (s : ByteArray) (n : Int) : impl_isPuzzle.f s n = some (goodP s n) := by
  unfold impl_isPuzzle.f goodP
  by_cases h1 : (s.size : Int) ≥ 1
  · by_cases h2 : (s.size : Int) ≤ 48
    · have e : strings_Trim.f s (⟨#[111, 120, 63]⟩ : ByteArray) = some ⟨(Lib.trimS s.data.toList [111, 120, 63]).toArray⟩ := by
        unfold strings_Trim.f; rw [if_pos ⟨by omega, rfl⟩]
      rw [if_pos h1, if_pos h2, e, obind]
      have d1 : decide (1 ≤ s.size) = true := decide_eq_true (by omega)
      have d2 : decide (s.size ≤ 48) = true := decide_eq_true (by omega)
      rw [d1, d2, Bool.true_and, Bool.true_and]
      have e3 : (ByteArray.toList ⟨(Lib.trimS s.data.toList [111, 120, 63]).toArray⟩ = ([] : List UInt8)) ↔ s.data.toList.all sign = true := by
        rw [← trimS_nil, ByteArray.toList_eq]
      by_cases h3 : s.data.toList.all sign = true
      · rw [if_pos (e3.2 h3), h3, Bool.true_and]
        by_cases h4 : n ≥ 0
        · rw [if_pos h4, decide_eq_true (show 0 ≤ n by omega), Bool.true_and]
        · rw [if_neg h4, decide_eq_false (show ¬ 0 ≤ n by omega), Bool.false_and]
      · rw [if_neg (fun h => h3 (e3.1 h)), Bool.eq_false_iff.2 h3, Bool.false_and]
    · rw [if_pos h1, if_neg h2, decide_eq_false (show ¬ s.size ≤ 48 by omega), Bool.false_and, Bool.and_false]
  · rw [if_neg h1, decide_eq_false (show ¬ 1 ≤ s.size by omega), Bool.false_and]
theorem bt_sign (s : ByteArray) (i : Nat) (h : i < s.size) : (bt s i = 111 ∨ bt s i = 120 ∨ bt s i = 63) ↔ sign (s.data.toList[i]'(by simpa using h)) = true := by
  have e : bt s i = ((s[i]'h).toNat : Int) := (bt_at s (i : Int) h).symm
  have e2 : s.data.toList[i]'(by simpa using h) = s[i]'h := by simp; rfl
  rw [e2]
  generalize s[i]'h = b at e
  rw [e]
  simp only [sign, Bool.or_eq_true, beq_iff_eq]
  constructor
  · rintro (h | h | h)
    · left; exact UInt8.toNat_inj.mp (by simpa using (by omega : b.toNat = 111))
    · right; left; exact UInt8.toNat_inj.mp (by simpa using (by omega : b.toNat = 120))
    · right; right; exact UInt8.toNat_inj.mp (by simpa using (by omega : b.toNat = 63))
  · rintro (rfl | rfl | rfl) <;> simp
theorem pzPattern_l0 (s : ByteArray) (hm : s.size ≤ 48) : ∀ d i : Nat, i + d = s.size → Ev (fun k => spec_pzPattern.l0 k s i) ((s.data.toList.drop i).all sign)
  | 0, i, h => Ev.mk' 0 fun k _ => by
    simp only [spec_pzPattern.l0]
    rw [if_neg (by omega), List.drop_of_length_le (by simp; omega)]; rfl
  | d + 1, i, h => by
    obtain ⟨K, ih⟩ := pzPattern_l0 s hm d (i + 1) (by omega)
    dsimp only at ih
    have hi : i < s.data.toList.length := by simp; show i < s.size; omega
    have hb := bt_sign s i (by omega)
    refine Ev.mk' K fun k hk => ?_
    rw [List.drop_eq_getElem_cons hi, List.all_cons]
    simp only [spec_pzPattern.l0]
    rw [if_pos (by omega), if_pos (by omega), wrap_id (by omega) (by omega), show ((i : Int) + 1) = ((i + 1 : Nat) : Int) by omega, ih k hk]
    by_cases h1 : bt s i = 111
    · rw [if_pos h1, hb.1 (.inl h1), Bool.true_and]
    · by_cases h2 : bt s i = 120
      · rw [if_neg h1, if_pos h2, hb.1 (.inr (.inl h2)), Bool.true_and]
      · by_cases h3 : bt s i = 63
        · rw [if_neg h1, if_neg h2, if_pos h3, hb.1 (.inr (.inr h3)), Bool.true_and]
        · have hn : sign (s.data.toList[i]'hi) = false := Bool.eq_false_iff.2 (fun h => by rcases hb.2 h with h | h | h <;> contradiction)
          rw [if_neg h1, if_neg h2, if_neg h3, hn, Bool.false_and]
theorem pzGood_ev (s : ByteArray) (n : Int) : Ev (fun k => spec_pzGood.f k s n) (goodP s n) := by
  unfold goodP
  by_cases h : 1 ≤ s.size ∧ s.size ≤ 48
  · obtain ⟨K, h3⟩ := pzPattern_l0 s h.2 s.size 0 (by omega)
    have h3 : ∀ k, K ≤ k → spec_pzPattern.l0 k s 0 = some (s.data.toList.all sign) := fun k hk => by have := h3 k hk; rwa [List.drop_zero] at this
    refine ⟨K, fun k hk => ?_⟩
    have d1 : (decide ((1 : Int) ≤ (s.size : Int)) && decide ((s.size : Int) ≤ 48)) = true := by simp; omega
    simp only [spec_pzGood.f, spec_pzPattern.f, l1In_ok, obind, d1, if_true, h3 k hk]
    rw [decide_eq_true h.1, decide_eq_true h.2, Bool.true_and, Bool.true_and]
    cases s.data.toList.all sign <;> simp
  · refine ⟨0, fun k hk => ?_⟩
    have d1 : (decide ((1 : Int) ≤ (s.size : Int)) && decide ((s.size : Int) ≤ 48)) = false := by
      rw [Bool.and_eq_false_iff]; simp only [decide_eq_false_iff_not]; omega
    have d2 : (decide (1 ≤ s.size) && (decide (s.size ≤ 48) && (s.data.toList.all sign && (decide (0 ≤ n) && decide (n ≤ 3))))) = false := by
      rw [← Bool.and_assoc, Bool.and_eq_false_iff]; left
      rw [Bool.and_eq_false_iff]; simp only [decide_eq_false_iff_not]; omega
    simp only [spec_pzGood.f, spec_pzPattern.f, l1In_ok, obind, d1, Bool.false_eq_true, if_false, d2]
theorem szPuzzle_ok (s : ByteArray) (n : Int) (hm : s.size ≤ 9223372036854775807) : laws_szPuzzle.f s n 1048576 = some (if s.size ≤ 1048576 then 1048576 - (s.size : Int) else -1) := by
  unfold laws_szPuzzle.f
  rw [wrap_id (by omega) (by omega)]
  by_cases h : s.size ≤ 1048576
  · rw [if_neg (by omega), if_pos h]
  · rw [if_pos (by omega), if_neg h]
end Go.Proofs.YtjekkcjlfgfnkaaDoor.P
namespace Go.Proofs.YtjekkcjlfgfnkaaDoor.P
open Go.RowKit Go.Proofs.YtjekkcjlfgfnkaaDoorW.PrintWords Go.Proofs.YtjekkcjlfgfnkaaDoorW.PrintLast
set_option linter.unusedVariables false
set_option linter.unusedSimpArgs false
def putB (s : ByteArray) (a : Int) (g : ByteArray) : ByteArray := ((s.extract 0 (a - 1).toNat) ++ g) ++ (s.extract a.toNat s.size)
theorem size_l (s : ByteArray) (a : Int) (h0 : 1 ≤ a) (h1 : a ≤ (s.size : Int)) : (s.extract 0 (a - 1).toNat).size = (a - 1).toNat := by
  rw [ByteArray.size_extract]; omega
theorem size_r (s : ByteArray) (a : Int) : (s.extract a.toNat s.size).size = s.size - a.toNat := by
  rw [ByteArray.size_extract]; omega
theorem put_ok (s : ByteArray) (n a : Int) (g : ByteArray) (hs : s.size ≤ 48) (hg : g.size = 1) (h0 : 1 ≤ a) (h1 : a ≤ (s.size : Int)) : impl_withSign.f s n a g = some (putB s a g, n) := by
  have e := size_l s a h0 h1
  have e2 := size_r s a
  unfold impl_withSign.f putB
  rw [wrap_id (by omega) (by omega), if_pos (by omega), if_pos (by omega), if_pos (by rw [e]; omega), if_pos (by omega), if_pos h1, if_pos (by rw [ByteArray.size_append, e, e2]; omega)]
theorem put_ok' (s : ByteArray) (n a : Int) (g : ByteArray) (hs : s.size ≤ 48) (hg : g.size = 1) (h0 : 1 ≤ a) (h1 : a ≤ (s.size : Int)) : spec_pzPut.f s n a g = some (putB s a g, n) := put_ok s n a g hs hg h0 h1
theorem eqPuzzle_self (s : ByteArray) (n : Int) : laws_eqPuzzle.f s n s n = some true := by simp [laws_eqPuzzle.f]
theorem good_size {s : ByteArray} {n : Int} (h : goodP s n = true) : s.size ≤ 48 := by
  unfold goodP at h; simp only [Bool.and_eq_true, decide_eq_true_eq] at h; exact h.2.1
def hideVal (s : ByteArray) (n a : Int) : ByteArray × Int × Bool := if goodP s n = true ∧ 1 ≤ a ∧ a ≤ (s.size : Int) ∧ bt s (a - 1) ≠ 63 then (putB s a ⟨#[63]⟩, n, true) else (⟨#[]⟩, 0, false)
theorem Hide_main (s : ByteArray) (n a : Int) : Ev (fun k => spec_HideNumber.f k s n a) (hideVal s n a) ∧ impl_HideNumber.f s n a = some (hideVal s n a) := by
  obtain ⟨K, h1⟩ := pzGood_ev s n
  dsimp only at h1
  unfold hideVal
  by_cases hg : goodP s n = true
  · have hz := good_size hg
    by_cases ha : 1 ≤ a ∧ a ≤ (s.size : Int)
    · have e : (decide (1 ≤ a) && decide (a ≤ (s.size : Int))) = true := by simp [ha.1, ha.2]
      have p1 := put_ok s n a ⟨#[63]⟩ hz rfl ha.1 ha.2
      have p2 := put_ok' s n a ⟨#[63]⟩ hz rfl ha.1 ha.2
      by_cases hb : bt s (a - 1) = 63
      · rw [if_neg (by intro h; exact h.2.2.2 hb)]
        constructor
        · refine ⟨K, fun k hk => ?_⟩
          simp only [spec_HideNumber.f, h1 k hk, obind, hg, if_true, l1In_ok, e]
          rw [wrap_id (by omega) (by omega), if_pos (by omega), if_pos (by omega), if_pos hb]
        · simp only [impl_HideNumber.f, isPuzzle_ok, obind, hg, if_true]
          rw [wrap_id (by omega) (by omega), if_neg (by omega), if_neg (by omega), if_pos (by omega), if_pos (by omega), if_pos hb]
      · rw [if_pos ⟨hg, ha.1, ha.2, hb⟩]
        constructor
        · refine ⟨K, fun k hk => ?_⟩
          simp only [spec_HideNumber.f, h1 k hk, obind, hg, if_true, l1In_ok, e, p2]
          rw [wrap_id (by omega) (by omega), if_pos (by omega), if_pos (by omega), if_neg hb]
        · simp only [impl_HideNumber.f, isPuzzle_ok, obind, hg, if_true, p1]
          rw [wrap_id (by omega) (by omega), if_neg (by omega), if_neg (by omega), if_pos (by omega), if_pos (by omega), if_neg hb]
    · have e : (decide (1 ≤ a) && decide (a ≤ (s.size : Int))) = false := by
        rw [Bool.and_eq_false_iff]; simp only [decide_eq_false_iff_not]; omega
      rw [if_neg (by intro h; exact ha ⟨h.2.1, h.2.2.1⟩)]
      constructor
      · refine ⟨K, fun k hk => ?_⟩
        simp only [spec_HideNumber.f, h1 k hk, obind, hg, if_true, l1In_ok, e, Bool.false_eq_true, if_false]
      · simp only [impl_HideNumber.f, isPuzzle_ok, obind, hg, if_true]
        by_cases h2 : a < 1
        · rw [if_pos h2]
        · rw [if_neg h2, if_pos (by omega)]
  · rw [if_neg (by intro h; exact hg h.1)]
    have hf := Bool.eq_false_iff.2 hg
    constructor
    · refine ⟨K, fun k hk => ?_⟩
      simp only [spec_HideNumber.f, h1 k hk, obind, hf, Bool.false_eq_true, if_false]
    · simp only [impl_HideNumber.f, isPuzzle_ok, obind, hf, Bool.false_eq_true, if_false]
def showVal (s : ByteArray) (n a : Int) (b : Bool) : ByteArray × Int × Bool := if goodP s n = true ∧ 1 ≤ a ∧ a ≤ (s.size : Int) ∧ bt s (a - 1) = 63 then (putB s a (if b = true then ⟨#[111]⟩ else ⟨#[120]⟩), n, true) else (⟨#[]⟩, 0, false)
theorem Show_main (s : ByteArray) (n a : Int) (b : Bool) : Ev (fun k => spec_ShowNumber.f k s n a b) (showVal s n a b) ∧ Ev (fun k => impl_ShowNumber.f k s n a b) (showVal s n a b) := by
  obtain ⟨K, h1⟩ := pzGood_ev s n
  dsimp only at h1
  unfold showVal
  by_cases hg : goodP s n = true
  · have hz := good_size hg
    by_cases ha : 1 ≤ a ∧ a ≤ (s.size : Int)
    · have e : (decide (1 ≤ a) && decide (a ≤ (s.size : Int))) = true := by simp [ha.1, ha.2]
      have p1 := put_ok s n a ⟨#[111]⟩ hz rfl ha.1 ha.2
      have p2 := put_ok' s n a ⟨#[111]⟩ hz rfl ha.1 ha.2
      have p3 := put_ok s n a ⟨#[120]⟩ hz rfl ha.1 ha.2
      have p4 := put_ok' s n a ⟨#[120]⟩ hz rfl ha.1 ha.2
      have hw : wrap64 (a - 1) = a - 1 := wrap_id (by omega) (by omega)
      by_cases hb : bt s (a - 1) = 63
      · rw [if_pos ⟨hg, ha.1, ha.2, hb⟩]
        constructor
        · refine Ev.mk' K fun k hk => ?_
          simp only [spec_ShowNumber.f, h1 _ (Nat.le_succ_of_le hk), obind, hg, if_true, l1In_ok, e, hw]
          rw [if_pos (by omega), if_pos (by omega)]
          cases b <;> simp [spec_ShowNumber.j0, hb, p2, p4]
        · refine Ev.mk' 0 fun k hk => ?_
          simp only [impl_ShowNumber.f, isPuzzle_ok, obind, hg, if_true, hw]
          rw [if_neg (by omega), if_neg (by omega), if_pos (by omega), if_pos (by omega)]
          cases b <;> simp [impl_ShowNumber.j0, hb, p1, p3]
      · rw [if_neg (by intro h; exact hb h.2.2.2)]
        constructor
        · refine Ev.mk' K fun k hk => ?_
          simp only [spec_ShowNumber.f, h1 _ (Nat.le_succ_of_le hk), obind, hg, if_true, l1In_ok, e, hw]
          rw [if_pos (by omega), if_pos (by omega)]
          simp [spec_ShowNumber.j0, hb]
        · refine Ev.mk' 0 fun k hk => ?_
          simp only [impl_ShowNumber.f, isPuzzle_ok, obind, hg, if_true, hw]
          rw [if_neg (by omega), if_neg (by omega), if_pos (by omega), if_pos (by omega)]
          simp [impl_ShowNumber.j0, hb]
    · have e : (decide (1 ≤ a) && decide (a ≤ (s.size : Int))) = false := by
        rw [Bool.and_eq_false_iff]; simp only [decide_eq_false_iff_not]; omega
      rw [if_neg (by intro h; exact ha ⟨h.2.1, h.2.2.1⟩)]
      constructor
      · refine Ev.mk' K fun k hk => ?_
        simp only [spec_ShowNumber.f, h1 _ (Nat.le_succ_of_le hk), obind, hg, if_true, l1In_ok, e, Bool.false_eq_true, if_false, spec_ShowNumber.j0]
      · refine Ev.mk' 0 fun k hk => ?_
        simp only [impl_ShowNumber.f, isPuzzle_ok, obind, hg, if_true]
        by_cases h2 : a < 1
        · rw [if_pos h2]; simp [impl_ShowNumber.j0]
        · rw [if_neg h2, if_pos (by omega)]; simp [impl_ShowNumber.j0]
  · rw [if_neg (by intro h; exact hg h.1)]
    have hf := Bool.eq_false_iff.2 hg
    constructor
    · refine Ev.mk' K fun k hk => ?_
      simp only [spec_ShowNumber.f, h1 _ (Nat.le_succ_of_le hk), obind, hf, Bool.false_eq_true, if_false, spec_ShowNumber.j0, if_true]
    · refine Ev.mk' 0 fun k hk => ?_
      simp only [impl_ShowNumber.f, isPuzzle_ok, obind, hf, Bool.false_eq_true, if_false, impl_ShowNumber.j0, if_true]
end Go.Proofs.YtjekkcjlfgfnkaaDoor.P
namespace Go.Proofs.YtjekkcjlfgfnkaaDoor.P
open Go.RowKit Go.Proofs.YtjekkcjlfgfnkaaDoorW.PrintWords Go.Proofs.YtjekkcjlfgfnkaaDoorW.PrintLast
set_option linter.unusedVariables false
set_option linter.unusedSimpArgs false
theorem FnExactShowNumber : laws_FnExactShowNumber.Pure := by
  intro s n a b hs w w2
  by_cases h : s.size ≤ 1048576
  · obtain ⟨⟨K, h1⟩, ⟨K2, h2⟩⟩ := Show_main s n a b
    dsimp only at h1 h2
    have n0 : ¬ (1048576 - (s.size : Int) < 0) := by omega
    refine ⟨K + K2, ?_⟩
    simp (disch := omega) only [laws_FnExactShowNumber.f, szPuzzle_ok s n hs, if_pos h, obind, if_neg n0, laws_toPuzzle.f, h1, h2, eqPuzzle_self, bne_self_eq_false, Bool.false_eq_true, if_false, if_true]
  · refine ⟨0, ?_⟩
    simp only [laws_FnExactShowNumber.f, szPuzzle_ok s n hs, if_neg h, obind]
    simp
end Go.Proofs.YtjekkcjlfgfnkaaDoor.P
