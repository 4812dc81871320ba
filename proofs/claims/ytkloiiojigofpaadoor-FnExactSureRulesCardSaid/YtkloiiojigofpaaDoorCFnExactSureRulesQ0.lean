/- The plain laws on what the functions answer; the last one: the law FnExactSureRules answers true for all arguments. Proved in this text: its theorems. Conditions: as each theorem states them. -/
import Derived.Test.YtkloiiojigofpaaDoorCFnExactSureRulesP
import Derived.Test.YtkloiiojigofpaaDoorCFnExactSureRulesF0
import Derived.Test.YtkloiiojigofpaaDoorCFnExactSureRulesF1
import Derived.Test.YtkloiiojigofpaaDoorCFnExactSureRulesF2
import Derived.Deep.Slices
import Derived.Deep.Fields
import Derived.ChangeSame
import Derived.ChangeSlices
import Derived.Lib.SmallJoins
import Derived.ProofKit
import Derived.OpenShut
import Derived.ShutString
import Derived.ChangeOld
import Derived.SizedLaws
namespace Go.Proofs.YtkloiiojigofpaaDoor.P
open Go.RowKit Go.Proofs.YtkloiiojigofpaaDoorW.PrintWords Go.Proofs.YtkloiiojigofpaaDoorW.PrintLast
set_option linter.unusedVariables false
set_option linter.unusedSimpArgs false
section
open Go.ChangeShapes Go.WideShapes Go.Deep Go.ChangeAt
variable {H : Type} {enc : TypeId × Value → H} {P : Program} {w : World} {base : Nat} {spare : Nat → Bool} {held : Bool}
theorem open_pairs {t e : TypeId} {f0 f1 : Field} {fuel : Nat} {v : Value} {x : DataW H × List MemPlace} (ht : P.underlying t = some (.slice e)) (he : P.underlying e = some (.struct #[f0, f1]))
    (hone : oneCellFields P #[f0, f1] = true) (hC : P.cellsOf e = 2) (h0 : P.underlying f0.type = some (.int .i64)) (h1 : P.underlying f1.type = some (.int .i64)) (h : DataW.trod enc P w base spare held fuel t [v] = some x) :
    ∃ (a : Option Addr) (len cap : Nat) (l : List (Int × Int)), v = .slice a len cap ∧ len = l.length ∧ len ≤ cap ∧ l.length ≤ 9223372036854775807 ∧ (∀ p ∈ l, (Lit.int .i64 p.1).wf = true ∧ (Lit.int .i64 p.2).wf = true) ∧
      (0 < l.length → ∃ ad, a = some ad ∧ ∀ j p, l[j]? = some p → w.cell? (ad.add (j * 2)) = some (.int .i64 p.1) ∧ w.cell? (ad.add (j * 2 + 1)) = some (.int .i64 p.2)) := by
  rcases open_slice ht h with ⟨hcs, -⟩ | ⟨a, len, cap, m, n, D, Pl, hcs, hb, hl, hm, hmm, hx, hi⟩
  · simp at hcs
    exact ⟨none, 0, 0, [], hcs, rfl, Nat.le_refl _, by simp, by simp, by simp⟩
  · simp at hcs
    have hlm : len ≤ m := by rw [hmm]; split <;> omega
    have hget : ∀ i, i < len → ∃ p : Int × Int, w.cell? (a.add (i * 2)) = some (.int .i64 p.1) ∧ w.cell? (a.add (i * 2 + 1)) = some (.int .i64 p.2) ∧ (Lit.int .i64 p.1).wf = true ∧ (Lit.int .i64 p.2).wf = true := by
      intro i him
      obtain ⟨cs', hc, ht'⟩ := hi i (by omega)
      rw [hC] at hc
      obtain ⟨y0, y1, n', hy, -, t0, t1⟩ := trod_struct2 he ht'
      obtain ⟨_, hcl, hat⟩ := World.cells?_some hc
      obtain ⟨o0, k0⟩ := hone_of hone 0 f0 rfl
      obtain ⟨o1, k1⟩ := hone_of hone 1 f1 rfl
      have c0 := hat (i := 0) (by omega)
      have c1 := hat (i := 1) (by omega)
      match cs', hcl with
      | [u0, u1], _ =>
        simp only [o0, k0, List.drop_zero, List.take_succ_cons, List.take_zero] at t0
        simp only [o1, k1, List.drop_succ_cons, List.drop_zero, List.take_succ_cons, List.take_zero] at t1
        obtain ⟨z0, e0, -, w0⟩ := DataW.trod_int h0 t0
        obtain ⟨z1, e1, -, w1⟩ := DataW.trod_int h1 t1
        simp at e0 e1
        subst e0 e1
        refine ⟨(z0, z1), ?_, ?_, w0, w1⟩
        · simpa [Go.Deep.add_add] using c0
        · simpa [Go.Deep.add_add] using c1
    let g : Nat → Int × Int := fun i => if hi : i < len then (hget i hi).choose else (0, 0)
    have hg : ∀ i, i < len → w.cell? (a.add (i * 2)) = some (.int .i64 (g i).1) ∧ w.cell? (a.add (i * 2 + 1)) = some (.int .i64 (g i).2) ∧ (Lit.int .i64 (g i).1).wf = true ∧ (Lit.int .i64 (g i).2).wf = true := by
      intro i hi
      have := (hget i hi).choose_spec
      simpa [g, hi] using this
    refine ⟨some a, len, cap, (List.range len).map g, hcs, by simp, hl, by simp; unfold maxLen at hm; omega, ?_, ?_⟩
    · intro p hp
      simp at hp
      obtain ⟨i, hi, rfl⟩ := hp
      exact ⟨(hg i hi).2.2.1, (hg i hi).2.2.2⟩
    · intro _
      refine ⟨a, rfl, fun j p hj => ?_⟩
      simp [List.getElem?_map] at hj
      obtain ⟨i, hij, rfl⟩ := hj
      have hjl : j < len := by
        have := (List.getElem?_eq_some_iff.1 hij).1
        simpa using this
      have : i = j := by
        have := List.getElem?_range hjl
        rw [this] at hij
        simpa using hij.symm
      subst this
      exact ⟨(hg i hjl).1, (hg i hjl).2.1⟩
theorem open_nums {t e : TypeId} {k : IntKind} {fuel : Nat} {v : Value} {x : DataW H × List MemPlace} (ht : P.underlying t = some (.slice e)) (he : P.underlying e = some (.int k)) (hc : P.cellsOf e = 1)
    (h : DataW.trod enc P w base spare held fuel t [v] = some x) :
    ∃ (a : Option Addr) (len cap : Nat) (l : List Int), v = .slice a len cap ∧ len = l.length ∧ len ≤ cap ∧ l.length ≤ 9223372036854775807 ∧ (∀ n ∈ l, (Lit.int k n).wf = true) ∧ (Kd.int k).C w a l.length l := by
  rcases open_ints ht he hc h with ⟨hcs, -⟩ | ⟨a, len, cap, zs, hcs, hb, hl, hm, hz, hx, hcell, hwf⟩
  · simp at hcs
    exact ⟨none, 0, 0, [], hcs, rfl, Nat.le_refl _, by simp, by simp, Kd.C_nil _ _⟩
  · simp at hcs
    have hlz : len ≤ zs.length := by rw [hz]; split <;> omega
    have hlen : (zs.take len).length = len := by simp; omega
    have hmax : (zs.take len).length ≤ 9223372036854775807 := by rw [hlen]; unfold maxLen at hm; omega
    refine ⟨some a, len, cap, zs.take len, hcs, hlen.symm, hl, hmax, fun n hn => hwf n (List.mem_of_mem_take hn), ?_⟩
    refine Kd.C_of_reads (d := (0 : Int)) (h1 := fun _ => rfl) ⟨rfl, hmax, fun hn => ⟨a, rfl, fun i hi => ?_⟩⟩
    rw [hlen] at hi
    rw [hcell i (by omega)]
    congr 2
    simp [List.getD, hi]
end
end Go.Proofs.YtkloiiojigofpaaDoor.P
namespace Go.Proofs.YtkloiiojigofpaaDoor.P
open Go.RowKit Go.Proofs.YtkloiiojigofpaaDoorW.PrintWords Go.Proofs.YtkloiiojigofpaaDoorW.PrintLast
set_option linter.unusedVariables false
set_option linter.unusedSimpArgs false
theorem Ev.get {α : Type} {g : Nat → Option α} {r : α} (h : Ev g r) : ∃ K, ∀ k, K ≤ k → g k = some r := h
theorem Ev.mk' {α : Type} {g : Nat → Option α} {r : α} (K : Nat) (h : ∀ k, K ≤ k → g (k + 1) = some r) : Ev g r :=
  ⟨K + 1, fun k hk => by obtain ⟨m, rfl⟩ : ∃ m, k = m + 1 := ⟨k - 1, by omega⟩; exact h m (by omega)⟩
theorem Ev.pos {α : Type} {c : Prop} [Decidable c] {g f : Nat → Option α} {r : α} (hc : c) (h : Ev g r) : Ev (fun k => if c then g k else f k) r := by
  obtain ⟨K, h⟩ := h
  exact ⟨K, fun k hk => by show (if c then g k else f k) = some r; rw [if_pos hc]; exact h k hk⟩
theorem Ev.neg {α : Type} {c : Prop} [Decidable c] {g f : Nat → Option α} {r : α} (hc : ¬ c) (h : Ev f r) : Ev (fun k => if c then g k else f k) r := by
  obtain ⟨K, h⟩ := h
  exact ⟨K, fun k hk => by show (if c then g k else f k) = some r; rw [if_neg hc]; exact h k hk⟩
theorem Ev.let_ {α β : Type} {f : Nat → α → Option β} {a : α} {r : β} (k : Ev (fun n => f n a) r) : Ev (fun n => (some a).bind (f n)) r := k
theorem Ev.some_ {α : Type} {a r : α} (h : a = r) : Ev (fun _ => some a) r := ⟨0, fun _ _ => by rw [h]⟩
theorem Ev.eq_ {α : Type} {g : Nat → Option α} {a r : α} (h : Ev g a) (e : a = r) : Ev g r := e ▸ h
theorem wrap_id {n : Int} (h1 : -9223372036854775808 ≤ n) (h2 : n ≤ 9223372036854775807) : wrap64 n = n := by unfold wrap64; omega
theorem wf_int {n : Int} (h : (Lit.int .i64 n).wf = true) : -9223372036854775808 ≤ n ∧ n ≤ 9223372036854775807 := by
  unfold Lit.wf at h
  simp only [Bool.and_eq_true, decide_eq_true_eq] at h
  exact h
theorem obind {α β : Type} (a : α) (f : α → Option β) : (some a).bind f = f a := id rfl
end Go.Proofs.YtkloiiojigofpaaDoor.P
namespace Go.Proofs.YtkloiiojigofpaaDoor.P
open Go.RowKit Go.Proofs.YtkloiiojigofpaaDoorW.PrintWords Go.Proofs.YtkloiiojigofpaaDoorW.PrintLast
set_option linter.unusedVariables false
set_option linter.unusedSimpArgs false
theorem l1In_ok (a b c : Int) : spec_l1In.f a b c = some (decide (b ≤ a) && decide (a ≤ c)) := by
  unfold spec_l1In.f
  by_cases h : b ≤ a <;> simp [h]
end Go.Proofs.YtkloiiojigofpaaDoor.P
namespace Go.Proofs.YtkloiiojigofpaaDoor.P
open Go.RowKit Go.Proofs.YtkloiiojigofpaaDoorW.PrintWords Go.Proofs.YtkloiiojigofpaaDoorW.PrintLast
set_option linter.unusedVariables false
set_option linter.unusedSimpArgs false
def left (l : List SRule) (n : Int) : Bool := !(l.any (crosses n))
def goodRules (l : List SRule) : Bool := decide (l.length ≤ 12) && l.all okRule
theorem okRule_iff (x : SRule) : okRule x = true ↔ 2 ≤ x.f0 ∧ x.f0 ≤ 60 ∧ 0 ≤ x.f1 ∧ x.f1 < x.f0 := by
  unfold okRule; simp
theorem siRule_ok (x : SRule) : spec_siRule.f x.f0 x.f1 = some (okRule x) := by
  unfold spec_siRule.f okRule
  simp only [l1In_ok, Option.bind_some]
  by_cases h1 : 2 ≤ x.f0
  · by_cases h2 : x.f0 ≤ 60
    · have : wrap64 (x.f0 - 1) = x.f0 - 1 := wrap_id (by omega) (by omega)
      rw [this]
      by_cases h3 : 0 ≤ x.f1
      · simp [h1, h2, h3]; omega
      · simp [h1, h2, h3]
    · simp [h1, h2]
  · simp [h1]
theorem rd_drop (l : List SRule) (k : Nat) (h : k < l.length) : l.drop k = rd_Rule l k :: l.drop (k + 1) := drop_rd l k h
theorem siGood_l0 (l : List SRule) (hm : l.length ≤ 12) : ∀ d i : Nat, i + d = l.length → Ev (fun k => spec_siGood.l0 k l l.length i) ((l.drop i).all okRule)
  | 0, i, h => Ev.mk' 0 fun k _ => by
    simp only [spec_siGood.l0]
    rw [if_neg (by omega), List.drop_eq_nil_of_le (by omega)]; rfl
  | d + 1, i, h => by
    obtain ⟨K, ih⟩ := siGood_l0 l hm d (i + 1) (by omega)
    dsimp only at ih
    refine Ev.mk' K fun k hk => ?_
    simp only [spec_siGood.l0]
    rw [if_pos (by omega), if_pos (by omega), if_pos (by omega), siRule_ok, rd_drop l i (by omega), List.all_cons, Option.bind_some]
    rw [show wrap64 ((i : Int) + 1) = ((i + 1 : Nat) : Int) from wrap_id (by omega) (by omega), ih k hk]
    cases okRule (rd_Rule l i) <;> simp
theorem siGood_ev (l : List SRule) : Ev (fun k => spec_siGood.f k l) (goodRules l) := by
  unfold goodRules
  by_cases h : l.length ≤ 12
  · obtain ⟨K, ih⟩ := siGood_l0 l h l.length 0 (by omega)
    refine ⟨K, fun k hk => ?_⟩
    simp only [spec_siGood.f]
    rw [if_neg (by omega)]
    simpa [h] using ih k hk
  · refine ⟨0, fun k _ => ?_⟩
    simp only [spec_siGood.f]
    rw [if_pos (by omega)]
    simp [h]
theorem areRules_ok (l : List SRule) : impl_areRules.f l = some (goodRules l) := rfl
theorem good_all {l : List SRule} (h : goodRules l = true) : l.length ≤ 12 ∧ l.all okRule = true := by
  unfold goodRules at h
  simpa using h
theorem siRest_ok (n : Int) (x : SRule) (h : okRule x = true) : spec_siRest.f n x.f0 = some (n % x.f0) := by
  have := mod_ok n x.f0 ((okRule_iff x).1 h).1 ((okRule_iff x).1 h).2.1
  exact this
theorem siFirst_l0 (n : Int) (l : List SRule) (hm : l.length ≤ 9223372036854775807) (hl : l.all okRule = true) : ∀ d i : Nat, i + d = l.length → Ev (fun k => spec_siFirst.l0 k n l l.length i) (firstIx (crosses n) (l.drop i) i)
  | 0, i, h => Ev.mk' 0 fun k _ => by
    simp only [spec_siFirst.l0]
    rw [if_neg (by omega), List.drop_eq_nil_of_le (by omega)]; rfl
  | d + 1, i, h => by
    obtain ⟨K, ih⟩ := siFirst_l0 n l hm hl d (i + 1) (by omega)
    dsimp only at ih
    refine Ev.mk' K fun k hk => ?_
    simp only [spec_siFirst.l0]
    rw [if_pos (by omega), if_pos (by omega), if_pos (by omega), siRest_ok n _ (List.all_eq_true.mp hl _ (rd_mem l i (by omega))), rd_drop l i (by omega), Option.bind_some]
    rw [show wrap64 ((i : Int) + 1) = ((i + 1 : Nat) : Int) from wrap_id (by omega) (by omega), ih k hk]
    rw [firstIx]
    by_cases hc : n % (rd_Rule l i).f0 = (rd_Rule l i).f1
    · rw [if_pos hc, if_pos (by simp [crosses, hc])]
    · rw [if_neg hc, if_neg (by simp [crosses, hc])]; rfl
theorem siFirst_ev (n : Int) (l : List SRule) (hm : l.length ≤ 9223372036854775807) (hl : l.all okRule = true) : Ev (fun k => spec_siFirst.f k l n) (firstIx (crosses n) l 0) :=
  siFirst_l0 n l hm hl l.length 0 (by omega)
theorem first_left (n : Int) (l : List SRule) : decide (firstIx (crosses n) l 0 < 0) = left l n := by
  have h := firstIx_any (crosses n) l 0 (by omega)
  unfold left
  rw [← h]
  by_cases hc : 0 ≤ firstIx (crosses n) l 0
  · simp [hc, Int.not_lt.mpr hc]
  · simp [hc, Int.not_le.mp hc]
theorem siLeft_ev (n : Int) (l : List SRule) (hm : l.length ≤ 9223372036854775807) (hl : l.all okRule = true) : Ev (fun k => spec_siLeft.f k l n) (left l n) := by
  obtain ⟨K, h⟩ := siFirst_ev n l hm hl
  refine ⟨K, fun k hk => ?_⟩
  simp only [spec_siLeft.f, h k hk, Option.bind_some, first_left]
theorem isLeft_ok (n : Int) (l : List SRule) (hl : l.all okRule = true) : impl_isLeft.f l n = some (left l n) := by
  simp only [impl_isLeft.f, impl_firstRule.f, if_pos hl, Option.bind_some, first_left]
end Go.Proofs.YtkloiiojigofpaaDoor.P
namespace Go.Proofs.YtkloiiojigofpaaDoor.P
open Go.RowKit Go.Proofs.YtkloiiojigofpaaDoorW.PrintWords Go.Proofs.YtkloiiojigofpaaDoorW.PrintLast
set_option linter.unusedVariables false
set_option linter.unusedSimpArgs false
def sign (b : UInt8) : Bool := b == 111 || (b == 120 || b == 63)
def goodP (s : ByteArray) (n : Int) : Bool := decide (1 ≤ s.size) && (decide (s.size ≤ 48) && (s.data.toList.all sign && (decide (0 ≤ n) && decide (n ≤ 3))))
theorem all_drop_sign (l : List UInt8) : (l.dropWhile ([111, 120, 63] : List UInt8).contains = []) ↔ l.all sign = true := by
  induction l with
  | nil => simp
  | cons x l ih =>
    have e : ([111, 120, 63] : List UInt8).contains x = sign x := by simp [sign, List.contains_cons]; rfl
    rw [List.dropWhile_cons, e, List.all_cons]
    cases hx : sign x
    · simp
    · simpa using ih
theorem drop_id (p : UInt8 → Bool) (l : List UInt8) (h : ∀ x, l.head? = some x → p x = false) : l.dropWhile p = l := by
  cases l with
  | nil => rfl
  | cons x l => rw [List.dropWhile_cons, h x rfl]; rfl
theorem trimS_nil (l : List UInt8) : (Lib.trimS l [111, 120, 63] = []) ↔ l.all sign = true := by
  have e : ∀ m : List UInt8, Lib.trimLeftS m [111, 120, 63] = [] ↔ m.all sign = true := fun m => all_drop_sign m
  have e2 : ∀ m : List UInt8, Lib.trimRightS m [111, 120, 63] = (Lib.trimLeftS m.reverse [111, 120, 63]).reverse := fun m => rfl
  unfold Lib.trimS
  rw [e, e2, List.all_reverse]
  constructor
  · intro h
    have h2 := (e (Lib.trimLeftS l.reverse [111, 120, 63])).2 h
    have h3 : Lib.trimLeftS l.reverse [111, 120, 63] = [] := by
      cases hd : Lib.trimLeftS l.reverse [111, 120, 63] with
      | nil => rfl
      | cons x m =>
        exfalso
        have hx : ([111, 120, 63] : List UInt8).contains x = false := by
          have := List.head?_dropWhile_not (p := fun b => ([111, 120, 63] : List UInt8).contains b) (l := l.reverse)
          unfold Lib.trimLeftS at hd
          rw [hd] at this
          simpa using this
        rw [hd, List.all_cons] at h
        have e3 : ([111, 120, 63] : List UInt8).contains x = sign x := by simp [sign, List.contains_cons]; rfl
        rw [e3] at hx
        rw [hx] at h
        simp at h
    have := (e l.reverse).1 h3
    simpa using this
  · intro h
    have h3 := (e l.reverse).2 (by simpa using h)
    rw [h3]; rfl
theorem isPuzzle_ok (s : ByteArray) (n : Int) : impl_isPuzzle.f s n = some (goodP s n) := by
  unfold impl_isPuzzle.f goodP
  by_cases h1 : (s.size : Int) ≥ 1
  · by_cases h2 : (s.size : Int) ≤ 48
    · have e : strings_Trim.f s (⟨#[111, 120, 63]⟩ : ByteArray) = some ⟨(Lib.trimS s.data.toList [111, 120, 63]).toArray⟩ := by
        unfold strings_Trim.f; rw [if_pos ⟨by omega, rfl⟩]
      rw [if_pos h1, if_pos h2, e, obind]
      have d1 : decide (1 ≤ s.size) = true := decide_eq_true (by omega)
      have d2 : decide (s.size ≤ 48) = true := decide_eq_true (by omega)
      rw [d1, d2, Bool.true_and, Bool.true_and]
      have e3 : (ByteArray.toList ⟨(Lib.trimS s.data.toList [111, 120, 63]).toArray⟩ = ([] : List UInt8)) ↔ s.data.toList.all sign = true := by
        rw [← trimS_nil, ByteArray.toList_eq]
      by_cases h3 : s.data.toList.all sign = true
      · rw [if_pos (e3.2 h3), h3, Bool.true_and]
        by_cases h4 : n ≥ 0
        · rw [if_pos h4, decide_eq_true (show 0 ≤ n by omega), Bool.true_and]
        · rw [if_neg h4, decide_eq_false (show ¬ 0 ≤ n by omega), Bool.false_and]
      · rw [if_neg (fun h => h3 (e3.1 h)), Bool.eq_false_iff.2 h3, Bool.false_and]
    · rw [if_pos h1, if_neg h2, decide_eq_false (show ¬ s.size ≤ 48 by omega), Bool.false_and, Bool.and_false]
  · rw [if_neg h1, decide_eq_false (show ¬ 1 ≤ s.size by omega), Bool.false_and]
theorem bt_sign (s : ByteArray) (i : Nat) (h : i < s.size) : (bt s i = 111 ∨ bt s i = 120 ∨ bt s i = 63) ↔ sign (s.data.toList[i]'(by simpa using h)) = true := by
  have e : bt s i = ((s[i]'h).toNat : Int) := (bt_at s (i : Int) h).symm
  have e2 : s.data.toList[i]'(by simpa using h) = s[i]'h := by simp; rfl
  rw [e2]
  generalize s[i]'h = b at e
  rw [e]
  simp only [sign, Bool.or_eq_true, beq_iff_eq]
  constructor
  · rintro (h | h | h)
    · left; exact UInt8.toNat_inj.mp (by simpa using (by omega : b.toNat = 111))
    · right; left; exact UInt8.toNat_inj.mp (by simpa using (by omega : b.toNat = 120))
    · right; right; exact UInt8.toNat_inj.mp (by simpa using (by omega : b.toNat = 63))
  · rintro (rfl | rfl | rfl) <;> simp
theorem pzPattern_l0 (s : ByteArray) (hm : s.size ≤ 48) : ∀ d i : Nat, i + d = s.size → Ev (fun k => spec_pzPattern.l0 k s i) ((s.data.toList.drop i).all sign)
  | 0, i, h => Ev.mk' 0 fun k _ => by
    simp only [spec_pzPattern.l0]
    rw [if_neg (by omega), List.drop_of_length_le (by simp; omega)]; rfl
  | d + 1, i, h => by
    obtain ⟨K, ih⟩ := pzPattern_l0 s hm d (i + 1) (by omega)
    dsimp only at ih
    have hi : i < s.data.toList.length := by simp; show i < s.size; omega
    have hb := bt_sign s i (by omega)
    refine Ev.mk' K fun k hk => ?_
    rw [List.drop_eq_getElem_cons hi, List.all_cons]
    simp only [spec_pzPattern.l0]
    rw [if_pos (by omega), if_pos (by omega), wrap_id (by omega) (by omega), show ((i : Int) + 1) = ((i + 1 : Nat) : Int) by omega, ih k hk]
    by_cases h1 : bt s i = 111
    · rw [if_pos h1, hb.1 (.inl h1), Bool.true_and]
    · by_cases h2 : bt s i = 120
      · rw [if_neg h1, if_pos h2, hb.1 (.inr (.inl h2)), Bool.true_and]
      · by_cases h3 : bt s i = 63
        · rw [if_neg h1, if_neg h2, if_pos h3, hb.1 (.inr (.inr h3)), Bool.true_and]
        · have hn : sign (s.data.toList[i]'hi) = false := Bool.eq_false_iff.2 (fun h => by rcases hb.2 h with h | h | h <;> contradiction)
          rw [if_neg h1, if_neg h2, if_neg h3, hn, Bool.false_and]
theorem pzGood_ev (s : ByteArray) (n : Int) : Ev (fun k => spec_pzGood.f k s n) (goodP s n) := by
  unfold goodP
  by_cases h : 1 ≤ s.size ∧ s.size ≤ 48
  · obtain ⟨K, h3⟩ := pzPattern_l0 s h.2 s.size 0 (by omega)
    have h3 : ∀ k, K ≤ k → spec_pzPattern.l0 k s 0 = some (s.data.toList.all sign) := fun k hk => by have := h3 k hk; rwa [List.drop_zero] at this
    refine ⟨K, fun k hk => ?_⟩
    have d1 : (decide ((1 : Int) ≤ (s.size : Int)) && decide ((s.size : Int) ≤ 48)) = true := by simp; omega
    simp only [spec_pzGood.f, spec_pzPattern.f, l1In_ok, obind, d1, if_true, h3 k hk]
    rw [decide_eq_true h.1, decide_eq_true h.2, Bool.true_and, Bool.true_and]
    cases s.data.toList.all sign <;> simp
  · refine ⟨0, fun k hk => ?_⟩
    have d1 : (decide ((1 : Int) ≤ (s.size : Int)) && decide ((s.size : Int) ≤ 48)) = false := by
      rw [Bool.and_eq_false_iff]; simp only [decide_eq_false_iff_not]; omega
    have d2 : (decide (1 ≤ s.size) && (decide (s.size ≤ 48) && (s.data.toList.all sign && (decide (0 ≤ n) && decide (n ≤ 3))))) = false := by
      rw [← Bool.and_assoc, Bool.and_eq_false_iff]; left
      rw [Bool.and_eq_false_iff]; simp only [decide_eq_false_iff_not]; omega
    simp only [spec_pzGood.f, spec_pzPattern.f, l1In_ok, obind, d1, Bool.false_eq_true, if_false, d2]
theorem szPuzzle_ok (s : ByteArray) (n : Int) (hm : s.size ≤ 9223372036854775807) : laws_szPuzzle.f s n 1048576 = some (if s.size ≤ 1048576 then 1048576 - (s.size : Int) else -1) := by
  unfold laws_szPuzzle.f
  rw [wrap_id (by omega) (by omega)]
  by_cases h : s.size ≤ 1048576
  · rw [if_neg (by omega), if_pos h]
  · rw [if_pos (by omega), if_neg h]
end Go.Proofs.YtkloiiojigofpaaDoor.P
namespace Go.Proofs.YtkloiiojigofpaaDoor.P
open Go.RowKit Go.Proofs.YtkloiiojigofpaaDoorW.PrintWords Go.Proofs.YtkloiiojigofpaaDoorW.PrintLast
set_option linter.unusedVariables false
set_option linter.unusedSimpArgs false
def fitD (s : ByteArray) (e t : Int) (pos : Nat) : Nat → Bool
  | 0 => true
  | d + 1 => !(bt s pos == 111 && (((pos : Int) + 1) % e == t)) && fitD s e t (pos + 1) d
def rowFit (s : ByteArray) (e t : Int) : Nat → List SRule
  | 0 => []
  | d + 1 => (cond (fitD s e t 0 s.size) [(⟨e, t⟩ : SRule)] []) ++ rowFit s e (t + 1) d
def allFit (s : ByteArray) (e : Int) : Nat → List SRule
  | 0 => []
  | d + 1 => rowFit s e 0 e.toNat ++ allFit s (e + 1) d
def fitOf (s : ByteArray) : List SRule := allFit s 2 9
theorem rowFit_length (s : ByteArray) (e : Int) : ∀ d t, (rowFit s e t d).length ≤ d
  | 0, t => by simp [rowFit]
  | d + 1, t => by
    have := rowFit_length s e d (t + 1)
    simp only [rowFit, List.length_append]
    cases fitD s e t 0 s.size <;> simp <;> omega
theorem allFit_length (s : ByteArray) : ∀ (d : Nat) (e : Int), e + d = 11 → (allFit s e d).length ≤ 11 * d
  | 0, e, h => by simp [allFit]
  | d + 1, e, h => by
    have := allFit_length s d (e + 1) (by omega)
    have h2 := rowFit_length s e e.toNat 0
    simp only [allFit, List.length_append]
    omega
theorem fitOf_length (s : ByteArray) : (fitOf s).length ≤ 99 := allFit_length s 9 2 (by omega)
theorem good_sign {s : ByteArray} {n : Int} (h : goodP s n = true) : s.data.toList.all sign = true := by
  unfold goodP at h; simp only [Bool.and_eq_true] at h; exact h.2.2.1
theorem sign_bt {s : ByteArray} (hs : s.data.toList.all sign = true) (i : Nat) (h : i < s.size) : bt s i = 111 ∨ bt s i = 120 ∨ bt s i = 63 :=
  (bt_sign s i h).2 (List.all_eq_true.1 hs _ (List.getElem_mem _))
theorem pzFits_l0 (s : ByteArray) (hs : s.data.toList.all sign = true) (hz : s.size ≤ 48) (e t : Int) (h0 : 2 ≤ e) (h1 : e ≤ 10) (h2 : 0 ≤ t) (h3 : t < e) : ∀ d pos : Nat, pos + d = s.size → Ev (fun k => spec_pzFits.l0 k s e t pos) (fitD s e t pos d)
  | 0, pos, h => Ev.mk' 0 fun k _ => by
    simp only [spec_pzFits.l0, fitD]
    rw [if_neg (by omega)]
  | d + 1, pos, h => by
    obtain ⟨K, ih⟩ := pzFits_l0 s hs hz e t h0 h1 h2 h3 d (pos + 1) (by omega)
    dsimp only at ih
    have hb := sign_bt hs pos (by omega)
    have hr := siRest_ok ((pos : Int) + 1) ⟨e, t⟩ ((okRule_iff _).2 ⟨h0, by show e ≤ 60; omega, h2, h3⟩)
    have hr : spec_siRest.f ((pos : Int) + 1) e = some (((pos : Int) + 1) % e) := hr
    refine Ev.mk' K fun k hk => ?_
    simp only [spec_pzFits.l0, fitD]
    rw [if_pos (by omega), if_pos (by omega), wrap_id (by omega) (by omega), hr, obind, ih k hk]
    by_cases c : bt s pos = 111
    · rw [if_pos c, beq_iff_eq.2 c, Bool.true_and]
      by_cases c2 : ((pos : Int) + 1) % e = t
      · rw [if_pos c2, beq_iff_eq.2 c2]; rfl
      · rw [if_neg c2, beq_eq_false_iff_ne.2 c2]; simp
    · rw [if_neg c, beq_eq_false_iff_ne.2 c]; simp
theorem pzFits_ev (s : ByteArray) (hs : s.data.toList.all sign = true) (hz : s.size ≤ 48) (e t : Int) (h0 : 2 ≤ e) (h1 : e ≤ 10) (h2 : 0 ≤ t) (h3 : t < e) : Ev (fun k => spec_pzFits.f k s e t) (fitD s e t 0 s.size) :=
  pzFits_l0 s hs hz e t h0 h1 h2 h3 s.size 0 (by omega)
theorem pzFit_l1 (s : ByteArray) (hs : s.data.toList.all sign = true) (hz : s.size ≤ 48) (e : Int) (h0 : 2 ≤ e) (h1 : e ≤ 10) (r : List SRule) : ∀ (d : Nat) (t : Int) (acc : List SRule), t + d = e → 0 ≤ t → acc.length + d ≤ 300 → Ev (fun k => spec_pzFit.l0 k s (acc ++ rowFit s e t d) (e + 1)) r → Ev (fun k => spec_pzFit.l1 k s acc e t) r
  | 0, t, acc, h, h2, h3, ⟨K, hk⟩ => Ev.mk' K fun k hk' => by
    simp only [rowFit, List.append_nil] at hk
    simp only [spec_pzFit.l1]
    rw [if_neg (by omega), wrap_id (by omega) (by omega), hk k hk']
  | d + 1, t, acc, h, h2, h3, hc => by
    obtain ⟨K1, hf⟩ := pzFits_ev s hs hz e t h0 h1 h2 (by omega)
    dsimp only at hf
    simp only [rowFit] at hc
    cases c : fitD s e t 0 s.size with
    | true =>
      rw [c, cond_true, ← List.append_assoc] at hc
      rw [c] at hf
      obtain ⟨K, ih⟩ := pzFit_l1 s hs hz e h0 h1 r d (t + 1) (acc ++ [⟨e, t⟩]) (by omega) (by omega) (by simp; omega) hc
      dsimp only at ih
      refine Ev.mk' (K + K1) fun k hk => ?_
      simp only [spec_pzFit.l1, hf k (by omega), obind]
      rw [if_pos (by omega), if_pos trivial, if_pos (by omega), wrap_id (by omega) (by omega), ih k (by omega)]
    | false =>
      rw [c, cond_false, List.nil_append] at hc
      rw [c] at hf
      obtain ⟨K, ih⟩ := pzFit_l1 s hs hz e h0 h1 r d (t + 1) acc (by omega) (by omega) (by omega) hc
      dsimp only at ih
      refine Ev.mk' (K + K1) fun k hk => ?_
      simp only [spec_pzFit.l1, hf k (by omega), obind]
      rw [if_pos (by omega), if_neg (by decide), wrap_id (by omega) (by omega), ih k (by omega)]
theorem pzFit_l0 (s : ByteArray) (hs : s.data.toList.all sign = true) (hz : s.size ≤ 48) : ∀ (d : Nat) (e : Int) (acc : List SRule), e + d = 11 → 2 ≤ e → acc.length + 11 * d ≤ 200 → Ev (fun k => spec_pzFit.l0 k s acc e) (acc ++ allFit s e d)
  | 0, e, acc, h, h2, h3 => Ev.mk' 0 fun k _ => by
    simp only [spec_pzFit.l0, allFit, List.append_nil]
    rw [if_neg (by omega)]
  | d + 1, e, acc, h, h2, h3 => by
    have hl := rowFit_length s e e.toNat 0
    have ih := pzFit_l0 s hs hz d (e + 1) (acc ++ rowFit s e 0 e.toNat) (by omega) (by omega) (by rw [List.length_append]; omega)
    obtain ⟨K, h4⟩ := pzFit_l1 s hs hz e h2 (by omega) _ e.toNat 0 acc (by omega) (by omega) (by omega) ih
    dsimp only at h4
    refine Ev.mk' K fun k hk => ?_
    simp only [spec_pzFit.l0, allFit]
    rw [if_pos (by omega), h4 k hk, List.append_assoc]
theorem pzFit_ev (s : ByteArray) (hs : s.data.toList.all sign = true) (hz : s.size ≤ 48) : Ev (fun k => spec_pzFit.f k s) (fitOf s) := by
  obtain ⟨K, h⟩ := pzFit_l0 s hs hz 9 2 [] (by omega) (by omega) (by simp)
  exact ⟨K, fun k hk => h k hk⟩
theorem fitting_l2 (s : ByteArray) (hz : s.size ≤ 48) (e t : Int) (h0 : 2 ≤ e) (h1 : e ≤ 10) (acc : List SRule) (hl : acc.length ≤ 300) (r : List SRule) : ∀ (d pos : Nat) (b : Bool), pos + d = s.size → Ev (fun k => impl_fitting.l1 k s (acc ++ cond (b && fitD s e t pos d) [(⟨e, t⟩ : SRule)] []) e e (wrap64 (t + 1))) r → Ev (fun k => impl_fitting.l2 k s acc e t b e t (s.size : Int) pos) r
  | 0, pos, b, h, ⟨K, hk⟩ => Ev.mk' K fun k hk' => by
    have hk := hk k hk'
    simp only [fitD, Bool.and_true] at hk
    simp only [impl_fitting.l2]
    rw [if_neg (by omega)]
    cases b with
    | true => rw [cond_true] at hk; rw [if_pos rfl, if_pos (by omega)]; exact hk
    | false => rw [cond_false, List.append_nil] at hk; rw [if_neg (by decide)]; exact hk
  | d + 1, pos, b, h, hc => by
    simp only [fitD] at hc
    cases b with
    | false =>
      obtain ⟨K, ih⟩ := fitting_l2 s hz e t h0 h1 acc hl r d (pos + 1) false (by omega) hc
      dsimp only at ih
      refine Ev.mk' K fun k hk => ?_
      simp only [impl_fitting.l2]
      rw [if_pos (by omega), if_neg (by decide), wrap_id (by omega) (by omega)]
      exact ih k hk
    | true =>
      have hm : Int.tmod ((pos : Int) + 1) e = ((pos : Int) + 1) % e := Int.tmod_eq_emod_of_nonneg (by omega)
      rw [Bool.true_and] at hc
      by_cases c : bt s pos = 111
      · rw [beq_iff_eq.2 c, Bool.true_and] at hc
        obtain ⟨K, ih⟩ := fitting_l2 s hz e t h0 h1 acc hl r d (pos + 1) (((pos : Int) + 1) % e != t) (by omega) hc
        dsimp only at ih
        refine Ev.mk' K fun k hk => ?_
        simp only [impl_fitting.l2]
        rw [if_pos (by omega), if_pos (by first | rfl | trivial), if_pos (by omega), if_pos (by omega), if_pos c, if_neg (by omega), wrap_id (n := (pos : Int) + 1) (by omega) (by omega), hm]
        exact ih k hk
      · rw [beq_eq_false_iff_ne.2 c, Bool.false_and] at hc
        obtain ⟨K, ih⟩ := fitting_l2 s hz e t h0 h1 acc hl r d (pos + 1) true (by omega) hc
        dsimp only at ih
        refine Ev.mk' K fun k hk => ?_
        simp only [impl_fitting.l2]
        rw [if_pos (by omega), if_pos (by first | rfl | trivial), if_pos (by omega), if_pos (by omega), if_neg c, wrap_id (n := (pos : Int) + 1) (by omega) (by omega)]
        exact ih k hk
theorem fitting_l1 (s : ByteArray) (hz : s.size ≤ 48) (e : Int) (h0 : 2 ≤ e) (h1 : e ≤ 10) (r : List SRule) : ∀ (d : Nat) (t : Int) (acc : List SRule), t + d = e → 0 ≤ t → acc.length + d ≤ 300 → Ev (fun k => impl_fitting.l0 k s (acc ++ rowFit s e t d) (e + 1)) r → Ev (fun k => impl_fitting.l1 k s acc e e t) r
  | 0, t, acc, h, h2, h3, ⟨K, hk⟩ => Ev.mk' K fun k hk' => by
    simp only [rowFit, List.append_nil] at hk
    simp only [impl_fitting.l1]
    rw [if_neg (by omega), wrap_id (by omega) (by omega), hk k hk']
  | d + 1, t, acc, h, h2, h3, hc => by
    simp only [rowFit] at hc
    rw [← List.append_assoc] at hc
    have ih := fitting_l1 s hz e h0 h1 r d (t + 1) (acc ++ cond (fitD s e t 0 s.size) [(⟨e, t⟩ : SRule)] []) (by omega) (by omega) (by rw [List.length_append]; cases fitD s e t 0 s.size <;> simp <;> omega) hc
    obtain ⟨K, h4⟩ := fitting_l2 s hz e t h0 h1 acc (by omega) r s.size 0 true (by omega) (by rw [Bool.true_and, wrap_id (by omega) (by omega)]; exact ih)
    dsimp only at h4
    refine Ev.mk' K fun k hk => ?_
    simp only [impl_fitting.l1]
    rw [if_pos (by omega)]
    exact h4 k hk
theorem fitting_l0 (s : ByteArray) (hz : s.size ≤ 48) : ∀ (d : Nat) (e : Int) (acc : List SRule), e + d = 11 → 2 ≤ e → acc.length + 11 * d ≤ 200 → Ev (fun k => impl_fitting.l0 k s acc e) (acc ++ allFit s e d)
  | 0, e, acc, h, h2, h3 => Ev.mk' 0 fun k _ => by
    simp only [impl_fitting.l0, allFit, List.append_nil]
    rw [if_neg (by omega)]
  | d + 1, e, acc, h, h2, h3 => by
    have hl := rowFit_length s e e.toNat 0
    have ih := fitting_l0 s hz d (e + 1) (acc ++ rowFit s e 0 e.toNat) (by omega) (by omega) (by rw [List.length_append]; omega)
    obtain ⟨K, h4⟩ := fitting_l1 s hz e h2 (by omega) _ e.toNat 0 acc (by omega) (by omega) (by omega) ih
    dsimp only at h4
    refine Ev.mk' K fun k hk => ?_
    simp only [impl_fitting.l0, allFit]
    rw [if_pos (by omega), h4 k hk, List.append_assoc]
theorem fitting_ev (s : ByteArray) (hz : s.size ≤ 48) : Ev (fun k => impl_fitting.f k s) (fitOf s) := by
  obtain ⟨K, h⟩ := fitting_l0 s hz 9 2 [] (by omega) (by omega) (by simp)
  exact ⟨K, fun k hk => h k hk⟩
end Go.Proofs.YtkloiiojigofpaaDoor.P
namespace Go.Proofs.YtkloiiojigofpaaDoor.P
open Go.RowKit Go.Proofs.YtkloiiojigofpaaDoorW.PrintWords Go.Proofs.YtkloiiojigofpaaDoorW.PrintLast
set_option linter.unusedVariables false
set_option linter.unusedSimpArgs false
def covD (s : ByteArray) (l : List SRule) (pos : Nat) : Nat → Bool
  | 0 => true
  | d + 1 => !(bt s pos == 120 && left l ((pos : Int) + 1)) && covD s l (pos + 1) d
def agD (s : ByteArray) (l : List SRule) (pos : Nat) : Nat → Bool
  | 0 => true
  | d + 1 => !(bt s pos != 63 && (left l ((pos : Int) + 1) != (bt s pos == 111))) && agD s l (pos + 1) d
theorem all_and {α : Type} (p q : α → Bool) : ∀ l : List α, l.all (fun x => p x && q x) = (l.all p && l.all q)
  | [] => rfl
  | x :: l => by
    simp only [List.all_cons, all_and p q l]
    cases p x <;> cases q x <;> cases l.all p <;> cases l.all q <;> rfl
theorem left_all (l : List SRule) (n : Int) : left l n = l.all (fun r => !crosses n r) := by
  unfold left
  induction l with
  | nil => rfl
  | cons x l ih => rw [List.any_cons, List.all_cons, ← ih]; cases crosses n x <;> simp
theorem agD_eq (s : ByteArray) (hs : s.data.toList.all sign = true) (l : List SRule) : ∀ d pos : Nat, pos + d = s.size → agD s l pos d = (l.all (fun r => fitD s r.f0 r.f1 pos d) && covD s l pos d)
  | 0, pos, h => by
    have e : (fun r : SRule => fitD s r.f0 r.f1 pos 0) = fun _ => true := rfl
    rw [e]; simp [agD, covD]
  | d + 1, pos, h => by
    have ih := agD_eq s hs l d (pos + 1) (by omega)
    simp only [agD, covD, fitD]
    rw [all_and (fun r : SRule => !(bt s pos == 111 && ((pos : Int) + 1) % r.f0 == r.f1)) (fun r => fitD s r.f0 r.f1 (pos + 1) d), ih]
    rcases sign_bt hs pos (by omega) with hb | hb | hb <;> rw [hb]
    · have e : l.all (fun r : SRule => !((111 : Int) == 111 && ((pos : Int) + 1) % r.f0 == r.f1)) = left l ((pos : Int) + 1) := (left_all l _).symm
      rw [e]
      generalize left l ((pos : Int) + 1) = x
      generalize l.all (fun r => fitD s r.f0 r.f1 (pos + 1) d) = y
      generalize covD s l (pos + 1) d = z
      cases x <;> cases y <;> cases z <;> rfl
    · have e : l.all (fun r : SRule => !((120 : Int) == 111 && ((pos : Int) + 1) % r.f0 == r.f1)) = true := List.all_eq_true.2 fun _ _ => rfl
      rw [e]
      generalize left l ((pos : Int) + 1) = x
      generalize l.all (fun r => fitD s r.f0 r.f1 (pos + 1) d) = y
      generalize covD s l (pos + 1) d = z
      cases x <;> cases y <;> cases z <;> rfl
    · have e : l.all (fun r : SRule => !((63 : Int) == 111 && ((pos : Int) + 1) % r.f0 == r.f1)) = true := List.all_eq_true.2 fun _ _ => rfl
      rw [e]
      generalize left l ((pos : Int) + 1) = x
      generalize l.all (fun r => fitD s r.f0 r.f1 (pos + 1) d) = y
      generalize covD s l (pos + 1) d = z
      cases x <;> cases y <;> cases z <;> rfl
theorem agrees_l0 (s : ByteArray) (hs : s.data.toList.all sign = true) (hz : s.size ≤ 48) (l : List SRule) (hl : l.all okRule = true) : ∀ d pos : Nat, pos + d = s.size → Ev (fun k => impl_agrees.l0 k s l (s.size : Int) pos) (agD s l pos d)
  | 0, pos, h => Ev.mk' 0 fun k _ => by
    simp only [impl_agrees.l0, agD]
    rw [if_neg (by omega)]
  | d + 1, pos, h => by
    obtain ⟨K, ih⟩ := agrees_l0 s hs hz l hl d (pos + 1) (by omega)
    dsimp only at ih
    refine Ev.mk' K fun k hk => ?_
    have ih : impl_agrees.l0 k s l (s.size : Int) ((pos : Int) + 1) = some (agD s l (pos + 1) d) := ih k hk
    simp only [impl_agrees.l0, agD, isLeft_ok _ l hl, obind]
    rw [if_pos (by omega), if_pos (by omega), if_pos (by omega), wrap_id (by omega) (by omega), ih]
    by_cases c : bt s pos = 63
    · rw [if_pos c, c]; rfl
    · rw [if_neg c, bne_iff_ne.2 c, Bool.true_and]
      cases (left l ((pos : Int) + 1) != (bt s pos == 111)) <;> simp
theorem pzCovers_l0 (s : ByteArray) (hs : s.data.toList.all sign = true) (hz : s.size ≤ 48) (l : List SRule) (hm : l.length ≤ 12) (hl : l.all okRule = true) : ∀ d pos : Nat, pos + d = s.size → Ev (fun k => spec_pzCovers.l0 k s l pos) (covD s l pos d)
  | 0, pos, h => Ev.mk' 0 fun k _ => by
    simp only [spec_pzCovers.l0, covD]
    rw [if_neg (by omega)]
  | d + 1, pos, h => by
    obtain ⟨K, ih⟩ := pzCovers_l0 s hs hz l hm hl d (pos + 1) (by omega)
    dsimp only at ih
    obtain ⟨K1, h3⟩ := siLeft_ev ((pos : Int) + 1) l (by omega) hl
    dsimp only at h3
    have hb := sign_bt hs pos (by omega)
    refine Ev.mk' (K + K1) fun k hk => ?_
    simp only [spec_pzCovers.l0, covD]
    rw [if_pos (by omega), if_pos (by omega), wrap_id (by omega) (by omega), h3 k (by omega), obind, ih k (by omega)]
    by_cases c : bt s pos = 120
    · rw [if_pos c, c]
      cases left l ((pos : Int) + 1) <;> simp
    · rw [if_neg c, beq_eq_false_iff_ne.2 c, Bool.false_and]; rfl
end Go.Proofs.YtkloiiojigofpaaDoor.P
namespace Go.Proofs.YtkloiiojigofpaaDoor.P
open Go.RowKit Go.Proofs.YtkloiiojigofpaaDoorW.PrintWords Go.Proofs.YtkloiiojigofpaaDoorW.PrintLast
set_option linter.unusedVariables false
set_option linter.unusedSimpArgs false
def comb : Nat → List SRule → List (List SRule)
  | 0, _ => [[]]
  | _ + 1, [] => []
  | n + 1, r :: t => (comb n t).map (fun l => r :: l) ++ comb (n + 1) t
theorem comb_mem : ∀ (n : Nat) (fit l : List SRule), l ∈ comb n fit → l.length = n ∧ ∀ r ∈ l, r ∈ fit
  | 0, fit, l, h => by
    simp only [comb, List.mem_singleton] at h
    subst h; simp
  | n + 1, [], l, h => by simp [comb] at h
  | n + 1, x :: t, l, h => by
    simp only [comb, List.mem_append, List.mem_map] at h
    rcases h with ⟨l', h', rfl⟩ | h
    · have ih := comb_mem n t l' h'
      refine ⟨by simp [ih.1], fun r hr => ?_⟩
      rcases List.mem_cons.1 hr with hr | hr
      · rw [hr]; exact List.mem_cons_self
      · exact List.mem_cons_of_mem _ (ih.2 r hr)
    · have ih := comb_mem (n + 1) t l h
      exact ⟨ih.1, fun r hr => List.mem_cons_of_mem _ (ih.2 r hr)⟩
def res (P : List SRule → Bool) (n : Nat) (out : List (List SRule)) (list : List SRule) (m : Nat) (fit : List SRule) : List (List SRule) := (out ++ (((comb m fit).map (fun l => list ++ l)).filter P)).take n
theorem take_app {α : Type} (A B : List α) (n : Nat) : (A.take n ++ B).take n = (A ++ B).take n := by
  rw [List.take_append, List.take_append, List.take_take, Nat.min_self, List.length_take]
  congr 2
  omega
theorem res_full (P : List SRule → Bool) (n : Nat) (out : List (List SRule)) (list : List SRule) (m : Nat) (fit : List SRule) (h : out.length = n) : res P n out list m fit = out := by
  unfold res
  rw [List.take_append, List.take_of_length_le (by omega)]
  simp [h]
theorem res_nil (P : List SRule → Bool) (n : Nat) (out : List (List SRule)) (list : List SRule) (m : Nat) (h : out.length ≤ n) : res P n out list (m + 1) [] = out := by
  unfold res
  simp [comb, List.take_of_length_le h]
theorem res_step (P : List SRule → Bool) (n : Nat) (out : List (List SRule)) (list : List SRule) (m : Nat) (r : SRule) (t : List SRule) : res P n (res P n out (list ++ [r]) m t) list (m + 1) t = res P n out list (m + 1) (r :: t) := by
  unfold res
  rw [take_app]
  simp only [comb, List.map_append, List.filter_append, List.map_map, List.append_assoc]
  congr 4
theorem res_length (P : List SRule → Bool) (n : Nat) (out : List (List SRule)) (list : List SRule) (m : Nat) (fit : List SRule) : (res P n out list m fit).length ≤ n := by
  unfold res
  rw [List.length_take]; omega
theorem res_zero (P : List SRule → Bool) (n : Nat) (out : List (List SRule)) (list fit : List SRule) (h : out.length < n) : res P n out list 0 fit = if P list = true then out ++ [list] else out := by
  unfold res
  simp only [comb, List.map_cons, List.map_nil, List.append_nil]
  by_cases c : P list = true
  · rw [if_pos c, List.filter_cons, if_pos c, List.filter_nil, List.take_of_length_le (by simp; omega)]
  · rw [if_neg c, List.filter_cons, if_neg c, List.filter_nil, List.append_nil, List.take_of_length_le (by omega)]
def agB (s : ByteArray) (l : List SRule) : Bool := agD s l 0 s.size
def cvB (s : ByteArray) (l : List SRule) : Bool := covD s l 0 s.size
theorem all_snoc (l : List SRule) (r : SRule) (h : l.all okRule = true) (hr : okRule r = true) : (l ++ [r]).all okRule = true := by simp [h, hr]
theorem implCh_f (s : ByteArray) (hs : s.data.toList.all sign = true) (hz : s.size ≤ 48) (F : List SRule) (R most : Nat) (hR : R ≤ 3) (hM : most ≤ 301) (i : Nat)
    (hl0 : ∀ (m : Nat) (list : List SRule) (out : List (List SRule)), list.length + (m + 1) = R → list.all okRule = true → out.length ≤ most → Ev (fun k => impl_someAnswers_1.l0 k s R most F list out (i : Int)) (res (agB s) most out list (m + 1) (F.drop i))) :
    ∀ (m : Nat) (list : List SRule) (out : List (List SRule)), list.length + m = R → list.all okRule = true → out.length ≤ most → Ev (fun k => impl_someAnswers_1.f k s R most F list (i : Int) out) (res (agB s) most out list m (F.drop i)) := by
  intro m list out h1 h2 h3
  by_cases c : out.length = most
  · rw [res_full _ _ _ _ _ _ c]
    refine Ev.mk' 0 fun k hk => ?_
    simp only [impl_someAnswers_1.f]
    rw [if_pos (by omega)]
  · cases m with
    | zero =>
      obtain ⟨K, ha⟩ := agrees_l0 s hs hz list h2 s.size 0 (by omega)
      have ha : ∀ k, K ≤ k → impl_agrees.f k s list = some (agB s list) := ha
      rw [res_zero _ _ _ _ _ (by omega)]
      refine Ev.mk' K fun k hk => ?_
      simp only [impl_someAnswers_1.f, ha k hk, obind]
      rw [if_neg (by omega), if_pos (by omega)]
      by_cases c2 : agB s list = true
      · rw [if_pos c2, if_pos c2, if_pos (by omega)]
      · rw [if_neg c2, if_neg c2]
    | succ m =>
      obtain ⟨K, hk⟩ := hl0 m list out h1 h2 h3
      refine Ev.mk' K fun k hk' => ?_
      simp only [impl_someAnswers_1.f]
      rw [if_neg (by omega), if_neg (by omega)]
      exact hk k hk'
theorem implCh_l0 (s : ByteArray) (hs : s.data.toList.all sign = true) (hz : s.size ≤ 48) (F : List SRule) (hF : F.all okRule = true) (hL : F.length ≤ 99) (R most : Nat) (hR : R ≤ 3) (hM : most ≤ 301) :
    ∀ (d i : Nat), i + d = F.length → ∀ (m : Nat) (list : List SRule) (out : List (List SRule)), list.length + (m + 1) = R → list.all okRule = true → out.length ≤ most → Ev (fun k => impl_someAnswers_1.l0 k s R most F list out (i : Int)) (res (agB s) most out list (m + 1) (F.drop i))
  | 0, i, h, m, list, out, h1, h2, h3 => by
    rw [List.drop_of_length_le (by omega), res_nil _ _ _ _ _ h3]
    refine Ev.mk' 0 fun k hk => ?_
    simp only [impl_someAnswers_1.l0]
    rw [if_neg (by omega)]
  | d + 1, i, h, m, list, out, h1, h2, h3 => by
    have IH := implCh_l0 s hs hz F hF hL R most hR hM d (i + 1) (by omega)
    have hr : okRule (rd_Rule F i) = true := List.all_eq_true.1 hF _ (rd_mem F i (by omega))
    obtain ⟨K1, e1⟩ := implCh_f s hs hz F R most hR hM (i + 1) IH m (list ++ [rd_Rule F i]) out (by simp; omega) (all_snoc _ _ h2 hr) h3
    obtain ⟨K2, e2⟩ := IH m list (res (agB s) most out (list ++ [rd_Rule F i]) m (F.drop (i + 1))) h1 h2 (res_length _ _ _ _ _ _)
    dsimp only at e1 e2
    rw [drop_rd F i (by omega), ← res_step]
    refine Ev.mk' (K1 + K2) fun k hk => ?_
    simp only [impl_someAnswers_1.l0]
    rw [if_pos (by omega), if_pos (by omega), if_pos (by omega), show wrap64 ((i : Int) + 1) = ((i + 1 : Nat) : Int) from wrap_id (by omega) (by omega), e1 k (by omega), obind, e2 k (by omega)]
theorem specAll_f (s : ByteArray) (hs : s.data.toList.all sign = true) (hz : s.size ≤ 48) (fit : List SRule)
    (hl0 : ∀ (m : Nat) (rules : List SRule) (out : List (List SRule)), rules.length + (m + 1) ≤ 3 → rules.all okRule = true → out.length ≤ 301 → Ev (fun k => spec_pzAll.l0 k s fit rules ((m + 1 : Nat) : Int) out 0) (res (cvB s) 301 out rules (m + 1) fit)) :
    ∀ (m : Nat) (rules : List SRule) (out : List (List SRule)), rules.length + m ≤ 3 → rules.all okRule = true → out.length ≤ 300 → Ev (fun k => spec_pzAll.f k s fit rules (m : Int) out) (res (cvB s) 301 out rules m fit) := by
  intro m rules out h1 h2 h3
  cases m with
  | zero =>
    obtain ⟨K, ha⟩ := pzCovers_l0 s hs hz rules (by omega) h2 s.size 0 (by omega)
    have ha : ∀ k, K ≤ k → spec_pzCovers.f k s rules = some (cvB s rules) := ha
    rw [res_zero _ _ _ _ _ (by omega)]
    refine Ev.mk' K fun k hk => ?_
    simp only [spec_pzAll.f, ha k hk, obind]
    rw [if_pos (by omega)]
    by_cases c2 : cvB s rules = true
    · rw [if_pos c2, if_pos c2, if_pos (by omega), if_pos (by omega)]
    · rw [if_neg c2, if_neg c2]
  | succ m =>
    obtain ⟨K, hk⟩ := hl0 m rules out h1 h2 (by omega)
    refine Ev.mk' K fun k hk' => ?_
    simp only [spec_pzAll.f]
    rw [if_neg (by omega)]
    exact hk k hk'
theorem specAll_l0 (s : ByteArray) (hs : s.data.toList.all sign = true) (hz : s.size ≤ 48) :
    ∀ (d : Nat) (fit : List SRule) (i : Nat), fit.all okRule = true → fit.length ≤ 99 → i + d = fit.length → ∀ (m : Nat) (rules : List SRule) (out : List (List SRule)), rules.length + (m + 1) ≤ 3 → rules.all okRule = true → out.length ≤ 301 → Ev (fun k => spec_pzAll.l0 k s fit rules ((m + 1 : Nat) : Int) out i) (res (cvB s) 301 out rules (m + 1) (fit.drop i))
  | 0, fit, i, hF, hL, h, m, rules, out, h1, h2, h3 => by
    rw [List.drop_of_length_le (by omega), res_nil _ _ _ _ _ h3]
    refine Ev.mk' 0 fun k hk => ?_
    simp only [spec_pzAll.l0]
    rw [if_neg (by omega)]
  | d + 1, fit, i, hF, hL, h, m, rules, out, h1, h2, h3 => by
    by_cases c : 300 < out.length
    · rw [res_full _ _ _ _ _ _ (by omega)]
      refine Ev.mk' 0 fun k hk => ?_
      simp only [spec_pzAll.l0]
      rw [if_pos (by omega), if_pos c]
    · have hr : okRule (rd_Rule fit i) = true := List.all_eq_true.1 hF _ (rd_mem fit i (by omega))
      have hFd : (fit.drop (i + 1)).all okRule = true := List.all_eq_true.2 fun x hx => List.all_eq_true.1 hF x (List.mem_of_mem_drop hx)
      have hdl : (fit.drop (i + 1)).length = d := by rw [List.length_drop]; omega
      obtain ⟨K1, e1⟩ := specAll_f s hs hz (fit.drop (i + 1)) (fun m' rules' out' g1 g2 g3 => by have := specAll_l0 s hs hz d (fit.drop (i + 1)) 0 hFd (by omega) (by omega) m' rules' out' g1 g2 g3; rwa [List.drop_zero] at this) m (rules ++ [rd_Rule fit i]) out (by simp; omega) (all_snoc _ _ h2 hr) (by omega)
      obtain ⟨K2, e2⟩ := specAll_l0 s hs hz d fit (i + 1) hF hL (by omega) m rules (res (cvB s) 301 out (rules ++ [rd_Rule fit i]) m (fit.drop (i + 1))) h1 h2 (res_length _ _ _ _ _ _)
      dsimp only at e1 e2
      rw [drop_rd fit i (by omega), ← res_step]
      refine Ev.mk' (K1 + K2) fun k hk => ?_
      simp only [spec_pzAll.l0]
      rw [if_pos (by omega), if_neg c, if_pos (by omega), show wrap64 (((m + 1 : Nat) : Int) - 1) = (m : Int) by rw [wrap_id (by omega) (by omega)]; omega, e1 k (by omega), obind, e2 k (by omega)]
theorem rowFit_all (s : ByteArray) (e : Int) (h0 : 2 ≤ e) (h1 : e ≤ 10) : ∀ (d : Nat) (t : Int), 0 ≤ t → t + d = e → ∀ r ∈ rowFit s e t d, okRule r = true ∧ fitD s r.f0 r.f1 0 s.size = true
  | 0, t, _, _, r, h => by simp [rowFit] at h
  | d + 1, t, ht, hd, r, h => by
    simp only [rowFit, List.mem_append] at h
    rcases h with h | h
    · cases c : fitD s e t 0 s.size with
      | true =>
        rw [c, cond_true, List.mem_singleton] at h
        subst h
        exact ⟨(okRule_iff _).2 ⟨h0, by show e ≤ 60; omega, ht, by show t < e; omega⟩, c⟩
      | false => rw [c] at h; simp at h
    · exact rowFit_all s e h0 h1 d (t + 1) (by omega) (by omega) r h
theorem allFit_all (s : ByteArray) : ∀ (d : Nat) (e : Int), 2 ≤ e → e + d = 11 → ∀ r ∈ allFit s e d, okRule r = true ∧ fitD s r.f0 r.f1 0 s.size = true
  | 0, e, _, _, r, h => by simp [allFit] at h
  | d + 1, e, h0, hd, r, h => by
    simp only [allFit, List.mem_append] at h
    rcases h with h | h
    · exact rowFit_all s e h0 (by omega) e.toNat 0 (by omega) (by omega) r h
    · exact allFit_all s d (e + 1) (by omega) (by omega) r h
theorem fitOf_all (s : ByteArray) : ∀ r ∈ fitOf s, okRule r = true ∧ fitD s r.f0 r.f1 0 s.size = true := allFit_all s 9 2 (by omega) (by omega)
theorem fitOf_ok (s : ByteArray) : (fitOf s).all okRule = true := List.all_eq_true.2 fun r h => (fitOf_all s r h).1
def answers (s : ByteArray) (R : Nat) : List (List SRule) := (comb R (fitOf s)).filter (agB s)
theorem map_nil_app (L : List (List SRule)) : L.map (fun l => ([] : List SRule) ++ l) = L := by
  induction L with
  | nil => rfl
  | cons x t ih => rw [List.map_cons, ih]; rfl
theorem answers_cov (s : ByteArray) (hs : s.data.toList.all sign = true) (R : Nat) : (comb R (fitOf s)).filter (cvB s) = answers s R := by
  unfold answers
  refine List.filter_congr fun l hl => ?_
  have hm := comb_mem R (fitOf s) l hl
  unfold agB cvB
  rw [agD_eq s hs l s.size 0 (by omega), List.all_eq_true.2 (fun r hr => (fitOf_all s r (hm.2 r hr)).2), Bool.true_and]
theorem someAnswers_ev (s : ByteArray) (hs : s.data.toList.all sign = true) (hz : s.size ≤ 48) (R most : Nat) (hR : R ≤ 3) (hM : most ≤ 301) : Ev (fun k => impl_someAnswers.f k s R most) ((answers s R).take most) := by
  obtain ⟨K1, h1⟩ := fitting_ev s hz
  obtain ⟨K2, h2⟩ := implCh_f s hs hz (fitOf s) R most hR hM 0 (implCh_l0 s hs hz (fitOf s) (fitOf_ok s) (fitOf_length s) R most hR hM (fitOf s).length 0 (by omega)) R [] [] (by simp) rfl (by simp)
  dsimp only at h1 h2
  refine ⟨K1 + K2, fun k hk => ?_⟩
  have h2 : impl_someAnswers_1.f k s R most (fitOf s) [] 0 [] = _ := h2 k (by omega)
  simp only [impl_someAnswers.f, h1 k (by omega), obind, h2]
  unfold res answers
  rw [List.drop_zero, map_nil_app]; rfl
theorem pzAll_ev (s : ByteArray) (hs : s.data.toList.all sign = true) (hz : s.size ≤ 48) (R : Nat) (hR : R ≤ 3) : Ev (fun k => spec_pzAll.f k s (fitOf s) [] (R : Int) []) ((answers s R).take 301) := by
  have h := specAll_f s hs hz (fitOf s) (fun m rules out g1 g2 g3 => by have := specAll_l0 s hs hz (fitOf s).length (fitOf s) 0 (fitOf_ok s) (fitOf_length s) (by omega) m rules out g1 g2 g3; rwa [List.drop_zero] at this) R [] [] (by simp; omega) rfl (by simp)
  unfold res at h
  rw [map_nil_app, answers_cov s hs] at h
  exact h
end Go.Proofs.YtkloiiojigofpaaDoor.P
namespace Go.Proofs.YtkloiiojigofpaaDoor.P
open Go.RowKit Go.Proofs.YtkloiiojigofpaaDoorW.PrintWords Go.Proofs.YtkloiiojigofpaaDoorW.PrintLast
set_option linter.unusedVariables false
set_option linter.unusedSimpArgs false
theorem good_parts {s : ByteArray} {n : Int} (h : goodP s n = true) : 1 ≤ s.size ∧ s.size ≤ 48 ∧ s.data.toList.all sign = true ∧ 0 ≤ n ∧ n ≤ 3 := by
  unfold goodP at h
  simp only [Bool.and_eq_true, decide_eq_true_eq] at h
  exact ⟨h.1, h.2.1, h.2.2.1, h.2.2.2.1, h.2.2.2.2⟩
def ansV (s : ByteArray) (n : Int) : List (List SRule) × Bool := if goodP s n = true ∧ (answers s n.toNat).length ≤ 300 then (answers s n.toNat, true) else ([], false)
theorem ansV_length (s : ByteArray) (n : Int) : (ansV s n).1.length ≤ 300 := by
  unfold ansV
  split
  · next h => exact h.2
  · simp
theorem answers_mem (s : ByteArray) (R : Nat) : ∀ l ∈ answers s R, l.length = R ∧ ∀ r ∈ l, r ∈ fitOf s := fun l hl => comb_mem R (fitOf s) l ((List.mem_filter.1 hl).1)
theorem ansV_mem (s : ByteArray) (n : Int) : ∀ l ∈ (ansV s n).1, l.length ≤ 3 := by
  intro l hl
  unfold ansV at hl
  split at hl
  · next h =>
    have := (answers_mem s n.toNat l hl).1
    have := good_parts h.1
    omega
  · simp at hl
theorem take301 {α : Type} (L : List α) : (((L.take 301).length : Int) > 300) ↔ ¬ L.length ≤ 300 := by rw [List.length_take]; omega
theorem take301' {α : Type} (L : List α) (h : L.length ≤ 300) : L.take 301 = L := List.take_of_length_le (by omega)
theorem pzAnswers_ev (s : ByteArray) (n : Int) : Ev (fun k => spec_pzAnswers.f k s n) (ansV s n) := by
  obtain ⟨K1, h1⟩ := pzGood_ev s n
  dsimp only at h1
  unfold ansV
  by_cases hg : goodP s n = true
  · obtain ⟨g1, g2, g3, g4, g5⟩ := good_parts hg
    obtain ⟨K2, h2⟩ := pzFit_ev s g3 g2
    obtain ⟨K3, h3⟩ := pzAll_ev s g3 g2 n.toNat (by omega)
    rw [show ((n.toNat : Nat) : Int) = n by omega] at h3
    dsimp only at h2 h3
    refine ⟨K1 + K2 + K3, fun k hk => ?_⟩
    simp (disch := omega) only [spec_pzAnswers.f, h1, h2, h3, obind, hg, if_true]
    by_cases c : (answers s n.toNat).length ≤ 300
    · rw [if_neg (fun h => (take301 _).1 h c), if_pos ⟨trivial, c⟩, take301' _ c]
    · rw [if_pos ((take301 _).2 c), if_neg (fun h => c h.2)]
  · have hf := Bool.eq_false_iff.2 hg
    rw [if_neg (fun h => hg h.1)]
    refine ⟨K1, fun k hk => ?_⟩
    simp only [spec_pzAnswers.f, h1 k hk, obind, hf, Bool.false_eq_true, if_false]
theorem answersOf_ev (s : ByteArray) (n : Int) : Ev (fun k => impl_answersOf.f k s n) (ansV s n) := by
  unfold ansV
  by_cases hg : goodP s n = true
  · obtain ⟨g1, g2, g3, g4, g5⟩ := good_parts hg
    obtain ⟨K3, h3⟩ := someAnswers_ev s g3 g2 n.toNat 301 (by omega) (by omega)
    rw [show ((n.toNat : Nat) : Int) = n by omega] at h3
    have h3 : ∀ k, K3 ≤ k → impl_someAnswers.f k s n 301 = _ := h3
    refine ⟨K3, fun k hk => ?_⟩
    simp (disch := omega) only [impl_answersOf.f, isPuzzle_ok, h3, obind, hg, if_true]
    by_cases c : (answers s n.toNat).length ≤ 300
    · rw [if_neg (fun h => (take301 _).1 h c), if_pos ⟨trivial, c⟩, take301' _ c]
    · rw [if_pos ((take301 _).2 c), if_neg (fun h => c h.2)]
  · have hf := Bool.eq_false_iff.2 hg
    rw [if_neg (fun h => hg h.1)]
    refine ⟨0, fun k hk => ?_⟩
    simp only [impl_answersOf.f, isPuzzle_ok, obind, hf, Bool.false_eq_true, if_false]
end Go.Proofs.YtkloiiojigofpaaDoor.P
namespace Go.Proofs.YtkloiiojigofpaaDoor.P
open Go.RowKit Go.Proofs.YtkloiiojigofpaaDoorW.PrintWords Go.Proofs.YtkloiiojigofpaaDoorW.PrintLast
set_option linter.unusedVariables false
set_option linter.unusedSimpArgs false
theorem take_set {α : Type} (l : List α) (i : Nat) (v : α) (h : i < l.length) : (l.set i v).take (i + 1) = l.take i ++ [v] := by
  rw [List.take_succ_eq_append_getElem (by simpa using h)]
  simp only [List.take_set, List.getElem_set_self]
  rw [List.set_eq_of_length_le (by simp; omega)]
theorem eqRule_self (x : SRule) : laws_eqRule.f x.f0 x.f1 x.f0 x.f1 = some true := by simp [laws_eqRule.f]
theorem eqRuleS_l0 (l : List SRule) (hm : l.length ≤ 17592186044416) : ∀ (d i : Nat), i + d = l.length → Ev (fun k => laws_eqRuleS.l0 k l l i) true
  | 0, i, h => Ev.mk' 0 fun k _ => by
    simp only [laws_eqRuleS.l0]
    rw [if_neg (by omega)]
  | d + 1, i, h => by
    obtain ⟨K, ih⟩ := eqRuleS_l0 l hm d (i + 1) (by omega)
    dsimp only at ih
    refine Ev.mk' K fun k hk => ?_
    simp only [laws_eqRuleS.l0]
    rw [if_pos (by omega), if_pos (by omega), if_pos (by omega), eqRule_self]
    rw [show wrap64 ((i : Int) + 1) = ((i + 1 : Nat) : Int) from wrap_id (by omega) (by omega)]
    simpa using ih k hk
theorem eqRuleS_ev (l : List SRule) (hm : l.length ≤ 17592186044416) : Ev (fun k => laws_eqRuleS.f k l l) true := by
  obtain ⟨K, ih⟩ := eqRuleS_l0 l hm l.length 0 (by omega)
  refine ⟨K, fun k hk => ?_⟩
  simp only [laws_eqRuleS.f]
  rw [if_pos trivial]
  exact ih k hk
end Go.Proofs.YtkloiiojigofpaaDoor.P
namespace Go.Proofs.YtkloiiojigofpaaDoor.P
open Go.RowKit Go.Proofs.YtkloiiojigofpaaDoorW.PrintWords Go.Proofs.YtkloiiojigofpaaDoorW.PrintLast
set_option linter.unusedVariables false
set_option linter.unusedSimpArgs false
def marksR (a : Int) : Nat → List SRule
  | 0 => []
  | n + 1 => ⟨a, a + 1⟩ :: marksR (a + 2) n
theorem marksR_length (n : Nat) : ∀ a, (marksR a n).length = n := by
  induction n with
  | zero => intro a; rfl
  | succ n ih => intro a; simp [marksR, ih]
theorem rd_set (l : List SRule) (i : Nat) (v : SRule) (h : i < l.length) : rd_Rule (l.set i v) i = v := by
  simp [rd_Rule, List.getD, h]
theorem markRuleS_l0 : ∀ (d i : Nat) (a : Int) (x : List SRule), i + d = x.length → 0 ≤ a → a + 2 * d ≤ 4611686018427387904 → x.length ≤ 4611686018427387904 → Ev (fun k => laws_markRuleS.l0 k x a i) (a + 2 * d, x.take i ++ marksR a d)
  | 0, i, a, x, h, h0, h1, h2 => Ev.mk' 0 fun k _ => by
    simp only [laws_markRuleS.l0]
    rw [if_neg (by omega), List.take_of_length_le (by omega)]; simp [marksR]
  | d + 1, i, a, x, h, h0, h1, h2 => by
    obtain ⟨K, ih⟩ := markRuleS_l0 d (i + 1) (a + 2) (x.set i ⟨a, a + 1⟩) (by simp; omega) (by omega) (by omega) (by simpa using h2)
    dsimp only at ih
    refine Ev.mk' K fun k hk => ?_
    simp only [laws_markRuleS.l0, Option.bind_some, Int.toNat_natCast]
    rw [if_pos (by omega), if_pos (by omega)]
    rw [show wrap64 ((i : Int) + 1) = ((i + 1 : Nat) : Int) from wrap_id (by omega) (by omega), show wrap64 (a + 1) = a + 1 from wrap_id (by omega) (by omega), show wrap64 (a + 1 + 1) = a + 2 by rw [wrap_id (by omega) (by omega)]; omega]
    rw [rd_set x i _ (by omega), List.set_set]
    have := ih k hk
    rw [take_set x i _ (by omega)] at this
    rw [this, marksR]
    simp; omega
theorem markRuleS_ev (x : List SRule) (a : Int) (h0 : 0 ≤ a) (h1 : a + 2 * x.length ≤ 4611686018427387904) (h2 : x.length ≤ 4611686018427387904) : Ev (fun k => laws_markRuleS.f k x a) (a + 2 * x.length, marksR a x.length) := by
  obtain ⟨K, ih⟩ := markRuleS_l0 x.length 0 a x (by omega) h0 h1 h2
  refine ⟨K, fun k hk => ?_⟩
  simp only [laws_markRuleS.f]
  simpa using ih k hk
theorem heldRuleS_l0 : ∀ (d : Nat) (a : Int) (p : List SRule), 0 ≤ a → a + 2 * d ≤ 4611686018427387904 → p.length + d ≤ 4611686018427387904 → Ev (fun k => laws_heldRuleS.l0 k (p ++ marksR a d) a p.length) (a + 2 * d)
  | 0, a, p, h0, h1, h2 => Ev.mk' 0 fun k _ => by
    simp only [laws_heldRuleS.l0]
    rw [if_neg (by simp [marksR])]; simp
  | d + 1, a, p, h0, h1, h2 => by
    obtain ⟨K, ih⟩ := heldRuleS_l0 d (a + 2) (p ++ [⟨a, a + 1⟩]) (by omega) (by omega) (by simp; omega)
    dsimp only at ih
    refine Ev.mk' K fun k hk => ?_
    simp only [laws_heldRuleS.l0]
    have hr : rd_Rule (p ++ marksR a (d + 1)) (p.length : Int) = ⟨a, a + 1⟩ := by simp [rd_Rule, marksR]
    rw [if_pos (by simp [marksR_length]; omega), if_pos (by omega), hr]
    rw [show wrap64 ((p.length : Int) + 1) = ((p.length + 1 : Nat) : Int) from wrap_id (by omega) (by omega), show wrap64 (a + 1) = a + 1 from wrap_id (by omega) (by omega), show wrap64 (a + 1 + 1) = a + 2 by rw [wrap_id (by omega) (by omega)]; omega]
    rw [if_pos rfl, if_pos rfl]
    have := ih k hk
    simp only [List.length_append, List.length_singleton, List.append_assoc, List.singleton_append] at this
    rw [marksR, this]
    congr 1; omega
theorem heldRuleS_ev (n : Nat) (a : Int) (h0 : 0 ≤ a) (h1 : a + 2 * n ≤ 4611686018427387904) (h2 : n ≤ 4611686018427387904) : Ev (fun k => laws_heldRuleS.f k (marksR a n) a) (a + 2 * n) := by
  obtain ⟨K, ih⟩ := heldRuleS_l0 n a [] h0 h1 (by simpa using h2)
  refine ⟨K, fun k hk => ?_⟩
  simp only [laws_heldRuleS.f]
  simpa using ih k hk
end Go.Proofs.YtkloiiojigofpaaDoor.P
namespace Go.Proofs.YtkloiiojigofpaaDoor.P
open Go.RowKit Go.Proofs.YtkloiiojigofpaaDoorW.PrintWords Go.Proofs.YtkloiiojigofpaaDoorW.PrintLast
set_option linter.unusedVariables false
set_option linter.unusedSimpArgs false
def hasV (x : SRule) (a : List SRule) : Bool := a.any fun y => y.f0 == x.f0 && y.f1 == x.f1
theorem pzHas_l0 (a : List SRule) (x : SRule) (hm : a.length ≤ 1000) : ∀ (d i k : Nat), i + d = a.length → d < k → spec_pzHas.l0 k a a.length i x.f0 x.f1 = some (hasV x (a.drop i))
  | 0, i, k, h, hk => by
    obtain ⟨k, rfl⟩ : ∃ k', k = k' + 1 := ⟨k - 1, by omega⟩
    simp only [spec_pzHas.l0]
    rw [if_neg (by omega), List.drop_eq_nil_of_le (by omega)]; rfl
  | d + 1, i, k, h, hk => by
    obtain ⟨k, rfl⟩ : ∃ k', k = k' + 1 := ⟨k - 1, by omega⟩
    have ih := pzHas_l0 a x hm d (i + 1) k (by omega) (by omega)
    simp only [spec_pzHas.l0]
    rw [if_pos (by omega), if_pos (by omega), if_pos (by omega), wrap_id (by omega) (by omega), show ((i : Int) + 1) = ((i + 1 : Nat) : Int) by omega, ih, rd_drop a i (by omega)]
    unfold hasV
    rw [List.any_cons]
    by_cases c : ((rd_Rule a i).f0 == x.f0 && (rd_Rule a i).f1 == x.f1) = true
    · rw [if_pos c, c]; rfl
    · rw [if_neg c, Bool.eq_false_iff.2 c]; rfl
theorem pzHas_ok (a : List SRule) (x : SRule) (hm : a.length ≤ 1000) (k : Nat) (hk : a.length < k) : spec_pzHas.f k a x.f0 x.f1 = some (hasV x a) := by
  have h := pzHas_l0 a x hm a.length 0 k (by omega) hk
  rw [List.drop_zero] at h
  exact h
theorem con_l0 (a : List SRule) (x : SRule) (hm : a.length ≤ 1000) : ∀ (d i k : Nat), i + d = a.length → d < k → ∃ n : Int, impl_Rule_67.l0 k a a.length i x.f0 x.f1 = some n ∧ decide (n ≥ 0) = hasV x (a.drop i)
  | 0, i, k, h, hk => by
    obtain ⟨k, rfl⟩ : ∃ k', k = k' + 1 := ⟨k - 1, by omega⟩
    refine ⟨-1, ?_, ?_⟩
    · simp only [impl_Rule_67.l0]
      rw [if_neg (by omega)]
    · rw [List.drop_eq_nil_of_le (by omega)]; rfl
  | d + 1, i, k, h, hk => by
    obtain ⟨k, rfl⟩ : ∃ k', k = k' + 1 := ⟨k - 1, by omega⟩
    obtain ⟨n, ih, h2⟩ := con_l0 a x hm d (i + 1) k (by omega) (by omega)
    have hs : (x.f0 == (rd_Rule a i).f0 && x.f1 == (rd_Rule a i).f1) = ((rd_Rule a i).f0 == x.f0 && (rd_Rule a i).f1 == x.f1) := by rw [Bool.beq_comm, Bool.beq_comm (a := x.f1)]
    simp only [impl_Rule_67.l0]
    rw [if_pos (by omega), if_pos (by omega), if_pos (by omega), wrap_id (by omega) (by omega), show ((i : Int) + 1) = ((i + 1 : Nat) : Int) by omega, ih, rd_drop a i (by omega), hs]
    unfold hasV at h2 ⊢
    rw [List.any_cons]
    by_cases c : ((rd_Rule a i).f0 == x.f0 && (rd_Rule a i).f1 == x.f1) = true
    · exact ⟨i, by rw [if_pos c], by rw [c, Bool.true_or]; simp⟩
    · exact ⟨n, by rw [if_neg c], by rw [Bool.eq_false_iff.2 c, Bool.false_or]; exact h2⟩
theorem con_ok (a : List SRule) (x : SRule) (hm : a.length ≤ 1000) (k : Nat) (hk : a.length < k) : impl_Rule_44.f k a x.f0 x.f1 = some (hasV x a) := by
  obtain ⟨n, h, h2⟩ := con_l0 a x hm a.length 0 k (by omega) hk
  rw [List.drop_zero] at h2
  have h : impl_Rule_67.f k a x.f0 x.f1 = some n := h
  simp only [impl_Rule_44.f, h, obind]
  rw [h2]
def sureV (s : ByteArray) (n : Int) : List SRule × Bool := if (ansV s n).2 = true ∧ (ansV s n).1.length ≠ 0 then ((rd_Rules (ansV s n).1 0).filter fun x => (ansV s n).1.all (hasV x), true) else ([], false)
theorem rd0_mem {L : List (List SRule)} (h : L.length ≠ 0) : rd_Rules L 0 ∈ L := by
  cases L with
  | nil => exact absurd rfl h
  | cons a t => simp [rd_Rules]
theorem sureV_length (s : ByteArray) (n : Int) : (sureV s n).1.length ≤ 3 := by
  unfold sureV
  split
  · rename_i h
    exact Nat.le_trans (List.length_filter_le _ _) (ansV_mem s n _ (rd0_mem h.2))
  · simp
theorem SureRules_main (s : ByteArray) (n : Int) : Ev (fun k => spec_SureRules.f k s n) (sureV s n) ∧ Ev (fun k => impl_SureRules.f k s n) (sureV s n) := by
  obtain ⟨K1, h1⟩ := pzAnswers_ev s n
  obtain ⟨K2, h2⟩ := answersOf_ev s n
  dsimp only at h1 h2
  have hm := ansV_mem s n
  unfold sureV
  generalize ansV s n = A at h1 h2 hm ⊢
  obtain ⟨L, t⟩ := A
  dsimp only at h1 h2 hm ⊢
  cases t with
  | false =>
    rw [if_neg (by simp)]
    constructor
    · refine ⟨K1, fun k hk => ?_⟩
      simp only [spec_SureRules.f, h1 k hk, obind, Bool.false_eq_true, if_false]
    · refine ⟨K2, fun k hk => ?_⟩
      simp only [impl_SureRules.f, h2 k hk, obind, Bool.false_eq_true, if_false]
  | true =>
    by_cases c : L.length = 0
    · rw [if_neg (by simp [c])]
      constructor
      · refine ⟨K1, fun k hk => ?_⟩
        simp only [spec_SureRules.f, h1 k hk, obind, if_true, if_pos c]
      · refine ⟨K2, fun k hk => ?_⟩
        simp only [impl_SureRules.f, h2 k hk, obind, if_true, if_pos c]
    · rw [if_pos ⟨rfl, c⟩]
      have hr := hm _ (rd0_mem c)
      constructor
      · refine ⟨K1 + 5, fun k hk => ?_⟩
        have e1 : ∀ x ∈ rd_Rules L 0, L.all (sureHas k x) = L.all (hasV x) := fun x hx => by
          have : ∀ a ∈ L, sureHas k x a = hasV x a := fun a ha => by
            unfold sureHas
            rw [pzHas_ok a x (by have := hm a ha; omega) k (by have := hm a ha; omega)]
            cases hasV x a <;> rfl
          rw [Bool.eq_iff_iff, List.all_eq_true, List.all_eq_true]
          exact ⟨fun h a ha => by rw [← this a ha]; exact h a ha, fun h a ha => by rw [this a ha]; exact h a ha⟩
        simp only [spec_SureRules.f, h1 k (by omega), obind, if_true, if_neg c]
        rw [if_pos ⟨by omega, List.all_eq_true.2 fun x hx => List.all_eq_true.2 fun a ha => by rw [pzHas_ok a x (by have := hm a ha; omega) k (by have := hm a ha; omega)]; rfl⟩, List.filter_congr e1]
      · refine ⟨K2 + 5, fun k hk => ?_⟩
        have e1 : ∀ x ∈ rd_Rules L 0, (!(L.any (sureMiss k x))) = L.all (hasV x) := fun x hx => by
          have : ∀ a ∈ L, sureMiss k x a = !(hasV x a) := fun a ha => by
            unfold sureMiss
            rw [con_ok a x (by have := hm a ha; omega) k (by have := hm a ha; omega)]
            cases hasV x a <;> rfl
          rw [List.all_eq_not_any_not]
          congr 1
          rw [Bool.eq_iff_iff, List.any_eq_true, List.any_eq_true]
          exact ⟨fun ⟨a, ha, h_⟩ => ⟨a, ha, by rw [← this a ha]; exact h_⟩, fun ⟨a, ha, h_⟩ => ⟨a, ha, by rw [this a ha]; exact h_⟩⟩
        simp only [impl_SureRules.f, h2 k (by omega), obind, if_true, if_neg c]
        rw [if_pos ⟨by omega, List.all_eq_true.2 fun x hx => List.all_eq_true.2 fun a ha => by rw [con_ok a x (by have := hm a ha; omega) k (by have := hm a ha; omega)]; rfl⟩, List.filter_congr e1]
theorem FnExactSureRules : laws_FnExactSureRules.Pure := by
  intro s n hs w
  by_cases h : s.size ≤ 1048576
  · obtain ⟨⟨K3, h3⟩, ⟨K4, h4⟩⟩ := SureRules_main s n
    have hb := sureV_length s n
    obtain ⟨K5, h5⟩ := eqRuleS_ev (sureV s n).1 (by omega)
    obtain ⟨K7, h7⟩ := markRuleS_ev (sureV s n).1 1 (by omega) (by omega) (by omega)
    obtain ⟨K8, h8⟩ := heldRuleS_ev (sureV s n).1.length 1 (by omega) (by omega) (by omega)
    dsimp only at h3 h4 h5 h7 h8
    have n0 : ¬ (1048576 - (s.size : Int) < 0) := by omega
    have n2 : ¬ (1 + 2 * ((sureV s n).1.length : Int) < 0) := by omega
    refine ⟨K3 + K4 + K5 + K7 + K8 + 4, ?_⟩
    simp (disch := omega) only [laws_FnExactSureRules.f, szPuzzle_ok s n hs, if_pos h, obind, if_neg n0, laws_toPuzzle.f, h3, h4, h5, h7, h8, if_neg n2, bne_self_eq_false, Bool.false_eq_true, if_false, if_true]
    simp (disch := omega) only [laws_FnExactSureRules.j0, obind, laws_toPuzzle.f, h3, h4, h5, h7, h8, if_neg n2, bne_self_eq_false, Bool.false_eq_true, if_false, if_true]
    simp (disch := omega) only [laws_FnExactSureRules.j1, obind, laws_toPuzzle.f, h3, h4, h5, h7, h8, if_neg n2, bne_self_eq_false, Bool.false_eq_true, if_false, if_true]
  · refine ⟨0, ?_⟩
    simp only [laws_FnExactSureRules.f, szPuzzle_ok s n hs, if_neg h, obind]
    simp
end Go.Proofs.YtkloiiojigofpaaDoor.P
