/- The plain laws on what the functions answer; the last one: the law FnPuzzlesSieved answers true for all arguments. Proved in this text: its theorems. Conditions: as each theorem states them. -/
import Derived.Test.YtgmfaleamhpfjaaDoorCFnPuzzlesSievedP
import Derived.Test.YtgmfaleamhpfjaaDoorCFnPuzzlesSievedF0
import Derived.Test.YtgmfaleamhpfjaaDoorCFnPuzzlesSievedF1
import Derived.Test.YtgmfaleamhpfjaaDoorCFnPuzzlesSievedF2
import Derived.Test.YtgmfaleamhpfjaaDoorCFnPuzzlesSievedF3
import Derived.Deep.Slices
import Derived.Deep.Fields
import Derived.ChangeSame
import Derived.ChangeSlices
import Derived.Lib.SmallJoins
import Derived.ProofKit
import Derived.OpenShut
import Derived.ShutString
import Derived.ChangeOld
import Derived.SizedLaws
import Derived.KernelRfl
namespace Go.Proofs.YtgmfaleamhpfjaaDoor.P
open Go.RowKit Go.Proofs.YtgmfaleamhpfjaaDoorW.PrintWords Go.Proofs.YtgmfaleamhpfjaaDoorW.PrintLast
set_option linter.unusedVariables false
set_option linter.unusedSimpArgs false
section
open Go.ChangeShapes Go.WideShapes Go.Deep Go.ChangeAt
variable {H : Type} {enc : TypeId × Value → H} {P : Program} {w : World} {base : Nat} {spare : Nat → Bool} {held : Bool}
theorem open_pairs {t e : TypeId} {f0 f1 : Field} {fuel : Nat} {v : Value} {x : DataW H × List MemPlace} (ht : P.underlying t = some (.slice e)) (he : P.underlying e = some (.struct #[f0, f1]))
    (hone : oneCellFields P #[f0, f1] = true) (hC : P.cellsOf e = 2) (h0 : P.underlying f0.type = some (.int .i64)) (h1 : P.underlying f1.type = some (.int .i64)) (h : DataW.trod enc P w base spare held fuel t [v] = some x) :
    ∃ (a : Option Addr) (len cap : Nat) (l : List (Int × Int)), v = .slice a len cap ∧ len = l.length ∧ len ≤ cap ∧ l.length ≤ 9223372036854775807 ∧ (∀ p ∈ l, (Lit.int .i64 p.1).wf = true ∧ (Lit.int .i64 p.2).wf = true) ∧
      (0 < l.length → ∃ ad, a = some ad ∧ ∀ j p, l[j]? = some p → w.cell? (ad.add (j * 2)) = some (.int .i64 p.1) ∧ w.cell? (ad.add (j * 2 + 1)) = some (.int .i64 p.2)) := by
  rcases open_slice ht h with ⟨hcs, -⟩ | ⟨a, len, cap, m, n, D, Pl, hcs, hb, hl, hm, hmm, hx, hi⟩
  · simp at hcs
    exact ⟨none, 0, 0, [], hcs, rfl, Nat.le_refl _, by simp, by simp, by simp⟩
  · simp at hcs
    have hlm : len ≤ m := by rw [hmm]; split <;> omega
    have hget : ∀ i, i < len → ∃ p : Int × Int, w.cell? (a.add (i * 2)) = some (.int .i64 p.1) ∧ w.cell? (a.add (i * 2 + 1)) = some (.int .i64 p.2) ∧ (Lit.int .i64 p.1).wf = true ∧ (Lit.int .i64 p.2).wf = true := by
      intro i him
      obtain ⟨cs', hc, ht'⟩ := hi i (by omega)
      rw [hC] at hc
      obtain ⟨y0, y1, n', hy, -, t0, t1⟩ := trod_struct2 he ht'
      obtain ⟨_, hcl, hat⟩ := World.cells?_some hc
      obtain ⟨o0, k0⟩ := hone_of hone 0 f0 rfl
      obtain ⟨o1, k1⟩ := hone_of hone 1 f1 rfl
      have c0 := hat (i := 0) (by omega)
      have c1 := hat (i := 1) (by omega)
      match cs', hcl with
      | [u0, u1], _ =>
        simp only [o0, k0, List.drop_zero, List.take_succ_cons, List.take_zero] at t0
        simp only [o1, k1, List.drop_succ_cons, List.drop_zero, List.take_succ_cons, List.take_zero] at t1
        obtain ⟨z0, e0, -, w0⟩ := DataW.trod_int h0 t0
        obtain ⟨z1, e1, -, w1⟩ := DataW.trod_int h1 t1
        simp at e0 e1
        subst e0 e1
        refine ⟨(z0, z1), ?_, ?_, w0, w1⟩
        · simpa [Go.Deep.add_add] using c0
        · simpa [Go.Deep.add_add] using c1
    let g : Nat → Int × Int := fun i => if hi : i < len then (hget i hi).choose else (0, 0)
    have hg : ∀ i, i < len → w.cell? (a.add (i * 2)) = some (.int .i64 (g i).1) ∧ w.cell? (a.add (i * 2 + 1)) = some (.int .i64 (g i).2) ∧ (Lit.int .i64 (g i).1).wf = true ∧ (Lit.int .i64 (g i).2).wf = true := by
      intro i hi
      have := (hget i hi).choose_spec
      simpa [g, hi] using this
    refine ⟨some a, len, cap, (List.range len).map g, hcs, by simp, hl, by simp; unfold maxLen at hm; omega, ?_, ?_⟩
    · intro p hp
      simp at hp
      obtain ⟨i, hi, rfl⟩ := hp
      exact ⟨(hg i hi).2.2.1, (hg i hi).2.2.2⟩
    · intro _
      refine ⟨a, rfl, fun j p hj => ?_⟩
      simp [List.getElem?_map] at hj
      obtain ⟨i, hij, rfl⟩ := hj
      have hjl : j < len := by
        have := (List.getElem?_eq_some_iff.1 hij).1
        simpa using this
      have : i = j := by
        have := List.getElem?_range hjl
        rw [this] at hij
        simpa using hij.symm
      subst this
      exact ⟨(hg i hjl).1, (hg i hjl).2.1⟩
theorem open_nums {t e : TypeId} {k : IntKind} {fuel : Nat} {v : Value} {x : DataW H × List MemPlace} (ht : P.underlying t = some (.slice e)) (he : P.underlying e = some (.int k)) (hc : P.cellsOf e = 1)
    (h : DataW.trod enc P w base spare held fuel t [v] = some x) :
    ∃ (a : Option Addr) (len cap : Nat) (l : List Int), v = .slice a len cap ∧ len = l.length ∧ len ≤ cap ∧ l.length ≤ 9223372036854775807 ∧ (∀ n ∈ l, (Lit.int k n).wf = true) ∧ (Kd.int k).C w a l.length l := by
  rcases open_ints ht he hc h with ⟨hcs, -⟩ | ⟨a, len, cap, zs, hcs, hb, hl, hm, hz, hx, hcell, hwf⟩
  · simp at hcs
    exact ⟨none, 0, 0, [], hcs, rfl, Nat.le_refl _, by simp, by simp, Kd.C_nil _ _⟩
  · simp at hcs
    have hlz : len ≤ zs.length := by rw [hz]; split <;> omega
    have hlen : (zs.take len).length = len := by simp; omega
    have hmax : (zs.take len).length ≤ 9223372036854775807 := by rw [hlen]; unfold maxLen at hm; omega
    refine ⟨some a, len, cap, zs.take len, hcs, hlen.symm, hl, hmax, fun n hn => hwf n (List.mem_of_mem_take hn), ?_⟩
    refine Kd.C_of_reads (d := (0 : Int)) (h1 := fun _ => rfl) ⟨rfl, hmax, fun hn => ⟨a, rfl, fun i hi => ?_⟩⟩
    rw [hlen] at hi
    rw [hcell i (by omega)]
    congr 2
    simp [List.getD, hi]
end
end Go.Proofs.YtgmfaleamhpfjaaDoor.P
namespace Go.Proofs.YtgmfaleamhpfjaaDoor.P
open Go.RowKit Go.Proofs.YtgmfaleamhpfjaaDoorW.PrintWords Go.Proofs.YtgmfaleamhpfjaaDoorW.PrintLast
set_option linter.unusedVariables false
set_option linter.unusedSimpArgs false
theorem Ev.get {α : Type} {g : Nat → Option α} {r : α} (h : Ev g r) : ∃ K, ∀ k, K ≤ k → g k = some r := h
theorem Ev.mk' {α : Type} {g : Nat → Option α} {r : α} (K : Nat) (h : ∀ k, K ≤ k → g (k + 1) = some r) : Ev g r :=
  ⟨K + 1, fun k hk => by obtain ⟨m, rfl⟩ : ∃ m, k = m + 1 := ⟨k - 1, by omega⟩; exact h m (by omega)⟩
theorem Ev.pos {α : Type} {c : Prop} [Decidable c] {g f : Nat → Option α} {r : α} (hc : c) (h : Ev g r) : Ev (fun k => if c then g k else f k) r := by
  obtain ⟨K, h⟩ := h
  exact ⟨K, fun k hk => by show (if c then g k else f k) = some r; rw [if_pos hc]; exact h k hk⟩
theorem Ev.neg {α : Type} {c : Prop} [Decidable c] {g f : Nat → Option α} {r : α} (hc : ¬ c) (h : Ev f r) : Ev (fun k => if c then g k else f k) r := by
  obtain ⟨K, h⟩ := h
  exact ⟨K, fun k hk => by show (if c then g k else f k) = some r; rw [if_neg hc]; exact h k hk⟩
theorem Ev.let_ {α β : Type} {f : Nat → α → Option β} {a : α} {r : β} (k : Ev (fun n => f n a) r) : Ev (fun n => (some a).bind (f n)) r := k
theorem Ev.some_ {α : Type} {a r : α} (h : a = r) : Ev (fun _ => some a) r := ⟨0, fun _ _ => by rw [h]⟩
theorem Ev.eq_ {α : Type} {g : Nat → Option α} {a r : α} (h : Ev g a) (e : a = r) : Ev g r := e ▸ h
theorem wrap_id {n : Int} (h1 : -9223372036854775808 ≤ n) (h2 : n ≤ 9223372036854775807) : wrap64 n = n := by unfold wrap64; omega
theorem wf_int {n : Int} (h : (Lit.int .i64 n).wf = true) : -9223372036854775808 ≤ n ∧ n ≤ 9223372036854775807 := by
  unfold Lit.wf at h
  simp only [Bool.and_eq_true, decide_eq_true_eq] at h
  exact h
theorem obind {α β : Type} (a : α) (f : α → Option β) : (some a).bind f = f a := id rfl
end Go.Proofs.YtgmfaleamhpfjaaDoor.P
namespace Go.Proofs.YtgmfaleamhpfjaaDoor.P
open Go.RowKit Go.Proofs.YtgmfaleamhpfjaaDoorW.PrintWords Go.Proofs.YtgmfaleamhpfjaaDoorW.PrintLast
set_option linter.unusedVariables false
set_option linter.unusedSimpArgs false
theorem l1In_ok (a b c : Int) : spec_l1In.f a b c = some (decide (b ≤ a) && decide (a ≤ c)) := by
  unfold spec_l1In.f
  by_cases h : b ≤ a <;> simp [h]
end Go.Proofs.YtgmfaleamhpfjaaDoor.P
namespace Go.Proofs.YtgmfaleamhpfjaaDoor.P
open Go.RowKit Go.Proofs.YtgmfaleamhpfjaaDoorW.PrintWords Go.Proofs.YtgmfaleamhpfjaaDoorW.PrintLast
set_option linter.unusedVariables false
set_option linter.unusedSimpArgs false
def left (l : List SRule) (n : Int) : Bool := !(l.any (crosses n))
def goodRules (l : List SRule) : Bool := decide (l.length ≤ 12) && l.all okRule
theorem okRule_iff (x : SRule) : okRule x = true ↔ 2 ≤ x.f0 ∧ x.f0 ≤ 60 ∧ 0 ≤ x.f1 ∧ x.f1 < x.f0 := by
  unfold okRule; simp
theorem siRule_ok (x : SRule) : spec_siRule.f x.f0 x.f1 = some (okRule x) := by
  unfold spec_siRule.f okRule
  simp only [l1In_ok, Option.bind_some]
  by_cases h1 : 2 ≤ x.f0
  · by_cases h2 : x.f0 ≤ 60
    · have : wrap64 (x.f0 - 1) = x.f0 - 1 := wrap_id (by omega) (by omega)
      rw [this]
      by_cases h3 : 0 ≤ x.f1
      · simp [h1, h2, h3]; omega
      · simp [h1, h2, h3]
    · simp [h1, h2]
  · simp [h1]
theorem rd_drop (l : List SRule) (k : Nat) (h : k < l.length) : l.drop k = rd_Rule l k :: l.drop (k + 1) := drop_rd l k h
theorem siGood_l0 (l : List SRule) (hm : l.length ≤ 12) : ∀ d i : Nat, i + d = l.length → Ev (fun k => spec_siGood.l0 k l l.length i) ((l.drop i).all okRule)
  | 0, i, h => Ev.mk' 0 fun k _ => by
    simp only [spec_siGood.l0]
    rw [if_neg (by omega), List.drop_eq_nil_of_le (by omega)]; rfl
  | d + 1, i, h => by
    obtain ⟨K, ih⟩ := siGood_l0 l hm d (i + 1) (by omega)
    dsimp only at ih
    refine Ev.mk' K fun k hk => ?_
    simp only [spec_siGood.l0]
    rw [if_pos (by omega), if_pos (by omega), if_pos (by omega), siRule_ok, rd_drop l i (by omega), List.all_cons, Option.bind_some]
    rw [show wrap64 ((i : Int) + 1) = ((i + 1 : Nat) : Int) from wrap_id (by omega) (by omega), ih k hk]
    cases okRule (rd_Rule l i) <;> simp
theorem siGood_ev (l : List SRule) : Ev (fun k => spec_siGood.f k l) (goodRules l) := by
  unfold goodRules
  by_cases h : l.length ≤ 12
  · obtain ⟨K, ih⟩ := siGood_l0 l h l.length 0 (by omega)
    refine ⟨K, fun k hk => ?_⟩
    simp only [spec_siGood.f]
    rw [if_neg (by omega)]
    simpa [h] using ih k hk
  · refine ⟨0, fun k _ => ?_⟩
    simp only [spec_siGood.f]
    rw [if_pos (by omega)]
    simp [h]
theorem areRules_ok (l : List SRule) : impl_areRules.f l = some (goodRules l) := rfl
theorem good_all {l : List SRule} (h : goodRules l = true) : l.length ≤ 12 ∧ l.all okRule = true := by
  unfold goodRules at h
  simpa using h
theorem siRest_ok (n : Int) (x : SRule) (h : okRule x = true) : spec_siRest.f n x.f0 = some (n % x.f0) := by
  have := mod_ok n x.f0 ((okRule_iff x).1 h).1 ((okRule_iff x).1 h).2.1
  exact this
theorem siFirst_l0 (n : Int) (l : List SRule) (hm : l.length ≤ 9223372036854775807) (hl : l.all okRule = true) : ∀ d i : Nat, i + d = l.length → Ev (fun k => spec_siFirst.l0 k n l l.length i) (firstIx (crosses n) (l.drop i) i)
  | 0, i, h => Ev.mk' 0 fun k _ => by
    simp only [spec_siFirst.l0]
    rw [if_neg (by omega), List.drop_eq_nil_of_le (by omega)]; rfl
  | d + 1, i, h => by
    obtain ⟨K, ih⟩ := siFirst_l0 n l hm hl d (i + 1) (by omega)
    dsimp only at ih
    refine Ev.mk' K fun k hk => ?_
    simp only [spec_siFirst.l0]
    rw [if_pos (by omega), if_pos (by omega), if_pos (by omega), siRest_ok n _ (List.all_eq_true.mp hl _ (rd_mem l i (by omega))), rd_drop l i (by omega), Option.bind_some]
    rw [show wrap64 ((i : Int) + 1) = ((i + 1 : Nat) : Int) from wrap_id (by omega) (by omega), ih k hk]
    rw [firstIx]
    by_cases hc : n % (rd_Rule l i).f0 = (rd_Rule l i).f1
    · rw [if_pos hc, if_pos (by simp [crosses, hc])]
    · rw [if_neg hc, if_neg (by simp [crosses, hc])]; rfl
theorem siFirst_ev (n : Int) (l : List SRule) (hm : l.length ≤ 9223372036854775807) (hl : l.all okRule = true) : Ev (fun k => spec_siFirst.f k l n) (firstIx (crosses n) l 0) :=
  siFirst_l0 n l hm hl l.length 0 (by omega)
theorem first_left (n : Int) (l : List SRule) : decide (firstIx (crosses n) l 0 < 0) = left l n := by
  have h := firstIx_any (crosses n) l 0 (by omega)
  unfold left
  rw [← h]
  by_cases hc : 0 ≤ firstIx (crosses n) l 0
  · simp [hc, Int.not_lt.mpr hc]
  · simp [hc, Int.not_le.mp hc]
theorem siLeft_ev (n : Int) (l : List SRule) (hm : l.length ≤ 9223372036854775807) (hl : l.all okRule = true) : Ev (fun k => spec_siLeft.f k l n) (left l n) := by
  obtain ⟨K, h⟩ := siFirst_ev n l hm hl
  refine ⟨K, fun k hk => ?_⟩
  simp only [spec_siLeft.f, h k hk, Option.bind_some, first_left]
theorem isLeft_ok (n : Int) (l : List SRule) (hl : l.all okRule = true) : impl_isLeft.f l n = some (left l n) := by
  simp only [impl_isLeft.f, impl_firstRule.f, if_pos hl, Option.bind_some, first_left]
end Go.Proofs.YtgmfaleamhpfjaaDoor.P
namespace Go.Proofs.YtgmfaleamhpfjaaDoor.P
open Go.RowKit Go.Proofs.YtgmfaleamhpfjaaDoorW.PrintWords Go.Proofs.YtgmfaleamhpfjaaDoorW.PrintLast
set_option linter.unusedVariables false
set_option linter.unusedSimpArgs false
def sign (b : UInt8) : Bool := b == 111 || (b == 120 || b == 63)
def goodP (s : ByteArray) (n : Int) : Bool := decide (1 ≤ s.size) && (decide (s.size ≤ 48) && (s.data.toList.all sign && (decide (0 ≤ n) && decide (n ≤ 3))))
theorem all_drop_sign (l : List UInt8) : (l.dropWhile ([111, 120, 63] : List UInt8).contains = []) ↔ l.all sign = true := by
  induction l with
  | nil => simp
  | cons x l ih =>
    have e : ([111, 120, 63] : List UInt8).contains x = sign x := by simp [sign, List.contains_cons]; rfl
    rw [List.dropWhile_cons, e, List.all_cons]
    cases hx : sign x
    · simp
    · simpa using ih
theorem drop_id (p : UInt8 → Bool) (l : List UInt8) (h : ∀ x, l.head? = some x → p x = false) : l.dropWhile p = l := by
  cases l with
  | nil => rfl
  | cons x l => rw [List.dropWhile_cons, h x rfl]; rfl
theorem trimS_nil (l : List UInt8) : (Lib.trimS l [111, 120, 63] = []) ↔ l.all sign = true := by
  have e : ∀ m : List UInt8, Lib.trimLeftS m [111, 120, 63] = [] ↔ m.all sign = true := fun m => all_drop_sign m
  have e2 : ∀ m : List UInt8, Lib.trimRightS m [111, 120, 63] = (Lib.trimLeftS m.reverse [111, 120, 63]).reverse := fun m => rfl
  unfold Lib.trimS
  rw [e, e2, List.all_reverse]
  constructor
  · intro h
    have h2 := (e (Lib.trimLeftS l.reverse [111, 120, 63])).2 h
    have h3 : Lib.trimLeftS l.reverse [111, 120, 63] = [] := by
      cases hd : Lib.trimLeftS l.reverse [111, 120, 63] with
      | nil => rfl
      | cons x m =>
        exfalso
        have hx : ([111, 120, 63] : List UInt8).contains x = false := by
          have := List.head?_dropWhile_not (p := fun b => ([111, 120, 63] : List UInt8).contains b) (l := l.reverse)
          unfold Lib.trimLeftS at hd
          rw [hd] at this
          simpa using this
        rw [hd, List.all_cons] at h
        have e3 : ([111, 120, 63] : List UInt8).contains x = sign x := by simp [sign, List.contains_cons]; rfl
        rw [e3] at hx
        rw [hx] at h
        simp at h
    have := (e l.reverse).1 h3
    simpa using this
  · intro h
    have h3 := (e l.reverse).2 (by simpa using h)
    rw [h3]; rfl
theorem isPuzzle_ok (s : ByteArray) (n : Int) : impl_isPuzzle.f s n = some (goodP s n) := by
  unfold impl_isPuzzle.f goodP
  by_cases h1 : (s.size : Int) ≥ 1
  · by_cases h2 : (s.size : Int) ≤ 48
    · have e : strings_Trim.f s (⟨#[111, 120, 63]⟩ : ByteArray) = some ⟨(Lib.trimS s.data.toList [111, 120, 63]).toArray⟩ := by
        unfold strings_Trim.f; rw [if_pos ⟨by omega, rfl⟩]
      rw [if_pos h1, if_pos h2, e, obind]
      have d1 : decide (1 ≤ s.size) = true := decide_eq_true (by omega)
      have d2 : decide (s.size ≤ 48) = true := decide_eq_true (by omega)
      rw [d1, d2, Bool.true_and, Bool.true_and]
      have e3 : (ByteArray.toList ⟨(Lib.trimS s.data.toList [111, 120, 63]).toArray⟩ = ([] : List UInt8)) ↔ s.data.toList.all sign = true := by
        rw [← trimS_nil, ByteArray.toList_eq]
      by_cases h3 : s.data.toList.all sign = true
      · rw [if_pos (e3.2 h3), h3, Bool.true_and]
        by_cases h4 : n ≥ 0
        · rw [if_pos h4, decide_eq_true (show 0 ≤ n by omega), Bool.true_and]
        · rw [if_neg h4, decide_eq_false (show ¬ 0 ≤ n by omega), Bool.false_and]
      · rw [if_neg (fun h => h3 (e3.1 h)), Bool.eq_false_iff.2 h3, Bool.false_and]
    · rw [if_pos h1, if_neg h2, decide_eq_false (show ¬ s.size ≤ 48 by omega), Bool.false_and, Bool.and_false]
  · rw [if_neg h1, decide_eq_false (show ¬ 1 ≤ s.size by omega), Bool.false_and]
theorem bt_sign (s : ByteArray) (i : Nat) (h : i < s.size) : (bt s i = 111 ∨ bt s i = 120 ∨ bt s i = 63) ↔ sign (s.data.toList[i]'(by simpa using h)) = true := by
  have e : bt s i = ((s[i]'h).toNat : Int) := (bt_at s (i : Int) h).symm
  have e2 : s.data.toList[i]'(by simpa using h) = s[i]'h := by simp; rfl
  rw [e2]
  generalize s[i]'h = b at e
  rw [e]
  simp only [sign, Bool.or_eq_true, beq_iff_eq]
  constructor
  · rintro (h | h | h)
    · left; exact UInt8.toNat_inj.mp (by simpa using (by omega : b.toNat = 111))
    · right; left; exact UInt8.toNat_inj.mp (by simpa using (by omega : b.toNat = 120))
    · right; right; exact UInt8.toNat_inj.mp (by simpa using (by omega : b.toNat = 63))
  · rintro (rfl | rfl | rfl) <;> simp
theorem pzPattern_l0 (s : ByteArray) (hm : s.size ≤ 48) : ∀ d i : Nat, i + d = s.size → Ev (fun k => spec_pzPattern.l0 k s i) ((s.data.toList.drop i).all sign)
  | 0, i, h => Ev.mk' 0 fun k _ => by
    simp only [spec_pzPattern.l0]
    rw [if_neg (by omega), List.drop_of_length_le (by simp; omega)]; rfl
  | d + 1, i, h => by
    obtain ⟨K, ih⟩ := pzPattern_l0 s hm d (i + 1) (by omega)
    dsimp only at ih
    have hi : i < s.data.toList.length := by simp; show i < s.size; omega
    have hb := bt_sign s i (by omega)
    refine Ev.mk' K fun k hk => ?_
    rw [List.drop_eq_getElem_cons hi, List.all_cons]
    simp only [spec_pzPattern.l0]
    rw [if_pos (by omega), if_pos (by omega), wrap_id (by omega) (by omega), show ((i : Int) + 1) = ((i + 1 : Nat) : Int) by omega, ih k hk]
    by_cases h1 : bt s i = 111
    · rw [if_pos h1, hb.1 (.inl h1), Bool.true_and]
    · by_cases h2 : bt s i = 120
      · rw [if_neg h1, if_pos h2, hb.1 (.inr (.inl h2)), Bool.true_and]
      · by_cases h3 : bt s i = 63
        · rw [if_neg h1, if_neg h2, if_pos h3, hb.1 (.inr (.inr h3)), Bool.true_and]
        · have hn : sign (s.data.toList[i]'hi) = false := Bool.eq_false_iff.2 (fun h => by rcases hb.2 h with h | h | h <;> contradiction)
          rw [if_neg h1, if_neg h2, if_neg h3, hn, Bool.false_and]
theorem pzGood_ev (s : ByteArray) (n : Int) : Ev (fun k => spec_pzGood.f k s n) (goodP s n) := by
  unfold goodP
  by_cases h : 1 ≤ s.size ∧ s.size ≤ 48
  · obtain ⟨K, h3⟩ := pzPattern_l0 s h.2 s.size 0 (by omega)
    have h3 : ∀ k, K ≤ k → spec_pzPattern.l0 k s 0 = some (s.data.toList.all sign) := fun k hk => by have := h3 k hk; rwa [List.drop_zero] at this
    refine ⟨K, fun k hk => ?_⟩
    have d1 : (decide ((1 : Int) ≤ (s.size : Int)) && decide ((s.size : Int) ≤ 48)) = true := by simp; omega
    simp only [spec_pzGood.f, spec_pzPattern.f, l1In_ok, obind, d1, if_true, h3 k hk]
    rw [decide_eq_true h.1, decide_eq_true h.2, Bool.true_and, Bool.true_and]
    cases s.data.toList.all sign <;> simp
  · refine ⟨0, fun k hk => ?_⟩
    have d1 : (decide ((1 : Int) ≤ (s.size : Int)) && decide ((s.size : Int) ≤ 48)) = false := by
      rw [Bool.and_eq_false_iff]; simp only [decide_eq_false_iff_not]; omega
    have d2 : (decide (1 ≤ s.size) && (decide (s.size ≤ 48) && (s.data.toList.all sign && (decide (0 ≤ n) && decide (n ≤ 3))))) = false := by
      rw [← Bool.and_assoc, Bool.and_eq_false_iff]; left
      rw [Bool.and_eq_false_iff]; simp only [decide_eq_false_iff_not]; omega
    simp only [spec_pzGood.f, spec_pzPattern.f, l1In_ok, obind, d1, Bool.false_eq_true, if_false, d2]
end Go.Proofs.YtgmfaleamhpfjaaDoor.P
namespace Go.Proofs.YtgmfaleamhpfjaaDoor.P
open Go.RowKit Go.Proofs.YtgmfaleamhpfjaaDoorW.PrintWords Go.Proofs.YtgmfaleamhpfjaaDoorW.PrintLast
set_option linter.unusedVariables false
set_option linter.unusedSimpArgs false
def putB (s : ByteArray) (a : Int) (g : ByteArray) : ByteArray := ((s.extract 0 (a - 1).toNat) ++ g) ++ (s.extract a.toNat s.size)
theorem size_l (s : ByteArray) (a : Int) (h0 : 1 ≤ a) (h1 : a ≤ (s.size : Int)) : (s.extract 0 (a - 1).toNat).size = (a - 1).toNat := by
  rw [ByteArray.size_extract]; omega
theorem size_r (s : ByteArray) (a : Int) : (s.extract a.toNat s.size).size = s.size - a.toNat := by
  rw [ByteArray.size_extract]; omega
theorem put_ok (s : ByteArray) (n a : Int) (g : ByteArray) (hs : s.size ≤ 48) (hg : g.size = 1) (h0 : 1 ≤ a) (h1 : a ≤ (s.size : Int)) : impl_withSign.f s n a g = some (putB s a g, n) := by
  have e := size_l s a h0 h1
  have e2 := size_r s a
  unfold impl_withSign.f putB
  rw [wrap_id (by omega) (by omega), if_pos (by omega), if_pos (by omega), if_pos (by rw [e]; omega), if_pos (by omega), if_pos h1, if_pos (by rw [ByteArray.size_append, e, e2]; omega)]
theorem put_ok' (s : ByteArray) (n a : Int) (g : ByteArray) (hs : s.size ≤ 48) (hg : g.size = 1) (h0 : 1 ≤ a) (h1 : a ≤ (s.size : Int)) : spec_pzPut.f s n a g = some (putB s a g, n) := put_ok s n a g hs hg h0 h1
theorem good_size {s : ByteArray} {n : Int} (h : goodP s n = true) : s.size ≤ 48 := by
  unfold goodP at h; simp only [Bool.and_eq_true, decide_eq_true_eq] at h; exact h.2.1
def hideVal (s : ByteArray) (n a : Int) : ByteArray × Int × Bool := if goodP s n = true ∧ 1 ≤ a ∧ a ≤ (s.size : Int) ∧ bt s (a - 1) ≠ 63 then (putB s a ⟨#[63]⟩, n, true) else (⟨#[]⟩, 0, false)
theorem Hide_main (s : ByteArray) (n a : Int) : Ev (fun k => spec_HideNumber.f k s n a) (hideVal s n a) ∧ impl_HideNumber.f s n a = some (hideVal s n a) := by
  obtain ⟨K, h1⟩ := pzGood_ev s n
  dsimp only at h1
  unfold hideVal
  by_cases hg : goodP s n = true
  · have hz := good_size hg
    by_cases ha : 1 ≤ a ∧ a ≤ (s.size : Int)
    · have e : (decide (1 ≤ a) && decide (a ≤ (s.size : Int))) = true := by simp [ha.1, ha.2]
      have p1 := put_ok s n a ⟨#[63]⟩ hz rfl ha.1 ha.2
      have p2 := put_ok' s n a ⟨#[63]⟩ hz rfl ha.1 ha.2
      by_cases hb : bt s (a - 1) = 63
      · rw [if_neg (by intro h; exact h.2.2.2 hb)]
        constructor
        · refine ⟨K, fun k hk => ?_⟩
          simp only [spec_HideNumber.f, h1 k hk, obind, hg, if_true, l1In_ok, e]
          rw [wrap_id (by omega) (by omega), if_pos (by omega), if_pos (by omega), if_pos hb]
        · simp only [impl_HideNumber.f, isPuzzle_ok, obind, hg, if_true]
          rw [wrap_id (by omega) (by omega), if_neg (by omega), if_neg (by omega), if_pos (by omega), if_pos (by omega), if_pos hb]
      · rw [if_pos ⟨hg, ha.1, ha.2, hb⟩]
        constructor
        · refine ⟨K, fun k hk => ?_⟩
          simp only [spec_HideNumber.f, h1 k hk, obind, hg, if_true, l1In_ok, e, p2]
          rw [wrap_id (by omega) (by omega), if_pos (by omega), if_pos (by omega), if_neg hb]
        · simp only [impl_HideNumber.f, isPuzzle_ok, obind, hg, if_true, p1]
          rw [wrap_id (by omega) (by omega), if_neg (by omega), if_neg (by omega), if_pos (by omega), if_pos (by omega), if_neg hb]
    · have e : (decide (1 ≤ a) && decide (a ≤ (s.size : Int))) = false := by
        rw [Bool.and_eq_false_iff]; simp only [decide_eq_false_iff_not]; omega
      rw [if_neg (by intro h; exact ha ⟨h.2.1, h.2.2.1⟩)]
      constructor
      · refine ⟨K, fun k hk => ?_⟩
        simp only [spec_HideNumber.f, h1 k hk, obind, hg, if_true, l1In_ok, e, Bool.false_eq_true, if_false]
      · simp only [impl_HideNumber.f, isPuzzle_ok, obind, hg, if_true]
        by_cases h2 : a < 1
        · rw [if_pos h2]
        · rw [if_neg h2, if_pos (by omega)]
  · rw [if_neg (by intro h; exact hg h.1)]
    have hf := Bool.eq_false_iff.2 hg
    constructor
    · refine ⟨K, fun k hk => ?_⟩
      simp only [spec_HideNumber.f, h1 k hk, obind, hf, Bool.false_eq_true, if_false]
    · simp only [impl_HideNumber.f, isPuzzle_ok, obind, hf, Bool.false_eq_true, if_false]
def showVal (s : ByteArray) (n a : Int) (b : Bool) : ByteArray × Int × Bool := if goodP s n = true ∧ 1 ≤ a ∧ a ≤ (s.size : Int) ∧ bt s (a - 1) = 63 then (putB s a (if b = true then ⟨#[111]⟩ else ⟨#[120]⟩), n, true) else (⟨#[]⟩, 0, false)
theorem Show_main (s : ByteArray) (n a : Int) (b : Bool) : Ev (fun k => spec_ShowNumber.f k s n a b) (showVal s n a b) ∧ Ev (fun k => impl_ShowNumber.f k s n a b) (showVal s n a b) := by
  obtain ⟨K, h1⟩ := pzGood_ev s n
  dsimp only at h1
  unfold showVal
  by_cases hg : goodP s n = true
  · have hz := good_size hg
    by_cases ha : 1 ≤ a ∧ a ≤ (s.size : Int)
    · have e : (decide (1 ≤ a) && decide (a ≤ (s.size : Int))) = true := by simp [ha.1, ha.2]
      have p1 := put_ok s n a ⟨#[111]⟩ hz rfl ha.1 ha.2
      have p2 := put_ok' s n a ⟨#[111]⟩ hz rfl ha.1 ha.2
      have p3 := put_ok s n a ⟨#[120]⟩ hz rfl ha.1 ha.2
      have p4 := put_ok' s n a ⟨#[120]⟩ hz rfl ha.1 ha.2
      have hw : wrap64 (a - 1) = a - 1 := wrap_id (by omega) (by omega)
      by_cases hb : bt s (a - 1) = 63
      · rw [if_pos ⟨hg, ha.1, ha.2, hb⟩]
        constructor
        · refine Ev.mk' K fun k hk => ?_
          simp only [spec_ShowNumber.f, h1 _ (Nat.le_succ_of_le hk), obind, hg, if_true, l1In_ok, e, hw]
          rw [if_pos (by omega), if_pos (by omega)]
          cases b <;> simp [spec_ShowNumber.j0, hb, p2, p4]
        · refine Ev.mk' 0 fun k hk => ?_
          simp only [impl_ShowNumber.f, isPuzzle_ok, obind, hg, if_true, hw]
          rw [if_neg (by omega), if_neg (by omega), if_pos (by omega), if_pos (by omega)]
          cases b <;> simp [impl_ShowNumber.j0, hb, p1, p3]
      · rw [if_neg (by intro h; exact hb h.2.2.2)]
        constructor
        · refine Ev.mk' K fun k hk => ?_
          simp only [spec_ShowNumber.f, h1 _ (Nat.le_succ_of_le hk), obind, hg, if_true, l1In_ok, e, hw]
          rw [if_pos (by omega), if_pos (by omega)]
          simp [spec_ShowNumber.j0, hb]
        · refine Ev.mk' 0 fun k hk => ?_
          simp only [impl_ShowNumber.f, isPuzzle_ok, obind, hg, if_true, hw]
          rw [if_neg (by omega), if_neg (by omega), if_pos (by omega), if_pos (by omega)]
          simp [impl_ShowNumber.j0, hb]
    · have e : (decide (1 ≤ a) && decide (a ≤ (s.size : Int))) = false := by
        rw [Bool.and_eq_false_iff]; simp only [decide_eq_false_iff_not]; omega
      rw [if_neg (by intro h; exact ha ⟨h.2.1, h.2.2.1⟩)]
      constructor
      · refine Ev.mk' K fun k hk => ?_
        simp only [spec_ShowNumber.f, h1 _ (Nat.le_succ_of_le hk), obind, hg, if_true, l1In_ok, e, Bool.false_eq_true, if_false, spec_ShowNumber.j0]
      · refine Ev.mk' 0 fun k hk => ?_
        simp only [impl_ShowNumber.f, isPuzzle_ok, obind, hg, if_true]
        by_cases h2 : a < 1
        · rw [if_pos h2]; simp [impl_ShowNumber.j0]
        · rw [if_neg h2, if_pos (by omega)]; simp [impl_ShowNumber.j0]
  · rw [if_neg (by intro h; exact hg h.1)]
    have hf := Bool.eq_false_iff.2 hg
    constructor
    · refine Ev.mk' K fun k hk => ?_
      simp only [spec_ShowNumber.f, h1 _ (Nat.le_succ_of_le hk), obind, hf, Bool.false_eq_true, if_false, spec_ShowNumber.j0, if_true]
    · refine Ev.mk' 0 fun k hk => ?_
      simp only [impl_ShowNumber.f, isPuzzle_ok, obind, hf, Bool.false_eq_true, if_false, impl_ShowNumber.j0, if_true]
end Go.Proofs.YtgmfaleamhpfjaaDoor.P
namespace Go.Proofs.YtgmfaleamhpfjaaDoor.P
open Go.RowKit Go.Proofs.YtgmfaleamhpfjaaDoorW.PrintWords Go.Proofs.YtgmfaleamhpfjaaDoorW.PrintLast
set_option linter.unusedVariables false
set_option linter.unusedSimpArgs false
def fitD (s : ByteArray) (e t : Int) (pos : Nat) : Nat → Bool
  | 0 => true
  | d + 1 => !(bt s pos == 111 && (((pos : Int) + 1) % e == t)) && fitD s e t (pos + 1) d
def rowFit (s : ByteArray) (e t : Int) : Nat → List SRule
  | 0 => []
  | d + 1 => (cond (fitD s e t 0 s.size) [(⟨e, t⟩ : SRule)] []) ++ rowFit s e (t + 1) d
def allFit (s : ByteArray) (e : Int) : Nat → List SRule
  | 0 => []
  | d + 1 => rowFit s e 0 e.toNat ++ allFit s (e + 1) d
def fitOf (s : ByteArray) : List SRule := allFit s 2 9
theorem rowFit_length (s : ByteArray) (e : Int) : ∀ d t, (rowFit s e t d).length ≤ d
  | 0, t => by simp [rowFit]
  | d + 1, t => by
    have := rowFit_length s e d (t + 1)
    simp only [rowFit, List.length_append]
    cases fitD s e t 0 s.size <;> simp <;> omega
theorem allFit_length (s : ByteArray) : ∀ (d : Nat) (e : Int), e + d = 11 → (allFit s e d).length ≤ 11 * d
  | 0, e, h => by simp [allFit]
  | d + 1, e, h => by
    have := allFit_length s d (e + 1) (by omega)
    have h2 := rowFit_length s e e.toNat 0
    simp only [allFit, List.length_append]
    omega
theorem fitOf_length (s : ByteArray) : (fitOf s).length ≤ 99 := allFit_length s 9 2 (by omega)
theorem good_sign {s : ByteArray} {n : Int} (h : goodP s n = true) : s.data.toList.all sign = true := by
  unfold goodP at h; simp only [Bool.and_eq_true] at h; exact h.2.2.1
theorem sign_bt {s : ByteArray} (hs : s.data.toList.all sign = true) (i : Nat) (h : i < s.size) : bt s i = 111 ∨ bt s i = 120 ∨ bt s i = 63 :=
  (bt_sign s i h).2 (List.all_eq_true.1 hs _ (List.getElem_mem _))
theorem pzFits_l0 (s : ByteArray) (hs : s.data.toList.all sign = true) (hz : s.size ≤ 48) (e t : Int) (h0 : 2 ≤ e) (h1 : e ≤ 10) (h2 : 0 ≤ t) (h3 : t < e) : ∀ d pos : Nat, pos + d = s.size → Ev (fun k => spec_pzFits.l0 k s e t pos) (fitD s e t pos d)
  | 0, pos, h => Ev.mk' 0 fun k _ => by
    simp only [spec_pzFits.l0, fitD]
    rw [if_neg (by omega)]
  | d + 1, pos, h => by
    obtain ⟨K, ih⟩ := pzFits_l0 s hs hz e t h0 h1 h2 h3 d (pos + 1) (by omega)
    dsimp only at ih
    have hb := sign_bt hs pos (by omega)
    have hr := siRest_ok ((pos : Int) + 1) ⟨e, t⟩ ((okRule_iff _).2 ⟨h0, by show e ≤ 60; omega, h2, h3⟩)
    have hr : spec_siRest.f ((pos : Int) + 1) e = some (((pos : Int) + 1) % e) := hr
    refine Ev.mk' K fun k hk => ?_
    simp only [spec_pzFits.l0, fitD]
    rw [if_pos (by omega), if_pos (by omega), wrap_id (by omega) (by omega), hr, obind, ih k hk]
    by_cases c : bt s pos = 111
    · rw [if_pos c, beq_iff_eq.2 c, Bool.true_and]
      by_cases c2 : ((pos : Int) + 1) % e = t
      · rw [if_pos c2, beq_iff_eq.2 c2]; rfl
      · rw [if_neg c2, beq_eq_false_iff_ne.2 c2]; simp
    · rw [if_neg c, beq_eq_false_iff_ne.2 c]; simp
theorem pzFits_ev (s : ByteArray) (hs : s.data.toList.all sign = true) (hz : s.size ≤ 48) (e t : Int) (h0 : 2 ≤ e) (h1 : e ≤ 10) (h2 : 0 ≤ t) (h3 : t < e) : Ev (fun k => spec_pzFits.f k s e t) (fitD s e t 0 s.size) :=
  pzFits_l0 s hs hz e t h0 h1 h2 h3 s.size 0 (by omega)
theorem pzFit_l1 (s : ByteArray) (hs : s.data.toList.all sign = true) (hz : s.size ≤ 48) (e : Int) (h0 : 2 ≤ e) (h1 : e ≤ 10) (r : List SRule) : ∀ (d : Nat) (t : Int) (acc : List SRule), t + d = e → 0 ≤ t → acc.length + d ≤ 300 → Ev (fun k => spec_pzFit.l0 k s (acc ++ rowFit s e t d) (e + 1)) r → Ev (fun k => spec_pzFit.l1 k s acc e t) r
  | 0, t, acc, h, h2, h3, ⟨K, hk⟩ => Ev.mk' K fun k hk' => by
    simp only [rowFit, List.append_nil] at hk
    simp only [spec_pzFit.l1]
    rw [if_neg (by omega), wrap_id (by omega) (by omega), hk k hk']
  | d + 1, t, acc, h, h2, h3, hc => by
    obtain ⟨K1, hf⟩ := pzFits_ev s hs hz e t h0 h1 h2 (by omega)
    dsimp only at hf
    simp only [rowFit] at hc
    cases c : fitD s e t 0 s.size with
    | true =>
      rw [c, cond_true, ← List.append_assoc] at hc
      rw [c] at hf
      obtain ⟨K, ih⟩ := pzFit_l1 s hs hz e h0 h1 r d (t + 1) (acc ++ [⟨e, t⟩]) (by omega) (by omega) (by simp; omega) hc
      dsimp only at ih
      refine Ev.mk' (K + K1) fun k hk => ?_
      simp only [spec_pzFit.l1, hf k (by omega), obind]
      rw [if_pos (by omega), if_pos trivial, if_pos (by omega), wrap_id (by omega) (by omega), ih k (by omega)]
    | false =>
      rw [c, cond_false, List.nil_append] at hc
      rw [c] at hf
      obtain ⟨K, ih⟩ := pzFit_l1 s hs hz e h0 h1 r d (t + 1) acc (by omega) (by omega) (by omega) hc
      dsimp only at ih
      refine Ev.mk' (K + K1) fun k hk => ?_
      simp only [spec_pzFit.l1, hf k (by omega), obind]
      rw [if_pos (by omega), if_neg (by decide), wrap_id (by omega) (by omega), ih k (by omega)]
theorem pzFit_l0 (s : ByteArray) (hs : s.data.toList.all sign = true) (hz : s.size ≤ 48) : ∀ (d : Nat) (e : Int) (acc : List SRule), e + d = 11 → 2 ≤ e → acc.length + 11 * d ≤ 200 → Ev (fun k => spec_pzFit.l0 k s acc e) (acc ++ allFit s e d)
  | 0, e, acc, h, h2, h3 => Ev.mk' 0 fun k _ => by
    simp only [spec_pzFit.l0, allFit, List.append_nil]
    rw [if_neg (by omega)]
  | d + 1, e, acc, h, h2, h3 => by
    have hl := rowFit_length s e e.toNat 0
    have ih := pzFit_l0 s hs hz d (e + 1) (acc ++ rowFit s e 0 e.toNat) (by omega) (by omega) (by rw [List.length_append]; omega)
    obtain ⟨K, h4⟩ := pzFit_l1 s hs hz e h2 (by omega) _ e.toNat 0 acc (by omega) (by omega) (by omega) ih
    dsimp only at h4
    refine Ev.mk' K fun k hk => ?_
    simp only [spec_pzFit.l0, allFit]
    rw [if_pos (by omega), h4 k hk, List.append_assoc]
theorem pzFit_ev (s : ByteArray) (hs : s.data.toList.all sign = true) (hz : s.size ≤ 48) : Ev (fun k => spec_pzFit.f k s) (fitOf s) := by
  obtain ⟨K, h⟩ := pzFit_l0 s hs hz 9 2 [] (by omega) (by omega) (by simp)
  exact ⟨K, fun k hk => h k hk⟩
theorem fitting_l2 (s : ByteArray) (hz : s.size ≤ 48) (e t : Int) (h0 : 2 ≤ e) (h1 : e ≤ 10) (acc : List SRule) (hl : acc.length ≤ 300) (r : List SRule) : ∀ (d pos : Nat) (b : Bool), pos + d = s.size → Ev (fun k => impl_fitting.l1 k s (acc ++ cond (b && fitD s e t pos d) [(⟨e, t⟩ : SRule)] []) e e (wrap64 (t + 1))) r → Ev (fun k => impl_fitting.l2 k s acc e t b e t (s.size : Int) pos) r
  | 0, pos, b, h, ⟨K, hk⟩ => Ev.mk' K fun k hk' => by
    have hk := hk k hk'
    simp only [fitD, Bool.and_true] at hk
    simp only [impl_fitting.l2]
    rw [if_neg (by omega)]
    cases b with
    | true => rw [cond_true] at hk; rw [if_pos rfl, if_pos (by omega)]; exact hk
    | false => rw [cond_false, List.append_nil] at hk; rw [if_neg (by decide)]; exact hk
  | d + 1, pos, b, h, hc => by
    simp only [fitD] at hc
    cases b with
    | false =>
      obtain ⟨K, ih⟩ := fitting_l2 s hz e t h0 h1 acc hl r d (pos + 1) false (by omega) hc
      dsimp only at ih
      refine Ev.mk' K fun k hk => ?_
      simp only [impl_fitting.l2]
      rw [if_pos (by omega), if_neg (by decide), wrap_id (by omega) (by omega)]
      exact ih k hk
    | true =>
      have hm : Int.tmod ((pos : Int) + 1) e = ((pos : Int) + 1) % e := Int.tmod_eq_emod_of_nonneg (by omega)
      rw [Bool.true_and] at hc
      by_cases c : bt s pos = 111
      · rw [beq_iff_eq.2 c, Bool.true_and] at hc
        obtain ⟨K, ih⟩ := fitting_l2 s hz e t h0 h1 acc hl r d (pos + 1) (((pos : Int) + 1) % e != t) (by omega) hc
        dsimp only at ih
        refine Ev.mk' K fun k hk => ?_
        simp only [impl_fitting.l2]
        rw [if_pos (by omega), if_pos (by first | rfl | trivial), if_pos (by omega), if_pos (by omega), if_pos c, if_neg (by omega), wrap_id (n := (pos : Int) + 1) (by omega) (by omega), hm]
        exact ih k hk
      · rw [beq_eq_false_iff_ne.2 c, Bool.false_and] at hc
        obtain ⟨K, ih⟩ := fitting_l2 s hz e t h0 h1 acc hl r d (pos + 1) true (by omega) hc
        dsimp only at ih
        refine Ev.mk' K fun k hk => ?_
        simp only [impl_fitting.l2]
        rw [if_pos (by omega), if_pos (by first | rfl | trivial), if_pos (by omega), if_pos (by omega), if_neg c, wrap_id (n := (pos : Int) + 1) (by omega) (by omega)]
        exact ih k hk
theorem fitting_l1 (s : ByteArray) (hz : s.size ≤ 48) (e : Int) (h0 : 2 ≤ e) (h1 : e ≤ 10) (r : List SRule) : ∀ (d : Nat) (t : Int) (acc : List SRule), t + d = e → 0 ≤ t → acc.length + d ≤ 300 → Ev (fun k => impl_fitting.l0 k s (acc ++ rowFit s e t d) (e + 1)) r → Ev (fun k => impl_fitting.l1 k s acc e e t) r
  | 0, t, acc, h, h2, h3, ⟨K, hk⟩ => Ev.mk' K fun k hk' => by
    simp only [rowFit, List.append_nil] at hk
    simp only [impl_fitting.l1]
    rw [if_neg (by omega), wrap_id (by omega) (by omega), hk k hk']
  | d + 1, t, acc, h, h2, h3, hc => by
    simp only [rowFit] at hc
    rw [← List.append_assoc] at hc
    have ih := fitting_l1 s hz e h0 h1 r d (t + 1) (acc ++ cond (fitD s e t 0 s.size) [(⟨e, t⟩ : SRule)] []) (by omega) (by omega) (by rw [List.length_append]; cases fitD s e t 0 s.size <;> simp <;> omega) hc
    obtain ⟨K, h4⟩ := fitting_l2 s hz e t h0 h1 acc (by omega) r s.size 0 true (by omega) (by rw [Bool.true_and, wrap_id (by omega) (by omega)]; exact ih)
    dsimp only at h4
    refine Ev.mk' K fun k hk => ?_
    simp only [impl_fitting.l1]
    rw [if_pos (by omega)]
    exact h4 k hk
theorem fitting_l0 (s : ByteArray) (hz : s.size ≤ 48) : ∀ (d : Nat) (e : Int) (acc : List SRule), e + d = 11 → 2 ≤ e → acc.length + 11 * d ≤ 200 → Ev (fun k => impl_fitting.l0 k s acc e) (acc ++ allFit s e d)
  | 0, e, acc, h, h2, h3 => Ev.mk' 0 fun k _ => by
    simp only [impl_fitting.l0, allFit, List.append_nil]
    rw [if_neg (by omega)]
  | d + 1, e, acc, h, h2, h3 => by
    have hl := rowFit_length s e e.toNat 0
    have ih := fitting_l0 s hz d (e + 1) (acc ++ rowFit s e 0 e.toNat) (by omega) (by omega) (by rw [List.length_append]; omega)
    obtain ⟨K, h4⟩ := fitting_l1 s hz e h2 (by omega) _ e.toNat 0 acc (by omega) (by omega) (by omega) ih
    dsimp only at h4
    refine Ev.mk' K fun k hk => ?_
    simp only [impl_fitting.l0, allFit]
    rw [if_pos (by omega), h4 k hk, List.append_assoc]
theorem fitting_ev (s : ByteArray) (hz : s.size ≤ 48) : Ev (fun k => impl_fitting.f k s) (fitOf s) := by
  obtain ⟨K, h⟩ := fitting_l0 s hz 9 2 [] (by omega) (by omega) (by simp)
  exact ⟨K, fun k hk => h k hk⟩
end Go.Proofs.YtgmfaleamhpfjaaDoor.P
namespace Go.Proofs.YtgmfaleamhpfjaaDoor.P
open Go.RowKit Go.Proofs.YtgmfaleamhpfjaaDoorW.PrintWords Go.Proofs.YtgmfaleamhpfjaaDoorW.PrintLast
set_option linter.unusedVariables false
set_option linter.unusedSimpArgs false
def covD (s : ByteArray) (l : List SRule) (pos : Nat) : Nat → Bool
  | 0 => true
  | d + 1 => !(bt s pos == 120 && left l ((pos : Int) + 1)) && covD s l (pos + 1) d
def agD (s : ByteArray) (l : List SRule) (pos : Nat) : Nat → Bool
  | 0 => true
  | d + 1 => !(bt s pos != 63 && (left l ((pos : Int) + 1) != (bt s pos == 111))) && agD s l (pos + 1) d
theorem all_and {α : Type} (p q : α → Bool) : ∀ l : List α, l.all (fun x => p x && q x) = (l.all p && l.all q)
  | [] => rfl
  | x :: l => by
    simp only [List.all_cons, all_and p q l]
    cases p x <;> cases q x <;> cases l.all p <;> cases l.all q <;> rfl
theorem left_all (l : List SRule) (n : Int) : left l n = l.all (fun r => !crosses n r) := by
  unfold left
  induction l with
  | nil => rfl
  | cons x l ih => rw [List.any_cons, List.all_cons, ← ih]; cases crosses n x <;> simp
theorem agD_eq (s : ByteArray) (hs : s.data.toList.all sign = true) (l : List SRule) : ∀ d pos : Nat, pos + d = s.size → agD s l pos d = (l.all (fun r => fitD s r.f0 r.f1 pos d) && covD s l pos d)
  | 0, pos, h => by
    have e : (fun r : SRule => fitD s r.f0 r.f1 pos 0) = fun _ => true := rfl
    rw [e]; simp [agD, covD]
  | d + 1, pos, h => by
    have ih := agD_eq s hs l d (pos + 1) (by omega)
    simp only [agD, covD, fitD]
    rw [all_and (fun r : SRule => !(bt s pos == 111 && ((pos : Int) + 1) % r.f0 == r.f1)) (fun r => fitD s r.f0 r.f1 (pos + 1) d), ih]
    rcases sign_bt hs pos (by omega) with hb | hb | hb <;> rw [hb]
    · have e : l.all (fun r : SRule => !((111 : Int) == 111 && ((pos : Int) + 1) % r.f0 == r.f1)) = left l ((pos : Int) + 1) := (left_all l _).symm
      rw [e]
      generalize left l ((pos : Int) + 1) = x
      generalize l.all (fun r => fitD s r.f0 r.f1 (pos + 1) d) = y
      generalize covD s l (pos + 1) d = z
      cases x <;> cases y <;> cases z <;> rfl
    · have e : l.all (fun r : SRule => !((120 : Int) == 111 && ((pos : Int) + 1) % r.f0 == r.f1)) = true := List.all_eq_true.2 fun _ _ => rfl
      rw [e]
      generalize left l ((pos : Int) + 1) = x
      generalize l.all (fun r => fitD s r.f0 r.f1 (pos + 1) d) = y
      generalize covD s l (pos + 1) d = z
      cases x <;> cases y <;> cases z <;> rfl
    · have e : l.all (fun r : SRule => !((63 : Int) == 111 && ((pos : Int) + 1) % r.f0 == r.f1)) = true := List.all_eq_true.2 fun _ _ => rfl
      rw [e]
      generalize left l ((pos : Int) + 1) = x
      generalize l.all (fun r => fitD s r.f0 r.f1 (pos + 1) d) = y
      generalize covD s l (pos + 1) d = z
      cases x <;> cases y <;> cases z <;> rfl
theorem agrees_l0 (s : ByteArray) (hs : s.data.toList.all sign = true) (hz : s.size ≤ 48) (l : List SRule) (hl : l.all okRule = true) : ∀ d pos : Nat, pos + d = s.size → Ev (fun k => impl_agrees.l0 k s l (s.size : Int) pos) (agD s l pos d)
  | 0, pos, h => Ev.mk' 0 fun k _ => by
    simp only [impl_agrees.l0, agD]
    rw [if_neg (by omega)]
  | d + 1, pos, h => by
    obtain ⟨K, ih⟩ := agrees_l0 s hs hz l hl d (pos + 1) (by omega)
    dsimp only at ih
    refine Ev.mk' K fun k hk => ?_
    have ih : impl_agrees.l0 k s l (s.size : Int) ((pos : Int) + 1) = some (agD s l (pos + 1) d) := ih k hk
    simp only [impl_agrees.l0, agD, isLeft_ok _ l hl, obind]
    rw [if_pos (by omega), if_pos (by omega), if_pos (by omega), wrap_id (by omega) (by omega), ih]
    by_cases c : bt s pos = 63
    · rw [if_pos c, c]; rfl
    · rw [if_neg c, bne_iff_ne.2 c, Bool.true_and]
      cases (left l ((pos : Int) + 1) != (bt s pos == 111)) <;> simp
theorem pzCovers_l0 (s : ByteArray) (hs : s.data.toList.all sign = true) (hz : s.size ≤ 48) (l : List SRule) (hm : l.length ≤ 12) (hl : l.all okRule = true) : ∀ d pos : Nat, pos + d = s.size → Ev (fun k => spec_pzCovers.l0 k s l pos) (covD s l pos d)
  | 0, pos, h => Ev.mk' 0 fun k _ => by
    simp only [spec_pzCovers.l0, covD]
    rw [if_neg (by omega)]
  | d + 1, pos, h => by
    obtain ⟨K, ih⟩ := pzCovers_l0 s hs hz l hm hl d (pos + 1) (by omega)
    dsimp only at ih
    obtain ⟨K1, h3⟩ := siLeft_ev ((pos : Int) + 1) l (by omega) hl
    dsimp only at h3
    have hb := sign_bt hs pos (by omega)
    refine Ev.mk' (K + K1) fun k hk => ?_
    simp only [spec_pzCovers.l0, covD]
    rw [if_pos (by omega), if_pos (by omega), wrap_id (by omega) (by omega), h3 k (by omega), obind, ih k (by omega)]
    by_cases c : bt s pos = 120
    · rw [if_pos c, c]
      cases left l ((pos : Int) + 1) <;> simp
    · rw [if_neg c, beq_eq_false_iff_ne.2 c, Bool.false_and]; rfl
end Go.Proofs.YtgmfaleamhpfjaaDoor.P
namespace Go.Proofs.YtgmfaleamhpfjaaDoor.P
open Go.RowKit Go.Proofs.YtgmfaleamhpfjaaDoorW.PrintWords Go.Proofs.YtgmfaleamhpfjaaDoorW.PrintLast
set_option linter.unusedVariables false
set_option linter.unusedSimpArgs false
def comb : Nat → List SRule → List (List SRule)
  | 0, _ => [[]]
  | _ + 1, [] => []
  | n + 1, r :: t => (comb n t).map (fun l => r :: l) ++ comb (n + 1) t
theorem comb_mem : ∀ (n : Nat) (fit l : List SRule), l ∈ comb n fit → l.length = n ∧ ∀ r ∈ l, r ∈ fit
  | 0, fit, l, h => by
    simp only [comb, List.mem_singleton] at h
    subst h; simp
  | n + 1, [], l, h => by simp [comb] at h
  | n + 1, x :: t, l, h => by
    simp only [comb, List.mem_append, List.mem_map] at h
    rcases h with ⟨l', h', rfl⟩ | h
    · have ih := comb_mem n t l' h'
      refine ⟨by simp [ih.1], fun r hr => ?_⟩
      rcases List.mem_cons.1 hr with hr | hr
      · rw [hr]; exact List.mem_cons_self
      · exact List.mem_cons_of_mem _ (ih.2 r hr)
    · have ih := comb_mem (n + 1) t l h
      exact ⟨ih.1, fun r hr => List.mem_cons_of_mem _ (ih.2 r hr)⟩
def res (P : List SRule → Bool) (n : Nat) (out : List (List SRule)) (list : List SRule) (m : Nat) (fit : List SRule) : List (List SRule) := (out ++ (((comb m fit).map (fun l => list ++ l)).filter P)).take n
theorem take_app {α : Type} (A B : List α) (n : Nat) : (A.take n ++ B).take n = (A ++ B).take n := by
  rw [List.take_append, List.take_append, List.take_take, Nat.min_self, List.length_take]
  congr 2
  omega
theorem res_full (P : List SRule → Bool) (n : Nat) (out : List (List SRule)) (list : List SRule) (m : Nat) (fit : List SRule) (h : out.length = n) : res P n out list m fit = out := by
  unfold res
  rw [List.take_append, List.take_of_length_le (by omega)]
  simp [h]
theorem res_nil (P : List SRule → Bool) (n : Nat) (out : List (List SRule)) (list : List SRule) (m : Nat) (h : out.length ≤ n) : res P n out list (m + 1) [] = out := by
  unfold res
  simp [comb, List.take_of_length_le h]
theorem res_step (P : List SRule → Bool) (n : Nat) (out : List (List SRule)) (list : List SRule) (m : Nat) (r : SRule) (t : List SRule) : res P n (res P n out (list ++ [r]) m t) list (m + 1) t = res P n out list (m + 1) (r :: t) := by
  unfold res
  rw [take_app]
  simp only [comb, List.map_append, List.filter_append, List.map_map, List.append_assoc]
  congr 4
theorem res_length (P : List SRule → Bool) (n : Nat) (out : List (List SRule)) (list : List SRule) (m : Nat) (fit : List SRule) : (res P n out list m fit).length ≤ n := by
  unfold res
  rw [List.length_take]; omega
theorem res_zero (P : List SRule → Bool) (n : Nat) (out : List (List SRule)) (list fit : List SRule) (h : out.length < n) : res P n out list 0 fit = if P list = true then out ++ [list] else out := by
  unfold res
  simp only [comb, List.map_cons, List.map_nil, List.append_nil]
  by_cases c : P list = true
  · rw [if_pos c, List.filter_cons, if_pos c, List.filter_nil, List.take_of_length_le (by simp; omega)]
  · rw [if_neg c, List.filter_cons, if_neg c, List.filter_nil, List.append_nil, List.take_of_length_le (by omega)]
def agB (s : ByteArray) (l : List SRule) : Bool := agD s l 0 s.size
def cvB (s : ByteArray) (l : List SRule) : Bool := covD s l 0 s.size
theorem all_snoc (l : List SRule) (r : SRule) (h : l.all okRule = true) (hr : okRule r = true) : (l ++ [r]).all okRule = true := by simp [h, hr]
theorem implCh_f (s : ByteArray) (hs : s.data.toList.all sign = true) (hz : s.size ≤ 48) (F : List SRule) (R most : Nat) (hR : R ≤ 3) (hM : most ≤ 301) (i : Nat)
    (hl0 : ∀ (m : Nat) (list : List SRule) (out : List (List SRule)), list.length + (m + 1) = R → list.all okRule = true → out.length ≤ most → Ev (fun k => impl_someAnswers_1.l0 k s R most F list out (i : Int)) (res (agB s) most out list (m + 1) (F.drop i))) :
    ∀ (m : Nat) (list : List SRule) (out : List (List SRule)), list.length + m = R → list.all okRule = true → out.length ≤ most → Ev (fun k => impl_someAnswers_1.f k s R most F list (i : Int) out) (res (agB s) most out list m (F.drop i)) := by
  intro m list out h1 h2 h3
  by_cases c : out.length = most
  · rw [res_full _ _ _ _ _ _ c]
    refine Ev.mk' 0 fun k hk => ?_
    simp only [impl_someAnswers_1.f]
    rw [if_pos (by omega)]
  · cases m with
    | zero =>
      obtain ⟨K, ha⟩ := agrees_l0 s hs hz list h2 s.size 0 (by omega)
      have ha : ∀ k, K ≤ k → impl_agrees.f k s list = some (agB s list) := ha
      rw [res_zero _ _ _ _ _ (by omega)]
      refine Ev.mk' K fun k hk => ?_
      simp only [impl_someAnswers_1.f, ha k hk, obind]
      rw [if_neg (by omega), if_pos (by omega)]
      by_cases c2 : agB s list = true
      · rw [if_pos c2, if_pos c2, if_pos (by omega)]
      · rw [if_neg c2, if_neg c2]
    | succ m =>
      obtain ⟨K, hk⟩ := hl0 m list out h1 h2 h3
      refine Ev.mk' K fun k hk' => ?_
      simp only [impl_someAnswers_1.f]
      rw [if_neg (by omega), if_neg (by omega)]
      exact hk k hk'
theorem implCh_l0 (s : ByteArray) (hs : s.data.toList.all sign = true) (hz : s.size ≤ 48) (F : List SRule) (hF : F.all okRule = true) (hL : F.length ≤ 99) (R most : Nat) (hR : R ≤ 3) (hM : most ≤ 301) :
    ∀ (d i : Nat), i + d = F.length → ∀ (m : Nat) (list : List SRule) (out : List (List SRule)), list.length + (m + 1) = R → list.all okRule = true → out.length ≤ most → Ev (fun k => impl_someAnswers_1.l0 k s R most F list out (i : Int)) (res (agB s) most out list (m + 1) (F.drop i))
  | 0, i, h, m, list, out, h1, h2, h3 => by
    rw [List.drop_of_length_le (by omega), res_nil _ _ _ _ _ h3]
    refine Ev.mk' 0 fun k hk => ?_
    simp only [impl_someAnswers_1.l0]
    rw [if_neg (by omega)]
  | d + 1, i, h, m, list, out, h1, h2, h3 => by
    have IH := implCh_l0 s hs hz F hF hL R most hR hM d (i + 1) (by omega)
    have hr : okRule (rd_Rule F i) = true := List.all_eq_true.1 hF _ (rd_mem F i (by omega))
    obtain ⟨K1, e1⟩ := implCh_f s hs hz F R most hR hM (i + 1) IH m (list ++ [rd_Rule F i]) out (by simp; omega) (all_snoc _ _ h2 hr) h3
    obtain ⟨K2, e2⟩ := IH m list (res (agB s) most out (list ++ [rd_Rule F i]) m (F.drop (i + 1))) h1 h2 (res_length _ _ _ _ _ _)
    dsimp only at e1 e2
    rw [drop_rd F i (by omega), ← res_step]
    refine Ev.mk' (K1 + K2) fun k hk => ?_
    simp only [impl_someAnswers_1.l0]
    rw [if_pos (by omega), if_pos (by omega), if_pos (by omega), show wrap64 ((i : Int) + 1) = ((i + 1 : Nat) : Int) from wrap_id (by omega) (by omega), e1 k (by omega), obind, e2 k (by omega)]
theorem specAll_f (s : ByteArray) (hs : s.data.toList.all sign = true) (hz : s.size ≤ 48) (fit : List SRule)
    (hl0 : ∀ (m : Nat) (rules : List SRule) (out : List (List SRule)), rules.length + (m + 1) ≤ 3 → rules.all okRule = true → out.length ≤ 301 → Ev (fun k => spec_pzAll.l0 k s fit rules ((m + 1 : Nat) : Int) out 0) (res (cvB s) 301 out rules (m + 1) fit)) :
    ∀ (m : Nat) (rules : List SRule) (out : List (List SRule)), rules.length + m ≤ 3 → rules.all okRule = true → out.length ≤ 300 → Ev (fun k => spec_pzAll.f k s fit rules (m : Int) out) (res (cvB s) 301 out rules m fit) := by
  intro m rules out h1 h2 h3
  cases m with
  | zero =>
    obtain ⟨K, ha⟩ := pzCovers_l0 s hs hz rules (by omega) h2 s.size 0 (by omega)
    have ha : ∀ k, K ≤ k → spec_pzCovers.f k s rules = some (cvB s rules) := ha
    rw [res_zero _ _ _ _ _ (by omega)]
    refine Ev.mk' K fun k hk => ?_
    simp only [spec_pzAll.f, ha k hk, obind]
    rw [if_pos (by omega)]
    by_cases c2 : cvB s rules = true
    · rw [if_pos c2, if_pos c2, if_pos (by omega), if_pos (by omega)]
    · rw [if_neg c2, if_neg c2]
  | succ m =>
    obtain ⟨K, hk⟩ := hl0 m rules out h1 h2 (by omega)
    refine Ev.mk' K fun k hk' => ?_
    simp only [spec_pzAll.f]
    rw [if_neg (by omega)]
    exact hk k hk'
theorem specAll_l0 (s : ByteArray) (hs : s.data.toList.all sign = true) (hz : s.size ≤ 48) :
    ∀ (d : Nat) (fit : List SRule) (i : Nat), fit.all okRule = true → fit.length ≤ 99 → i + d = fit.length → ∀ (m : Nat) (rules : List SRule) (out : List (List SRule)), rules.length + (m + 1) ≤ 3 → rules.all okRule = true → out.length ≤ 301 → Ev (fun k => spec_pzAll.l0 k s fit rules ((m + 1 : Nat) : Int) out i) (res (cvB s) 301 out rules (m + 1) (fit.drop i))
  | 0, fit, i, hF, hL, h, m, rules, out, h1, h2, h3 => by
    rw [List.drop_of_length_le (by omega), res_nil _ _ _ _ _ h3]
    refine Ev.mk' 0 fun k hk => ?_
    simp only [spec_pzAll.l0]
    rw [if_neg (by omega)]
  | d + 1, fit, i, hF, hL, h, m, rules, out, h1, h2, h3 => by
    by_cases c : 300 < out.length
    · rw [res_full _ _ _ _ _ _ (by omega)]
      refine Ev.mk' 0 fun k hk => ?_
      simp only [spec_pzAll.l0]
      rw [if_pos (by omega), if_pos c]
    · have hr : okRule (rd_Rule fit i) = true := List.all_eq_true.1 hF _ (rd_mem fit i (by omega))
      have hFd : (fit.drop (i + 1)).all okRule = true := List.all_eq_true.2 fun x hx => List.all_eq_true.1 hF x (List.mem_of_mem_drop hx)
      have hdl : (fit.drop (i + 1)).length = d := by rw [List.length_drop]; omega
      obtain ⟨K1, e1⟩ := specAll_f s hs hz (fit.drop (i + 1)) (fun m' rules' out' g1 g2 g3 => by have := specAll_l0 s hs hz d (fit.drop (i + 1)) 0 hFd (by omega) (by omega) m' rules' out' g1 g2 g3; rwa [List.drop_zero] at this) m (rules ++ [rd_Rule fit i]) out (by simp; omega) (all_snoc _ _ h2 hr) (by omega)
      obtain ⟨K2, e2⟩ := specAll_l0 s hs hz d fit (i + 1) hF hL (by omega) m rules (res (cvB s) 301 out (rules ++ [rd_Rule fit i]) m (fit.drop (i + 1))) h1 h2 (res_length _ _ _ _ _ _)
      dsimp only at e1 e2
      rw [drop_rd fit i (by omega), ← res_step]
      refine Ev.mk' (K1 + K2) fun k hk => ?_
      simp only [spec_pzAll.l0]
      rw [if_pos (by omega), if_neg c, if_pos (by omega), show wrap64 (((m + 1 : Nat) : Int) - 1) = (m : Int) by rw [wrap_id (by omega) (by omega)]; omega, e1 k (by omega), obind, e2 k (by omega)]
theorem rowFit_all (s : ByteArray) (e : Int) (h0 : 2 ≤ e) (h1 : e ≤ 10) : ∀ (d : Nat) (t : Int), 0 ≤ t → t + d = e → ∀ r ∈ rowFit s e t d, okRule r = true ∧ fitD s r.f0 r.f1 0 s.size = true
  | 0, t, _, _, r, h => by simp [rowFit] at h
  | d + 1, t, ht, hd, r, h => by
    simp only [rowFit, List.mem_append] at h
    rcases h with h | h
    · cases c : fitD s e t 0 s.size with
      | true =>
        rw [c, cond_true, List.mem_singleton] at h
        subst h
        exact ⟨(okRule_iff _).2 ⟨h0, by show e ≤ 60; omega, ht, by show t < e; omega⟩, c⟩
      | false => rw [c] at h; simp at h
    · exact rowFit_all s e h0 h1 d (t + 1) (by omega) (by omega) r h
theorem allFit_all (s : ByteArray) : ∀ (d : Nat) (e : Int), 2 ≤ e → e + d = 11 → ∀ r ∈ allFit s e d, okRule r = true ∧ fitD s r.f0 r.f1 0 s.size = true
  | 0, e, _, _, r, h => by simp [allFit] at h
  | d + 1, e, h0, hd, r, h => by
    simp only [allFit, List.mem_append] at h
    rcases h with h | h
    · exact rowFit_all s e h0 (by omega) e.toNat 0 (by omega) (by omega) r h
    · exact allFit_all s d (e + 1) (by omega) (by omega) r h
theorem fitOf_all (s : ByteArray) : ∀ r ∈ fitOf s, okRule r = true ∧ fitD s r.f0 r.f1 0 s.size = true := allFit_all s 9 2 (by omega) (by omega)
theorem fitOf_ok (s : ByteArray) : (fitOf s).all okRule = true := List.all_eq_true.2 fun r h => (fitOf_all s r h).1
def answers (s : ByteArray) (R : Nat) : List (List SRule) := (comb R (fitOf s)).filter (agB s)
theorem map_nil_app (L : List (List SRule)) : L.map (fun l => ([] : List SRule) ++ l) = L := by
  induction L with
  | nil => rfl
  | cons x t ih => rw [List.map_cons, ih]; rfl
theorem answers_cov (s : ByteArray) (hs : s.data.toList.all sign = true) (R : Nat) : (comb R (fitOf s)).filter (cvB s) = answers s R := by
  unfold answers
  refine List.filter_congr fun l hl => ?_
  have hm := comb_mem R (fitOf s) l hl
  unfold agB cvB
  rw [agD_eq s hs l s.size 0 (by omega), List.all_eq_true.2 (fun r hr => (fitOf_all s r (hm.2 r hr)).2), Bool.true_and]
theorem someAnswers_ev (s : ByteArray) (hs : s.data.toList.all sign = true) (hz : s.size ≤ 48) (R most : Nat) (hR : R ≤ 3) (hM : most ≤ 301) : Ev (fun k => impl_someAnswers.f k s R most) ((answers s R).take most) := by
  obtain ⟨K1, h1⟩ := fitting_ev s hz
  obtain ⟨K2, h2⟩ := implCh_f s hs hz (fitOf s) R most hR hM 0 (implCh_l0 s hs hz (fitOf s) (fitOf_ok s) (fitOf_length s) R most hR hM (fitOf s).length 0 (by omega)) R [] [] (by simp) rfl (by simp)
  dsimp only at h1 h2
  refine ⟨K1 + K2, fun k hk => ?_⟩
  have h2 : impl_someAnswers_1.f k s R most (fitOf s) [] 0 [] = _ := h2 k (by omega)
  simp only [impl_someAnswers.f, h1 k (by omega), obind, h2]
  unfold res answers
  rw [List.drop_zero, map_nil_app]; rfl
theorem pzAll_ev (s : ByteArray) (hs : s.data.toList.all sign = true) (hz : s.size ≤ 48) (R : Nat) (hR : R ≤ 3) : Ev (fun k => spec_pzAll.f k s (fitOf s) [] (R : Int) []) ((answers s R).take 301) := by
  have h := specAll_f s hs hz (fitOf s) (fun m rules out g1 g2 g3 => by have := specAll_l0 s hs hz (fitOf s).length (fitOf s) 0 (fitOf_ok s) (fitOf_length s) (by omega) m rules out g1 g2 g3; rwa [List.drop_zero] at this) R [] [] (by simp; omega) rfl (by simp)
  unfold res at h
  rw [map_nil_app, answers_cov s hs] at h
  exact h
end Go.Proofs.YtgmfaleamhpfjaaDoor.P
namespace Go.Proofs.YtgmfaleamhpfjaaDoor.P
open Go.RowKit Go.Proofs.YtgmfaleamhpfjaaDoorW.PrintWords Go.Proofs.YtgmfaleamhpfjaaDoorW.PrintLast
set_option linter.unusedVariables false
set_option linter.unusedSimpArgs false
theorem good_parts {s : ByteArray} {n : Int} (h : goodP s n = true) : 1 ≤ s.size ∧ s.size ≤ 48 ∧ s.data.toList.all sign = true ∧ 0 ≤ n ∧ n ≤ 3 := by
  unfold goodP at h
  simp only [Bool.and_eq_true, decide_eq_true_eq] at h
  exact ⟨h.1, h.2.1, h.2.2.1, h.2.2.2.1, h.2.2.2.2⟩
def ansV (s : ByteArray) (n : Int) : List (List SRule) × Bool := if goodP s n = true ∧ (answers s n.toNat).length ≤ 300 then (answers s n.toNat, true) else ([], false)
theorem ansV_length (s : ByteArray) (n : Int) : (ansV s n).1.length ≤ 300 := by
  unfold ansV
  split
  · next h => exact h.2
  · simp
theorem answers_mem (s : ByteArray) (R : Nat) : ∀ l ∈ answers s R, l.length = R ∧ ∀ r ∈ l, r ∈ fitOf s := fun l hl => comb_mem R (fitOf s) l ((List.mem_filter.1 hl).1)
theorem ansV_mem (s : ByteArray) (n : Int) : ∀ l ∈ (ansV s n).1, l.length ≤ 3 := by
  intro l hl
  unfold ansV at hl
  split at hl
  · next h =>
    have := (answers_mem s n.toNat l hl).1
    have := good_parts h.1
    omega
  · simp at hl
theorem take301 {α : Type} (L : List α) : (((L.take 301).length : Int) > 300) ↔ ¬ L.length ≤ 300 := by rw [List.length_take]; omega
theorem take301' {α : Type} (L : List α) (h : L.length ≤ 300) : L.take 301 = L := List.take_of_length_le (by omega)
theorem pzAnswers_ev (s : ByteArray) (n : Int) : Ev (fun k => spec_pzAnswers.f k s n) (ansV s n) := by
  obtain ⟨K1, h1⟩ := pzGood_ev s n
  dsimp only at h1
  unfold ansV
  by_cases hg : goodP s n = true
  · obtain ⟨g1, g2, g3, g4, g5⟩ := good_parts hg
    obtain ⟨K2, h2⟩ := pzFit_ev s g3 g2
    obtain ⟨K3, h3⟩ := pzAll_ev s g3 g2 n.toNat (by omega)
    rw [show ((n.toNat : Nat) : Int) = n by omega] at h3
    dsimp only at h2 h3
    refine ⟨K1 + K2 + K3, fun k hk => ?_⟩
    simp (disch := omega) only [spec_pzAnswers.f, h1, h2, h3, obind, hg, if_true]
    by_cases c : (answers s n.toNat).length ≤ 300
    · rw [if_neg (fun h => (take301 _).1 h c), if_pos ⟨trivial, c⟩, take301' _ c]
    · rw [if_pos ((take301 _).2 c), if_neg (fun h => c h.2)]
  · have hf := Bool.eq_false_iff.2 hg
    rw [if_neg (fun h => hg h.1)]
    refine ⟨K1, fun k hk => ?_⟩
    simp only [spec_pzAnswers.f, h1 k hk, obind, hf, Bool.false_eq_true, if_false]
theorem answersOf_ev (s : ByteArray) (n : Int) : Ev (fun k => impl_answersOf.f k s n) (ansV s n) := by
  unfold ansV
  by_cases hg : goodP s n = true
  · obtain ⟨g1, g2, g3, g4, g5⟩ := good_parts hg
    obtain ⟨K3, h3⟩ := someAnswers_ev s g3 g2 n.toNat 301 (by omega) (by omega)
    rw [show ((n.toNat : Nat) : Int) = n by omega] at h3
    have h3 : ∀ k, K3 ≤ k → impl_someAnswers.f k s n 301 = _ := h3
    refine ⟨K3, fun k hk => ?_⟩
    simp (disch := omega) only [impl_answersOf.f, isPuzzle_ok, h3, obind, hg, if_true]
    by_cases c : (answers s n.toNat).length ≤ 300
    · rw [if_neg (fun h => (take301 _).1 h c), if_pos ⟨trivial, c⟩, take301' _ c]
    · rw [if_pos ((take301 _).2 c), if_neg (fun h => c h.2)]
  · have hf := Bool.eq_false_iff.2 hg
    rw [if_neg (fun h => hg h.1)]
    refine ⟨0, fun k hk => ?_⟩
    simp only [impl_answersOf.f, isPuzzle_ok, obind, hf, Bool.false_eq_true, if_false]
end Go.Proofs.YtgmfaleamhpfjaaDoor.P
namespace Go.Proofs.YtgmfaleamhpfjaaDoor.P
open Go.RowKit Go.Proofs.YtgmfaleamhpfjaaDoorW.PrintWords Go.Proofs.YtgmfaleamhpfjaaDoorW.PrintLast
set_option linter.unusedVariables false
set_option linter.unusedSimpArgs false
def qm : ByteArray := ⟨#[63]⟩
theorem putB_list (s : ByteArray) (a : Int) : (putB s a qm).data.toList = s.data.toList.take (a - 1).toNat ++ [63] ++ s.data.toList.drop a.toNat := by
  unfold putB qm
  simp [ByteArray.data_append, ByteArray.data_extract, Array.toList_extract, List.extract]
  exact List.take_of_length_le (by rw [List.length_drop, Array.length_toList]; exact Nat.le_refl _)
theorem putB_size (s : ByteArray) (a : Int) (h0 : 1 ≤ a) (h1 : a ≤ (s.size : Int)) : (putB s a qm).size = s.size := by
  unfold putB
  rw [ByteArray.size_append, ByteArray.size_append, size_l s a h0 h1, size_r s a]
  show (a - 1).toNat + 1 + _ = _
  omega
theorem putB_good (s : ByteArray) (n a : Int) (h : goodP s n = true) (h0 : 1 ≤ a) (h1 : a ≤ (s.size : Int)) : goodP (putB s a qm) n = true := by
  obtain ⟨g1, g2, g3, g4, g5⟩ := good_parts h
  unfold goodP
  rw [putB_size s a h0 h1, putB_list, List.all_append, List.all_append]
  have e1 : (s.data.toList.take (a - 1).toNat).all sign = true := List.all_eq_true.2 fun x hx => List.all_eq_true.1 g3 x (List.mem_of_mem_take hx)
  have e2 : (s.data.toList.drop a.toNat).all sign = true := List.all_eq_true.2 fun x hx => List.all_eq_true.1 g3 x (List.mem_of_mem_drop hx)
  rw [e1, e2]
  simp [g1, g2, g4, g5, sign]
theorem putB_same (s : ByteArray) (a : Int) (h0 : 1 ≤ a) (h1 : a ≤ (s.size : Int)) (hb : bt s (a - 1) = 63) : putB s a qm = s := by
  have hi : (a - 1).toNat < s.data.toList.length := by rw [Array.length_toList]; show (a - 1).toNat < s.size; omega
  have e : s.data.toList[(a - 1).toNat]'hi = 63 := by
    have e1 := bt_at s (a - 1) (show (a - 1).toNat < s.size by omega)
    rw [hb] at e1
    have e2 : s.data.toList[(a - 1).toNat]'hi = s[(a - 1).toNat]'(by omega) := by simp; rfl
    rw [e2]
    exact UInt8.toNat_inj.mp (by simpa using (by omega : (s[(a - 1).toNat]'(by omega)).toNat = 63))
  have e3 : s.data.toList = s.data.toList.take (a - 1).toNat ++ [63] ++ s.data.toList.drop a.toNat := by
    rw [show a.toNat = (a - 1).toNat + 1 by omega, List.append_assoc, ← e, List.singleton_append, ← List.drop_eq_getElem_cons hi, List.take_append_drop]
  have e4 := (putB_list s a).trans e3.symm
  have e5 : (putB s a qm).data = s.data := Array.toList_inj.1 e4
  exact ByteArray.ext e5
def hardS (R : Nat) (s : ByteArray) (a : Nat) : Nat → ByteArray
  | 0 => s
  | d + 1 => hardS R (if (answers (putB s a qm) R).length = 1 then putB s a qm else s) (a + 1) d
theorem take2_one {α : Type} (L : List α) : (((L.take 2).length : Int) = 1) ↔ L.length = 1 := by rw [List.length_take]; omega
theorem implHard_l0 (n : Int) : ∀ (d a : Nat) (s : ByteArray), a + d = s.size + 1 → 1 ≤ a → goodP s n = true → Ev (fun k => impl_HarderPuzzle.l0 k (a : Int) s n) (hardS n.toNat s a d, n, true)
  | 0, a, s, h, ha, hg => Ev.mk' 0 fun k _ => by
    simp only [impl_HarderPuzzle.l0, hardS]
    rw [if_neg (by omega)]
  | d + 1, a, s, h, ha, hg => by
    obtain ⟨g1, g2, g3, g4, g5⟩ := good_parts hg
    have p := put_ok s n (a : Int) qm g2 rfl (by omega) (by omega)
    have hg2 := putB_good s n a hg (by omega) (by omega)
    have hz2 := putB_size s a (by omega) (by omega)
    obtain ⟨q1, q2, q3, q4, q5⟩ := good_parts hg2
    obtain ⟨K1, h1⟩ := someAnswers_ev (putB s a qm) q3 q2 n.toNat 2 (by omega) (by omega)
    rw [show ((n.toNat : Nat) : Int) = n by omega] at h1
    have h1 : ∀ k, K1 ≤ k → impl_someAnswers.f k (putB s a qm) n 2 = _ := h1
    have p : impl_withSign.f s n (a : Int) (⟨#[63]⟩ : ByteArray) = some (putB s a qm, n) := p
    by_cases c : (answers (putB s a qm) n.toNat).length = 1
    · obtain ⟨K2, h2⟩ := implHard_l0 n d (a + 1) (putB s a qm) (by omega) (by omega) hg2
      dsimp only at h2
      refine Ev.mk' (K1 + K2) fun k hk => ?_
      simp only [impl_HarderPuzzle.l0, hardS, p, obind, h1 k (by omega)]
      rw [if_pos (by omega), if_pos ((take2_one _).2 c), if_pos c, show wrap64 ((a : Int) + 1) = ((a + 1 : Nat) : Int) from wrap_id (by omega) (by omega), h2 k (by omega)]
    · obtain ⟨K2, h2⟩ := implHard_l0 n d (a + 1) s (by omega) (by omega) hg
      dsimp only at h2
      refine Ev.mk' (K1 + K2) fun k hk => ?_
      simp only [impl_HarderPuzzle.l0, hardS, p, obind, h1 k (by omega)]
      rw [if_pos (by omega), if_neg (fun h => c ((take2_one _).1 h)), if_neg c, show wrap64 ((a : Int) + 1) = ((a + 1 : Nat) : Int) from wrap_id (by omega) (by omega), h2 k (by omega)]
theorem count_one (s : ByteArray) (n : Int) (hg : goodP s n = true) : ((ansV s n).2 = true ∧ ((ansV s n).1.length : Int) = 1) ↔ (answers s n.toNat).length = 1 := by
  unfold ansV
  by_cases c : (answers s n.toNat).length ≤ 300
  · rw [if_pos ⟨hg, c⟩]; simp; omega
  · rw [if_neg (fun h => c h.2)]; simp; omega
theorem specHard_l0 (n : Int) : ∀ (d a : Nat) (s : ByteArray), a + d = s.size + 1 → 1 ≤ a → goodP s n = true → (answers s n.toNat).length = 1 → Ev (fun k => spec_HarderPuzzle.l0 k (a : Int) s n) (hardS n.toNat s a d, n, true)
  | 0, a, s, h, ha, hg, h1 => Ev.mk' 0 fun k _ => by
    simp only [spec_HarderPuzzle.l0, hardS]
    rw [if_neg (by omega)]
  | d + 1, a, s, h, ha, hg, hone => by
    obtain ⟨g1, g2, g3, g4, g5⟩ := good_parts hg
    have hg2 := putB_good s n a hg (by omega) (by omega)
    have hz2 := putB_size s a (by omega) (by omega)
    obtain ⟨⟨K0, h0⟩, -⟩ := Hide_main s n a
    dsimp only at h0
    have hw : wrap64 ((a : Int) + 1) = ((a + 1 : Nat) : Int) := wrap_id (by omega) (by omega)
    by_cases hb : bt s ((a : Int) - 1) = 63
    · have e := putB_same s a (by omega) (by omega) hb
      obtain ⟨K2, h2⟩ := specHard_l0 n d (a + 1) s (by omega) (by omega) hg hone
      dsimp only at h2
      have hv : hideVal s n a = (⟨#[]⟩, 0, false) := by unfold hideVal; rw [if_neg (fun h => h.2.2.2 hb)]
      refine Ev.mk' (K0 + K2) fun k hk => ?_
      simp only [spec_HarderPuzzle.l0, hardS, h0 k (by omega), hv, obind, Bool.false_eq_true, if_false]
      rw [if_pos (by omega), hw, e, if_pos hone, h2 k (by omega)]
    · have hv : hideVal s n a = (putB s a qm, n, true) := by unfold hideVal; rw [if_pos ⟨hg, by omega, by omega, hb⟩]; rfl
      obtain ⟨K1, h1⟩ := pzAnswers_ev (putB s a qm) n
      dsimp only at h1
      have hc := count_one (putB s a qm) n hg2
      by_cases c : (answers (putB s a qm) n.toNat).length = 1
      · obtain ⟨K2, h2⟩ := specHard_l0 n d (a + 1) (putB s a qm) (by omega) (by omega) hg2 c
        dsimp only at h2
        refine Ev.mk' (K0 + K1 + K2) fun k hk => ?_
        simp only [spec_HarderPuzzle.l0, hardS, h0 k (by omega), hv, obind, if_true, spec_CountAnswers.f, h1 k (by omega)]
        rw [if_pos (by omega), if_pos (hc.2 c).1, if_pos (hc.2 c).2, if_pos c, hw, h2 k (by omega)]
      · obtain ⟨K2, h2⟩ := specHard_l0 n d (a + 1) s (by omega) (by omega) hg hone
        dsimp only at h2
        refine Ev.mk' (K0 + K1 + K2) fun k hk => ?_
        simp only [spec_HarderPuzzle.l0, hardS, h0 k (by omega), hv, obind, if_true, spec_CountAnswers.f, h1 k (by omega)]
        rw [if_pos (by omega), if_neg c, hw, h2 k (by omega)]
        by_cases c2 : (ansV (putB s a qm) n).2 = true
        · rw [if_pos c2, if_neg (fun h => c (hc.1 ⟨c2, h⟩))]
        · rw [if_neg c2]
def hardV (s : ByteArray) (n : Int) : ByteArray × Int × Bool := if goodP s n = true ∧ (answers s n.toNat).length = 1 then (hardS n.toNat s 1 s.size, n, true) else (⟨#[]⟩, 0, false)
theorem HarderPuzzle_main (s : ByteArray) (n : Int) : Ev (fun k => spec_HarderPuzzle.f k s n) (hardV s n) ∧ Ev (fun k => impl_HarderPuzzle.f k s n) (hardV s n) := by
  unfold hardV
  obtain ⟨K1, h1⟩ := pzAnswers_ev s n
  dsimp only at h1
  by_cases hg : goodP s n = true
  · obtain ⟨g1, g2, g3, g4, g5⟩ := good_parts hg
    obtain ⟨K2, h2⟩ := someAnswers_ev s g3 g2 n.toNat 2 (by omega) (by omega)
    rw [show ((n.toNat : Nat) : Int) = n by omega] at h2
    have h2 : ∀ k, K2 ≤ k → impl_someAnswers.f k s n 2 = _ := h2
    have hc := count_one s n hg
    by_cases c : (answers s n.toNat).length = 1
    · rw [if_pos ⟨hg, c⟩]
      obtain ⟨K3, h3⟩ := specHard_l0 n s.size 1 s (by omega) (by omega) hg c
      obtain ⟨K4, h4⟩ := implHard_l0 n s.size 1 s (by omega) (by omega) hg
      have h3 : ∀ k, K3 ≤ k → spec_HarderPuzzle.l0 k 1 s n = _ := h3
      have h4 : ∀ k, K4 ≤ k → impl_HarderPuzzle.l0 k 1 s n = _ := h4
      have e1 : (((ansV s n).1.length : Int) != 1) = false := bne_eq_false_iff_eq.2 (hc.2 c).2
      have e2 : ((((answers s n.toNat).take 2).length : Int) != 1) = false := bne_eq_false_iff_eq.2 ((take2_one _).2 c)
      constructor
      · refine Ev.mk' (K1 + K3) fun k hk => ?_
        simp (disch := omega) only [spec_HarderPuzzle.f, spec_CountAnswers.f, h1, obind, (hc.2 c).1, if_true, e1]
        simp (disch := omega) only [spec_HarderPuzzle.j0, h3, Bool.false_eq_true, if_false]
      · refine Ev.mk' (K2 + K4) fun k hk => ?_
        simp (disch := omega) only [impl_HarderPuzzle.f, isPuzzle_ok, h2, obind, hg, if_true, e2]
        simp (disch := omega) only [impl_HarderPuzzle.j0, h4, Bool.false_eq_true, if_false]
    · rw [if_neg (fun h => c h.2)]
      have e2 : ((((answers s n.toNat).take 2).length : Int) != 1) = true := bne_iff_ne.2 (fun h => c ((take2_one _).1 h))
      constructor
      · refine Ev.mk' K1 fun k hk => ?_
        simp (disch := omega) only [spec_HarderPuzzle.f, spec_CountAnswers.f, h1, obind]
        by_cases c2 : (ansV s n).2 = true
        · rw [if_pos c2, bne_iff_ne.2 (fun h => c (hc.1 ⟨c2, h⟩))]
          simp [spec_HarderPuzzle.j0]
        · rw [if_neg c2]
          simp [spec_HarderPuzzle.j0]
      · refine Ev.mk' K2 fun k hk => ?_
        simp (disch := omega) only [impl_HarderPuzzle.f, isPuzzle_ok, h2, obind, hg, if_true, e2]
        simp [impl_HarderPuzzle.j0]
  · have hf := Bool.eq_false_iff.2 hg
    rw [if_neg (fun h => hg h.1)]
    have ev : ansV s n = ([], false) := by unfold ansV; rw [if_neg (fun h => hg h.1)]
    constructor
    · refine Ev.mk' K1 fun k hk => ?_
      simp (disch := omega) only [spec_HarderPuzzle.f, spec_CountAnswers.f, h1, obind, ev, Bool.false_eq_true, if_false]
      simp [spec_HarderPuzzle.j0]
    · refine Ev.mk' 0 fun k hk => ?_
      simp (disch := omega) only [impl_HarderPuzzle.f, isPuzzle_ok, obind, hf, Bool.false_eq_true, if_false]
      simp [impl_HarderPuzzle.j0]
end Go.Proofs.YtgmfaleamhpfjaaDoor.P
namespace Go.Proofs.YtgmfaleamhpfjaaDoor.P
open Go.RowKit Go.Proofs.YtgmfaleamhpfjaaDoorW.PrintWords Go.Proofs.YtgmfaleamhpfjaaDoorW.PrintLast
set_option linter.unusedVariables false
set_option linter.unusedSimpArgs false
theorem btl (s : ByteArray) (i : Nat) (h : i < s.size) : bt s (i : Int) = ((s.data.toList[i]'(by rw [Array.length_toList]; exact h)).toNat : Int) := by
  have e := bt_at s (i : Int) h
  have e2 : s.data.toList[i]'(by rw [Array.length_toList]; exact h) = s[i]'h := by simp; rfl
  rw [e2]; exact e.symm
def Weaker (t s : ByteArray) : Prop := t.size = s.size ∧ ∀ i : Nat, i < s.size → bt t i = 63 ∨ bt t i = bt s i
theorem Weaker.refl (s : ByteArray) : Weaker s s := ⟨rfl, fun _ _ => .inr rfl⟩
theorem Weaker.trans {u t s : ByteArray} (h : Weaker u t) (h2 : Weaker t s) : Weaker u s := ⟨h.1.trans h2.1, fun i hi => by
  rcases h.2 i (by rw [h2.1]; exact hi) with e | e
  · exact .inl e
  · rw [e]; exact h2.2 i hi⟩
theorem fitD_weaker {t s : ByteArray} (h : Weaker t s) (e r : Int) : ∀ (d pos : Nat), pos + d = s.size → fitD s e r pos d = true → fitD t e r pos d = true
  | 0, pos, hp, hf => rfl
  | d + 1, pos, hp, hf => by
    simp only [fitD, Bool.and_eq_true] at hf ⊢
    refine ⟨?_, fitD_weaker h e r d (pos + 1) (by omega) hf.2⟩
    rcases h.2 pos (by omega) with c | c
    · rw [c]; rfl
    · rw [c]; exact hf.1
theorem agD_weaker {t s : ByteArray} (h : Weaker t s) (l : List SRule) : ∀ (d pos : Nat), pos + d = s.size → agD s l pos d = true → agD t l pos d = true
  | 0, pos, hp, hf => rfl
  | d + 1, pos, hp, hf => by
    simp only [agD, Bool.and_eq_true] at hf ⊢
    refine ⟨?_, agD_weaker h l d (pos + 1) (by omega) hf.2⟩
    rcases h.2 pos (by omega) with c | c
    · rw [c]; rfl
    · rw [c]; exact hf.1
theorem rowFit_sub {t s : ByteArray} (h : Weaker t s) (e : Int) : ∀ (d : Nat) (r : Int), (rowFit s e r d).Sublist (rowFit t e r d)
  | 0, r => .slnil
  | d + 1, r => by
    simp only [rowFit]
    refine List.Sublist.append ?_ (rowFit_sub h e d (r + 1))
    cases c : fitD s e r 0 s.size with
    | true =>
      have c2 := fitD_weaker h e r s.size 0 (by omega) c
      rw [h.1, c2]
      exact List.Sublist.refl _
    | false => exact List.nil_sublist _
theorem allFit_sub {t s : ByteArray} (h : Weaker t s) : ∀ (d : Nat) (e : Int), (allFit s e d).Sublist (allFit t e d)
  | 0, e => .slnil
  | d + 1, e => by
    simp only [allFit]
    exact List.Sublist.append (rowFit_sub h e e.toNat 0) (allFit_sub h d (e + 1))
theorem fitOf_sub {t s : ByteArray} (h : Weaker t s) : (fitOf s).Sublist (fitOf t) := allFit_sub h 9 2
theorem comb_zero (l : List SRule) : comb 0 l = [[]] := by cases l <;> rfl
theorem comb_sub {A B : List SRule} (h : A.Sublist B) : ∀ n, (comb n A).Sublist (comb n B) := by
  induction h with
  | slnil => intro n; exact List.Sublist.refl _
  | cons a h ih =>
    intro n
    cases n with
    | zero => rw [comb_zero, comb_zero]; exact List.Sublist.refl _
    | succ n =>
      simp only [comb]
      exact (ih (n + 1)).trans (List.sublist_append_right _ _)
  | cons_cons a h ih =>
    intro n
    cases n with
    | zero => rw [comb_zero, comb_zero]; exact List.Sublist.refl _
    | succ n =>
      simp only [comb]
      exact List.Sublist.append ((ih n).map _) (ih (n + 1))
theorem filter_sub {α : Type} {P Q : α → Bool} (h : ∀ x, P x = true → Q x = true) (l : List α) : (l.filter P).Sublist (l.filter Q) := by
  have e : l.filter P = (l.filter Q).filter P := by
    rw [List.filter_filter]
    refine List.filter_congr fun x _ => ?_
    cases hp : P x with
    | true => rw [h x hp]; rfl
    | false => rfl
  rw [e]
  exact List.filter_sublist
theorem answers_sub {t s : ByteArray} (h : Weaker t s) (R : Nat) : (answers s R).Sublist (answers t R) := by
  unfold answers
  refine (filter_sub (Q := agB t) (fun l hl => ?_) _).trans ((comb_sub (fitOf_sub h) R).filter _)
  unfold agB at hl ⊢
  rw [h.1]
  exact agD_weaker h l s.size 0 (by omega) hl
theorem put_bt (s : ByteArray) (a i : Nat) (h0 : 1 ≤ a) (h1 : a ≤ s.size) (hi : i < s.size) : bt (putB s a qm) i = if i + 1 = a then 63 else bt s i := by
  have hz := putB_size s a (by omega) (by omega)
  have hl : s.data.toList.length = s.size := Array.length_toList
  rw [btl _ i (by omega)]
  have e := putB_list s a
  rw [show ((a : Int) - 1).toNat = a - 1 by omega, Int.toNat_natCast] at e
  have e2 : ∀ (L : List UInt8) (hL : (putB s a qm).data.toList = L) (h : i < L.length), (putB s a qm).data.toList[i]'(by rw [hL]; exact h) = L[i] := by intro L hL h; subst hL; rfl
  have hlen : i < (s.data.toList.take (a - 1) ++ [63] ++ s.data.toList.drop a).length := by simp; omega
  rw [e2 _ e hlen]
  by_cases c : i + 1 = a
  · rw [if_pos c]
    have : i = a - 1 := by omega
    subst this
    rw [List.getElem_append_left (by simp; omega), List.getElem_append_right (by simp; omega)]
    simp
  · rw [if_neg c, btl s i hi]
    by_cases c2 : i < a - 1
    · rw [List.getElem_append_left (by simp; omega), List.getElem_append_left (by simp; omega), List.getElem_take]
    · rw [List.getElem_append_right (by simp; omega), List.getElem_drop]
      congr 3
      simp; omega
theorem put_weaker (s : ByteArray) (a : Nat) (h0 : 1 ≤ a) (h1 : a ≤ s.size) : Weaker (putB s a qm) s := ⟨putB_size s a (by omega) (by omega), fun i hi => by
  rw [put_bt s a i h0 h1 hi]
  split
  · exact .inl rfl
  · exact .inr rfl⟩
theorem put_mono {t s : ByteArray} (h : Weaker t s) (a : Nat) (h0 : 1 ≤ a) (h1 : a ≤ s.size) : Weaker (putB t a qm) (putB s a qm) := by
  have h2 := putB_size s a (by omega) (by omega)
  have h3 := putB_size t a (by omega) (by rw [h.1]; omega)
  refine ⟨by rw [h2, h3]; exact h.1, fun i hi => ?_⟩
  rw [put_bt s a i h0 h1 (by omega), put_bt t a i h0 (by rw [h.1]; exact h1) (by rw [h.1]; omega)]
  split
  · exact .inl rfl
  · exact h.2 i (by omega)
theorem hard_all (R : Nat) : ∀ (d a : Nat) (s : ByteArray), a + d = s.size + 1 → 1 ≤ a → (answers s R).length = 1 →
    Weaker (hardS R s a d) s ∧ (answers (hardS R s a d) R).length = 1 ∧ ∀ b : Nat, a ≤ b → b ≤ s.size → bt (hardS R s a d) ((b : Int) - 1) ≠ 63 → 2 ≤ (answers (putB (hardS R s a d) b qm) R).length
  | 0, a, s, h, ha, h1 => ⟨Weaker.refl s, h1, fun b hb hb2 _ => by omega⟩
  | d + 1, a, s, h, ha, h1 => by
    have hw := put_weaker s a ha (by omega)
    simp only [hardS]
    by_cases c : (answers (putB s a qm) R).length = 1
    · rw [if_pos c]
      obtain ⟨i1, i2, i3⟩ := hard_all R d (a + 1) (putB s a qm) (by rw [hw.1]; omega) (by omega) c
      refine ⟨i1.trans hw, i2, fun b hb hb2 hn => ?_⟩
      by_cases e : b = a
      · exfalso
        subst e
        apply hn
        have hp := put_bt s b (b - 1) ha hb2 (by omega)
        rw [if_pos (by omega)] at hp
        have hb' : ((b : Int) - 1) = ((b - 1 : Nat) : Int) := by omega
        rw [hb']
        rcases i1.2 (b - 1) (by rw [hw.1]; omega) with q | q
        · exact q
        · rw [q, hp]
      · exact i3 b (by omega) (by rw [hw.1]; exact hb2) hn
    · rw [if_neg c]
      obtain ⟨i1, i2, i3⟩ := hard_all R d (a + 1) s (by omega) (by omega) h1
      refine ⟨i1, i2, fun b hb hb2 hn => ?_⟩
      by_cases e : b = a
      · subst e
        have l1 := (answers_sub hw R).length_le
        have l2 := (answers_sub (put_mono i1 b ha hb2) R).length_le
        omega
      · exact i3 b (by omega) hb2 hn
theorem hard_same (R : Nat) (s : ByteArray) (h1 : (answers s R).length = 1) : answers (hardS R s 1 s.size) R = answers s R := by
  obtain ⟨i1, i2, -⟩ := hard_all R s.size 1 s (by omega) (Nat.le_refl _) h1
  exact ((answers_sub i1 R).eq_of_length (by rw [h1, i2])).symm
theorem hard_good (n : Int) : ∀ (d a : Nat) (s : ByteArray), a + d = s.size + 1 → 1 ≤ a → goodP s n = true → goodP (hardS n.toNat s a d) n = true
  | 0, a, s, h, ha, hg => hg
  | d + 1, a, s, h, ha, hg => by
    have hz := putB_size s a (by omega) (by omega)
    simp only [hardS]
    split
    · exact hard_good n d (a + 1) _ (by omega) (by omega) (putB_good s n a hg (by omega) (by omega))
    · exact hard_good n d (a + 1) s (by omega) (by omega) hg
end Go.Proofs.YtgmfaleamhpfjaaDoor.P
namespace Go.Proofs.YtgmfaleamhpfjaaDoor.P
open Go.RowKit Go.Proofs.YtgmfaleamhpfjaaDoorW.PrintWords Go.Proofs.YtgmfaleamhpfjaaDoorW.PrintLast
set_option linter.unusedVariables false
set_option linter.unusedSimpArgs false
def patB (l : List SRule) (i : Int) : Nat → ByteArray → ByteArray
  | 0, acc => acc
  | m + 1, acc => patB l (i + 1) m (acc ++ (if left l i = true then (⟨#[111]⟩ : ByteArray) else ⟨#[120]⟩))
def pat (l : List SRule) (n : Int) : ByteArray := patB l 1 n.toNat (⟨#[]⟩ : ByteArray)
theorem sz_o (a : ByteArray) : (a ++ (⟨#[111]⟩ : ByteArray)).size = a.size + 1 := by rw [ByteArray.size_append]; rfl
theorem sz_x (a : ByteArray) : (a ++ (⟨#[120]⟩ : ByteArray)).size = a.size + 1 := by rw [ByteArray.size_append]; rfl
theorem patS_l0 (l : List SRule) (hm : l.length ≤ 12) (hl : l.all okRule = true) (hi : Int) (h2 : hi ≤ 48) : ∀ (m : Nat) (i : Int) (acc : ByteArray), i + m = hi + 1 → 1 ≤ i → acc.size + m ≤ 1000 → Ev (fun k => spec_PatternOf.l0 k l hi acc i) (patB l i m acc, true)
  | 0, i, acc, h, h0, h1 => Ev.mk' 0 fun k _ => by
    simp only [spec_PatternOf.l0]
    rw [if_neg (by omega)]; rfl
  | m + 1, i, acc, h, h0, h1 => by
    obtain ⟨K1, h3⟩ := siLeft_ev i l (by omega) hl
    dsimp only at h3
    simp only [patB]
    by_cases hc : left l i = true
    · obtain ⟨K, ih⟩ := patS_l0 l hm hl hi h2 m (i + 1) (acc ++ (⟨#[111]⟩ : ByteArray)) (by omega) (by omega) (by rw [sz_o]; omega)
      dsimp only at ih
      refine Ev.mk' (K + K1) fun k hk => ?_
      simp only [spec_PatternOf.l0, h3 k (by omega), obind]
      rw [if_pos (by omega), if_pos hc, if_pos (by omega), wrap_id (by omega) (by omega), ih k (by omega), if_pos hc]
    · obtain ⟨K, ih⟩ := patS_l0 l hm hl hi h2 m (i + 1) (acc ++ (⟨#[120]⟩ : ByteArray)) (by omega) (by omega) (by rw [sz_x]; omega)
      dsimp only at ih
      refine Ev.mk' (K + K1) fun k hk => ?_
      simp only [spec_PatternOf.l0, h3 k (by omega), obind]
      rw [if_pos (by omega), if_neg hc, if_pos (by omega), wrap_id (by omega) (by omega), ih k (by omega), if_neg hc]
theorem patI_l0 (l : List SRule) (hl : l.all okRule = true) (hi : Int) (h2 : hi ≤ 48) : ∀ (m : Nat) (i : Int) (acc : ByteArray), i + m = hi + 1 → 1 ≤ i → acc.size + m ≤ 1000 → Ev (fun k => impl_patternOf.l0 k l hi acc i) (patB l i m acc)
  | 0, i, acc, h, h0, h1 => Ev.mk' 0 fun k _ => by
    simp only [impl_patternOf.l0]
    rw [if_neg (by omega)]; rfl
  | m + 1, i, acc, h, h0, h1 => by
    simp only [patB]
    by_cases hc : left l i = true
    · obtain ⟨K, ih⟩ := patI_l0 l hl hi h2 m (i + 1) (acc ++ (⟨#[111]⟩ : ByteArray)) (by omega) (by omega) (by rw [sz_o]; omega)
      dsimp only at ih
      refine Ev.mk' K fun k hk => ?_
      simp only [impl_patternOf.l0, isLeft_ok i l hl, obind]
      rw [if_pos (by omega), if_pos hc, if_pos (by omega), wrap_id (by omega) (by omega), ih k (by omega), if_pos hc]
    · obtain ⟨K, ih⟩ := patI_l0 l hl hi h2 m (i + 1) (acc ++ (⟨#[120]⟩ : ByteArray)) (by omega) (by omega) (by rw [sz_x]; omega)
      dsimp only at ih
      refine Ev.mk' K fun k hk => ?_
      simp only [impl_patternOf.l0, isLeft_ok i l hl, obind]
      rw [if_pos (by omega), if_neg hc, if_pos (by omega), wrap_id (by omega) (by omega), ih k (by omega), if_neg hc]
theorem patternOf_ev (l : List SRule) (hl : l.all okRule = true) (n : Int) (h0 : 1 ≤ n) (h1 : n ≤ 48) : Ev (fun k => impl_patternOf.f k l n) (pat l n) := by
  obtain ⟨K, h⟩ := patI_l0 l hl n h1 n.toNat 1 (⟨#[]⟩ : ByteArray) (by omega) (by omega) (by show (0 : Nat) + _ ≤ _; omega)
  exact ⟨K, fun k hk => h k hk⟩
theorem specPattern_ev (l : List SRule) (hg : goodRules l = true) (n : Int) (h0 : 1 ≤ n) (h1 : n ≤ 48) : Ev (fun k => spec_PatternOf.f k l n) (pat l n, true) := by
  obtain ⟨K1, h2⟩ := siGood_ev l
  dsimp only at h2
  obtain ⟨K2, h3⟩ := patS_l0 l (good_all hg).1 (good_all hg).2 n h1 n.toNat 1 (⟨#[]⟩ : ByteArray) (by omega) (by omega) (by show (0 : Nat) + _ ≤ _; omega)
  have h3 : ∀ k, K2 ≤ k → spec_PatternOf.l0 k l n (⟨#[]⟩ : ByteArray) 1 = _ := h3
  have e : (decide (1 ≤ n) && decide (n ≤ 48)) = true := by simp [h0, h1]
  refine Ev.mk' (K1 + K2) fun k hk => ?_
  simp (disch := omega) only [spec_PatternOf.f, h2, obind, hg, if_true, l1In_ok, e]
  simp (disch := omega) only [spec_PatternOf.j0, h3, Bool.not_true, Bool.false_eq_true, if_false]
  rfl
def patVal (l : List SRule) (n : Int) : ByteArray × Bool := if goodRules l = true ∧ 1 ≤ n ∧ n ≤ 48 then (pat l n, true) else ((⟨#[]⟩ : ByteArray), false)
theorem PatternOf_main (l : List SRule) (n : Int) : Ev (fun k => spec_PatternOf.f k l n) (patVal l n) ∧ Ev (fun k => impl_PatternOf.f k l n) (patVal l n) := by
  unfold patVal
  obtain ⟨K1, h1⟩ := siGood_ev l
  dsimp only at h1
  by_cases hc : goodRules l = true ∧ 1 ≤ n ∧ n ≤ 48
  · obtain ⟨K2, h2⟩ := patternOf_ev l (good_all hc.1).2 n hc.2.1 hc.2.2
    dsimp only at h2
    rw [if_pos hc]
    refine ⟨specPattern_ev l hc.1 n hc.2.1 hc.2.2, ⟨K2, fun k hk => ?_⟩⟩
    simp only [impl_PatternOf.f, areRules_ok, obind, hc.1, if_true, h2 k hk]
    rw [if_neg (by omega), if_neg (by omega)]
  · rw [if_neg hc]
    constructor
    · refine Ev.mk' K1 fun k hk => ?_
      simp (disch := omega) only [spec_PatternOf.f, h1, obind, l1In_ok]
      by_cases hg : goodRules l = true
      · have e : (decide (1 ≤ n) && decide (n ≤ 48)) = false := by
          rw [Bool.and_eq_false_iff]; simp only [decide_eq_false_iff_not]; by_cases h : 1 ≤ n
          · right; intro h'; exact hc ⟨hg, h, h'⟩
          · left; exact h
        rw [if_pos hg, e]
        simp [spec_PatternOf.j0]
      · rw [if_neg hg]; simp [spec_PatternOf.j0]
    · refine ⟨0, fun k _ => ?_⟩
      simp only [impl_PatternOf.f, areRules_ok, obind]
      by_cases hg : goodRules l = true
      · rw [if_pos hg]
        by_cases h : n < 1
        · rw [if_pos h]
        · rw [if_neg h, if_pos (by apply Decidable.byContradiction; intro h'; exact hc ⟨hg, by omega, by omega⟩)]
      · rw [if_neg hg]
end Go.Proofs.YtgmfaleamhpfjaaDoor.P
namespace Go.Proofs.YtgmfaleamhpfjaaDoor.P
open Go.RowKit Go.Proofs.YtgmfaleamhpfjaaDoorW.PrintWords Go.Proofs.YtgmfaleamhpfjaaDoorW.PrintLast
set_option linter.unusedVariables false
set_option linter.unusedSimpArgs false
def hasR (l : List SRule) (e t : Int) : Bool := l.any fun x => x.f0 == e && x.f1 == t
theorem pzHas_l0 (l : List SRule) (hm : l.length ≤ 100) (e t : Int) : ∀ d i : Nat, i + d = l.length → Ev (fun k => spec_pzHas.l0 k l (l.length : Int) i e t) (hasR (l.drop i) e t)
  | 0, i, h => Ev.mk' 0 fun k _ => by
    simp only [spec_pzHas.l0]
    rw [if_neg (by omega), List.drop_of_length_le (by omega)]; rfl
  | d + 1, i, h => by
    obtain ⟨K, ih⟩ := pzHas_l0 l hm e t d (i + 1) (by omega)
    dsimp only at ih
    refine Ev.mk' K fun k hk => ?_
    have ih : spec_pzHas.l0 k l (l.length : Int) ((i : Int) + 1) e t = _ := ih k hk
    rw [rd_drop l i (by omega)]
    simp only [spec_pzHas.l0, hasR, List.any_cons] at ih ⊢
    rw [if_pos (by omega), if_pos (by omega), if_pos (by omega), wrap_id (by omega) (by omega), ih]
    cases ((rd_Rule l i).f0 == e && (rd_Rule l i).f1 == t) <;> simp
theorem pzHas_ev (l : List SRule) (hm : l.length ≤ 100) (e t : Int) : Ev (fun k => spec_pzHas.f k l e t) (hasR l e t) := pzHas_l0 l hm e t l.length 0 (by omega)
theorem index_l0 (l : List SRule) (hm : l.length ≤ 100) (e t : Int) : ∀ d i : Nat, i + d = l.length → Ev (fun k => impl_Rule_53.l0 k l (l.length : Int) i e t) (firstIx (fun x => x.f0 == e && x.f1 == t) (l.drop i) i)
  | 0, i, h => Ev.mk' 0 fun k _ => by
    simp only [impl_Rule_53.l0]
    rw [if_neg (by omega), List.drop_of_length_le (by omega)]; rfl
  | d + 1, i, h => by
    obtain ⟨K, ih⟩ := index_l0 l hm e t d (i + 1) (by omega)
    dsimp only at ih
    refine Ev.mk' K fun k hk => ?_
    have ih : impl_Rule_53.l0 k l (l.length : Int) ((i : Int) + 1) e t = _ := ih k hk
    rw [rd_drop l i (by omega)]
    simp only [impl_Rule_53.l0, firstIx]
    have ec : (e == (rd_Rule l i).f0 && t == (rd_Rule l i).f1) = ((rd_Rule l i).f0 == e && (rd_Rule l i).f1 == t) := by rw [BEq.comm (a := e), BEq.comm (a := t)]
    rw [if_pos (by omega), if_pos (by omega), if_pos (by omega), wrap_id (by omega) (by omega), ih, show (((i + 1 : Nat) : Int)) = (i : Int) + 1 by omega, ec]
    split <;> rfl
theorem firstIx_iff (p : SRule → Bool) : ∀ (l : List SRule) (i : Int), 0 ≤ i → (firstIx p l i ≥ 0 ↔ l.any p = true)
  | [], i, h => by simp [firstIx]
  | x :: l, i, h => by
    simp only [firstIx, List.any_cons]
    by_cases hx : p x = true
    · rw [if_pos hx, hx, Bool.true_or]; simp; omega
    · rw [if_neg hx, Bool.eq_false_iff.2 hx, Bool.false_or]; exact firstIx_iff p l (i + 1) (by omega)
theorem firstIx_ge (p : SRule → Bool) (l : List SRule) (i : Int) (h : 0 ≤ i) : decide (firstIx p l i ≥ 0) = l.any p := by
  by_cases c : l.any p = true
  · rw [c]; exact decide_eq_true ((firstIx_iff p l i h).2 c)
  · rw [Bool.eq_false_iff.2 c]; exact decide_eq_false fun h' => c ((firstIx_iff p l i h).1 h')
theorem contains_ev (l : List SRule) (hm : l.length ≤ 100) (e t : Int) : Ev (fun k => impl_Rule_30.f k l e t) (hasR l e t) := by
  obtain ⟨K, h⟩ := index_l0 l hm e t l.length 0 (by omega)
  have h : ∀ k, K ≤ k → impl_Rule_53.f k l e t = some (firstIx (fun x => x.f0 == e && x.f1 == t) l 0) := h
  refine ⟨K, fun k hk => ?_⟩
  simp only [impl_Rule_30.f, h k hk, obind, firstIx_ge _ l 0 (by omega), hasR]
def stepN (z : Nat) : Nat := (z * 177 + 2221) % 10007
def evN (z : Nat) : Nat := stepN z % 9 + 2
def reN (z : Nat) : Nat := stepN (stepN z) % evN z
theorem stepN_le (z : Nat) : stepN z ≤ 10006 := by unfold stepN; omega
theorem evN_le (z : Nat) : evN z ≤ 10 := by unfold evN; omega
theorem evN_ge (z : Nat) : 2 ≤ evN z := by unfold evN; omega
theorem raw (z : Nat) (h : z ≤ 10006) : Int.tmod (wrap64 ((wrap64 ((z : Int) * 177)) + 2221)) 10007 = (stepN z : Int) := by
  rw [wrap_id (n := (z : Int) * 177) (by omega) (by omega), wrap_id (by omega) (by omega), Int.tmod_eq_emod_of_nonneg (by omega)]
  unfold stepN; omega
theorem nextZ_nat (z : Nat) (h : z ≤ 10006) : nextZ (z : Int) = (stepN z : Int) := raw z h
theorem ev_nat (z : Nat) : wrap64 (Int.tmod (stepN z : Int) 9 + 2) = (evN z : Int) := by
  have := stepN_le z
  rw [Int.tmod_eq_emod_of_nonneg (by omega), wrap_id (by omega) (by omega)]
  unfold evN; omega
theorem re_nat (z : Nat) : Int.tmod (stepN (stepN z) : Int) (evN z : Int) = (reN z : Int) := by
  rw [Int.tmod_eq_emod_of_nonneg (by omega)]
  unfold reN; exact (Int.natCast_emod _ _).symm
theorem reN_lt (z : Nat) : reN z < evN z := Nat.mod_lt _ (by have := evN_ge z; omega)
theorem ok_draw (z : Nat) : okRule ⟨(evN z : Int), (reN z : Int)⟩ = true := by
  have h1 := evN_le z; have h2 := evN_ge z; have h3 := reN_lt z
  exact (okRule_iff _).2 ⟨by show (2 : Int) ≤ (evN z : Int); omega, by show (evN z : Int) ≤ 60; omega, by show (0 : Int) ≤ (reN z : Int); omega, by show (reN z : Int) < (evN z : Int); omega⟩
def run (n : Nat) : Nat → Nat → List SRule → Option (List SRule)
  | 0, _, l => bif Nat.ble n l.length then some l else none
  | f + 1, z, l => bif Nat.ble n l.length then some l else bif hasR l (evN z) (reN z) then run n f (stepN (stepN z)) l else run n f (stepN (stepN z)) (l ++ [(⟨(evN z : Int), (reN z : Int)⟩ : SRule)])
def fin (a0 : Int) (n : Nat) : Option (List SRule) → ByteArray × Int × Bool
  | some l => (pat l a0, (n : Int), true)
  | none => ((⟨#[]⟩ : ByteArray), 0, false)
theorem ble_t {a b : Nat} (h : a ≤ b) : Nat.ble a b = true := by rw [Nat.ble_eq]; exact h
theorem ble_f {a b : Nat} (h : ¬ a ≤ b) : Nat.ble a b = false := by
  cases e : Nat.ble a b with
  | false => rfl
  | true => exact absurd (by rw [Nat.ble_eq] at e; exact e) h
theorem good_of {l : List SRule} (hl : l.all okRule = true) (hm : l.length ≤ 12) : goodRules l = true := by
  unfold goodRules; rw [hl, Bool.and_true]; exact decide_eq_true hm
theorem specMk_l0 (a0 : Int) (h0 : 1 ≤ a0) (h1 : a0 ≤ 48) (n : Nat) (hn : n ≤ 3) : ∀ (f z : Nat) (l : List SRule) (i : Int), i + f = 20 → 0 ≤ i → z ≤ 10006 → l.all okRule = true → l.length ≤ n → Ev (fun k => spec_MakePuzzle.l0 k a0 (n : Int) (z : Int) l i) (fin a0 n (run n f z l))
  | 0, z, l, i, hi, hi0, hz, hl, hm => by
    obtain ⟨K1, h2⟩ := specPattern_ev l (good_of hl (by omega)) a0 h0 h1
    dsimp only at h2
    refine ⟨K1 + 2, fun k hk => ?_⟩
    obtain ⟨k, rfl⟩ : ∃ j, k = j + 2 := ⟨k - 2, by omega⟩
    simp only [spec_MakePuzzle.l0, run]
    rw [if_neg (by omega)]
    simp only [spec_MakePuzzle.j2]
    rw [if_neg (by decide)]
    by_cases c : n ≤ l.length
    · rw [ble_t c, if_neg (by omega), h2 k (by omega), obind]; rfl
    · rw [ble_f c, if_pos (by omega)]; rfl
  | f + 1, z, l, i, hi, hi0, hz, hl, hm => by
    by_cases c : n ≤ l.length
    · obtain ⟨K1, h2⟩ := specPattern_ev l (good_of hl (by omega)) a0 h0 h1
      dsimp only at h2
      refine ⟨K1 + 2, fun k hk => ?_⟩
      obtain ⟨k, rfl⟩ : ∃ j, k = j + 2 := ⟨k - 2, by omega⟩
      simp only [spec_MakePuzzle.l0, run]
      rw [if_pos (by omega), decide_eq_false (by omega), ble_t c]
      simp only [spec_MakePuzzle.j2]
      rw [if_neg (by decide), if_neg (by omega), h2 k (by omega), obind]; rfl
    · obtain ⟨K1, h2⟩ := pzHas_ev l (by omega) (evN z) (reN z)
      dsimp only at h2
      have hs := stepN_le z
      have hs2 := stepN_le (stepN z)
      have he := evN_ge z
      cases hh : hasR l (evN z) (reN z) with
      | true =>
        obtain ⟨K2, ih⟩ := specMk_l0 a0 h0 h1 n hn f (stepN (stepN z)) l (i + 1) (by omega) (by omega) hs2 hl hm
        dsimp only at ih
        refine ⟨K1 + K2 + 2, fun k hk => ?_⟩
        obtain ⟨k, rfl⟩ : ∃ j, k = j + 2 := ⟨k - 2, by omega⟩
        simp only [spec_MakePuzzle.l0, run]
        rw [if_pos (by omega), decide_eq_true (by omega), ble_f c, hh]
        simp only [spec_MakePuzzle.j2, raw z hz, raw (stepN z) hs, ev_nat, re_nat, if_true]
        rw [if_neg (by omega), h2 k (by omega), obind, hh, if_pos rfl, wrap_id (by omega) (by omega), ih k (by omega)]; rfl
      | false =>
        obtain ⟨K2, ih⟩ := specMk_l0 a0 h0 h1 n hn f (stepN (stepN z)) (l ++ [(⟨(evN z : Int), (reN z : Int)⟩ : SRule)]) (i + 1) (by omega) (by omega) hs2 (by rw [List.all_append, hl]; simp [ok_draw]) (by simp; omega)
        dsimp only at ih
        refine ⟨K1 + K2 + 2, fun k hk => ?_⟩
        obtain ⟨k, rfl⟩ : ∃ j, k = j + 2 := ⟨k - 2, by omega⟩
        simp only [spec_MakePuzzle.l0, run]
        rw [if_pos (by omega), decide_eq_true (by omega), ble_f c, hh]
        simp only [spec_MakePuzzle.j2, raw z hz, raw (stepN z) hs, ev_nat, re_nat, if_true]
        rw [if_neg (by omega), h2 k (by omega), obind, hh, if_neg (by decide), if_pos (by omega), wrap_id (by omega) (by omega), ih k (by omega)]; rfl
theorem implMk_l0 (a0 : Int) (h0 : 1 ≤ a0) (h1 : a0 ≤ 48) (n : Nat) (hn : n ≤ 3) : ∀ (f z : Nat) (l l' : List SRule) (ag : Int), run n f z l = some l' → 0 ≤ ag → ag + f ≤ 20 → z ≤ 10006 → l.all okRule = true → l.length ≤ n → Ev (fun k => impl_MakePuzzle.l0 k a0 (n : Int) (z : Int) l ag) (pat l' a0, (n : Int), true)
  | 0, z, l, l', ag, hr, ha, hf, hz, hl, hm => by
    by_cases c : n ≤ l.length
    · simp only [run] at hr
      rw [ble_t c] at hr
      obtain rfl := Option.some.inj hr
      obtain ⟨K1, h2⟩ := patternOf_ev l hl a0 h0 h1
      dsimp only at h2
      refine Ev.mk' K1 fun k hk => ?_
      simp only [impl_MakePuzzle.l0]
      rw [if_neg (by omega), h2 k hk, obind]
    · simp only [run] at hr
      rw [ble_f c] at hr
      exact absurd hr (by simp)
  | f + 1, z, l, l', ag, hr, ha, hf, hz, hl, hm => by
    by_cases c : n ≤ l.length
    · simp only [run] at hr
      rw [ble_t c] at hr
      obtain rfl := Option.some.inj hr
      obtain ⟨K1, h2⟩ := patternOf_ev l hl a0 h0 h1
      dsimp only at h2
      refine Ev.mk' K1 fun k hk => ?_
      simp only [impl_MakePuzzle.l0]
      rw [if_neg (by omega), h2 k hk, obind]
    · simp only [run] at hr
      rw [ble_f c] at hr
      obtain ⟨K1, h2⟩ := contains_ev l (by omega) (evN z) (reN z)
      dsimp only at h2
      have hs := stepN_le z
      have hs2 := stepN_le (stepN z)
      have he := evN_ge z
      cases hh : hasR l (evN z) (reN z) with
      | true =>
        rw [hh] at hr
        obtain ⟨K2, ih⟩ := implMk_l0 a0 h0 h1 n hn f (stepN (stepN z)) l l' (ag + 1) hr (by omega) (by omega) hs2 hl hm
        dsimp only at ih
        refine Ev.mk' (K1 + K2) fun k hk => ?_
        simp only [impl_MakePuzzle.l0, nextZ_nat z hz, nextZ_nat (stepN z) hs, ev_nat, re_nat]
        rw [if_pos (by omega), if_neg (by omega), h2 k (by omega), obind, hh, if_pos rfl, if_neg (by omega), wrap_id (by omega) (by omega), ih k (by omega)]
      | false =>
        rw [hh] at hr
        obtain ⟨K2, ih⟩ := implMk_l0 a0 h0 h1 n hn f (stepN (stepN z)) (l ++ [(⟨(evN z : Int), (reN z : Int)⟩ : SRule)]) l' ag hr (by omega) (by omega) hs2 (by rw [List.all_append, hl]; simp [ok_draw]) (by simp; omega)
        dsimp only at ih
        refine Ev.mk' (K1 + K2) fun k hk => ?_
        simp only [impl_MakePuzzle.l0, nextZ_nat z hz, nextZ_nat (stepN z) hs, ev_nat, re_nat]
        rw [if_pos (by omega), if_neg (by omega), h2 k (by omega), obind, hh, if_neg (by decide), if_pos (by omega), ih k (by omega)]
theorem implMk_still (a0 : Int) (n : Nat) (hn : n ≤ 3) (l : List SRule) (hl : l.length < n) (hh : hasR l 5 2 = true) : ∀ (d : Nat) (ag : Int), ag + d = 20 → 0 ≤ ag → Ev (fun k => impl_MakePuzzle.l0 k a0 (n : Int) 3342 l ag) ((⟨#[]⟩ : ByteArray), 0, false)
  | 0, ag, h, h0 => by
    obtain ⟨K1, h2⟩ := contains_ev l (by omega) 5 2
    dsimp only at h2
    have e1 : nextZ 3342 = 3342 := (nextZ_nat 3342 (by omega)).trans (by decide)
    have e2 : wrap64 (Int.tmod 3342 9 + 2) = 5 := by rw [wrap_id (by decide) (by decide)]; decide
    have e3 : Int.tmod 3342 5 = 2 := by decide
    refine Ev.mk' K1 fun k hk => ?_
    simp only [impl_MakePuzzle.l0, e1, e2, e3]
    rw [if_pos (by omega), if_neg (by decide), h2 k hk, obind, hh, if_pos rfl, if_pos (by omega)]
  | d + 1, ag, h, h0 => by
    obtain ⟨K1, h2⟩ := contains_ev l (by omega) 5 2
    dsimp only at h2
    obtain ⟨K2, ih⟩ := implMk_still a0 n hn l hl hh d (ag + 1) (by omega) (by omega)
    dsimp only at ih
    have e1 : nextZ 3342 = 3342 := (nextZ_nat 3342 (by omega)).trans (by decide)
    have e2 : wrap64 (Int.tmod 3342 9 + 2) = 5 := by rw [wrap_id (by decide) (by decide)]; decide
    have e3 : Int.tmod 3342 5 = 2 := by decide
    refine Ev.mk' (K1 + K2) fun k hk => ?_
    simp only [impl_MakePuzzle.l0, e1, e2, e3]
    rw [if_pos (by omega), if_neg (by decide), h2 k (by omega), obind, hh, if_pos rfl, if_neg (by omega), wrap_id (by omega) (by omega), ih k (by omega)]
theorem run_mono (n m : Nat) (h : m ≤ n) : ∀ (f z : Nat) (l : List SRule), (run n f z l).isSome = true → (run m f z l).isSome = true
  | 0, z, l, hs => by
    by_cases c : n ≤ l.length
    · simp only [run]; rw [ble_t (by omega)]; rfl
    · simp only [run] at hs; rw [ble_f c] at hs; exact absurd hs (by simp)
  | f + 1, z, l, hs => by
    by_cases c : m ≤ l.length
    · simp only [run]; rw [ble_t c]; rfl
    · simp only [run] at hs ⊢
      rw [ble_f (by omega : ¬ n ≤ l.length)] at hs
      rw [ble_f c]
      cases hh : hasR l (evN z) (reN z) with
      | true => rw [hh] at hs; exact run_mono n m h f _ _ hs
      | false => rw [hh] at hs; exact run_mono n m h f _ _ hs
def allB : Nat → (Nat → Bool) → Bool
  | 0, _ => true
  | k + 1, f => f k && allB k f
theorem allB_ok (f : Nat → Bool) : ∀ k, allB k f = true → ∀ i, i < k → f i = true
  | 0, _, i, h => absurd h (by omega)
  | k + 1, hk, i, h => by
    simp only [allB, Bool.and_eq_true] at hk
    by_cases e : i = k
    · rw [e]; exact hk.1
    · exact allB_ok f k hk.2 i (by omega)
def seedOk (s : Nat) : Bool := (run 3 6 s []).isSome || Nat.beq s 3342
set_option maxRecDepth 1000000 in
theorem seeds_ok : allB 100 (fun a => allB 100 fun b => seedOk (100 * a + b)) = true := by kernel_rfl
theorem seed_ok (s : Nat) (h : s ≤ 9999) (hs : s ≠ 3342) : (run 3 6 s []).isSome = true := by
  have h1 := allB_ok _ 100 seeds_ok (s / 100) (by omega)
  have h2 := allB_ok _ 100 h1 (s % 100) (by omega)
  have e : 100 * (s / 100) + s % 100 = s := by omega
  rw [e] at h2
  unfold seedOk at h2
  rw [Bool.or_eq_true] at h2
  rcases h2 with h2 | h2
  · exact h2
  · exact absurd (Nat.eq_of_beq_eq_true h2) hs
theorem run_more (n : Nat) : ∀ (f z : Nat) (l l' : List SRule), run n f z l = some l' → ∀ g, f ≤ g → run n g z l = some l'
  | 0, z, l, l', hr, g, hg => by
    by_cases c : n ≤ l.length
    · simp only [run] at hr; rw [ble_t c] at hr
      cases g with
      | zero => simp only [run]; rw [ble_t c]; exact hr
      | succ g => simp only [run]; rw [ble_t c]; exact hr
    · simp only [run] at hr; rw [ble_f c] at hr; exact absurd hr (by simp)
  | f + 1, z, l, l', hr, g, hg => by
    obtain ⟨g, rfl⟩ : ∃ j, g = j + 1 := ⟨g - 1, by omega⟩
    by_cases c : n ≤ l.length
    · simp only [run] at hr ⊢; rw [ble_t c] at hr ⊢; exact hr
    · simp only [run] at hr ⊢; rw [ble_f c] at hr ⊢
      cases hh : hasR l (evN z) (reN z) with
      | true => rw [hh] at hr; exact run_more n f _ _ l' hr g (by omega)
      | false => rw [hh] at hr; exact run_more n f _ _ l' hr g (by omega)
def mkVal (a0 a1 a2 : Int) : ByteArray × Int × Bool := if (1 ≤ a0 ∧ a0 ≤ 48) ∧ (0 ≤ a1 ∧ a1 ≤ 3) ∧ 0 ≤ a2 ∧ a2 ≤ 9999 then fin a0 a1.toNat (run a1.toNat 20 a2.toNat []) else ((⟨#[]⟩ : ByteArray), 0, false)
theorem MakePuzzle_main (a0 a1 a2 : Int) : Ev (fun k => spec_MakePuzzle.f k a0 a1 a2) (mkVal a0 a1 a2) ∧ Ev (fun k => impl_MakePuzzle.f k a0 a1 a2) (mkVal a0 a1 a2) := by
  unfold mkVal
  by_cases hc : (1 ≤ a0 ∧ a0 ≤ 48) ∧ (0 ≤ a1 ∧ a1 ≤ 3) ∧ 0 ≤ a2 ∧ a2 ≤ 9999
  · rw [if_pos hc]
    obtain ⟨⟨h0, h1⟩, ⟨h2, h3⟩, h4, h5⟩ := hc
    have e0 : (decide (1 ≤ a0) && decide (a0 ≤ 48)) = true := by simp [h0, h1]
    have e1 : (decide (0 ≤ a1) && decide (a1 ≤ 3)) = true := by simp [h2, h3]
    have e2 : (decide (0 ≤ a2) && decide (a2 ≤ 9999)) = true := by simp [h4, h5]
    obtain ⟨n, rfl⟩ : ∃ n : Nat, a1 = (n : Int) := ⟨a1.toNat, by omega⟩
    obtain ⟨s, rfl⟩ : ∃ s : Nat, a2 = (s : Int) := ⟨a2.toNat, by omega⟩
    rw [Int.toNat_natCast, Int.toNat_natCast]
    have hn : n ≤ 3 := by omega
    have hs : s ≤ 9999 := by omega
    constructor
    · obtain ⟨K, h⟩ := specMk_l0 a0 h0 h1 n hn 20 s [] 0 (by omega) (by omega) (by omega) rfl (by simp)
      dsimp only at h
      refine Ev.mk' K fun k hk => ?_
      simp only [spec_MakePuzzle.f, l1In_ok, obind, e0, e1, e2, if_true]
      simp only [spec_MakePuzzle.j0, Bool.not_true, Bool.false_eq_true, if_false, h k hk]
    · have hb : ¬ (a0 < 1 ∨ a0 > 48 ∨ (n : Int) < 0 ∨ (n : Int) > 3 ∨ (s : Int) < 0 ∨ (s : Int) > 9999) := by omega
      have goal : Ev (fun k => impl_MakePuzzle.l0 k a0 (n : Int) (s : Int) [] 0) (fin a0 n (run n 20 s [])) := by
        cases hr : run n 20 s [] with
        | some l' => exact implMk_l0 a0 h0 h1 n hn 20 s [] l' 0 hr (by omega) (by omega) (by omega) rfl (by simp)
        | none =>
          by_cases hsd : s = 3342
          · subst hsd
            by_cases hn2 : 2 ≤ n
            · obtain ⟨K1, h6⟩ := contains_ev [] (by simp) 5 2
              dsimp only at h6
              obtain ⟨K2, h7⟩ := implMk_still a0 n hn [⟨5, 2⟩] (by simp; omega) rfl 20 0 (by omega) (by omega)
              dsimp only at h7
              have e1 : nextZ 3342 = 3342 := (nextZ_nat 3342 (by omega)).trans (by decide)
              have e2 : wrap64 (Int.tmod 3342 9 + 2) = 5 := by rw [wrap_id (by decide) (by decide)]; decide
              have e3 : Int.tmod 3342 5 = 2 := by decide
              refine Ev.mk' (K1 + K2) fun k hk => ?_
              have e4 : (((3342 : Nat) : Int)) = 3342 := rfl
              simp only [impl_MakePuzzle.l0, e4, e1, e2, e3]
              rw [if_pos (by simp; omega), if_neg (by decide), h6 k (by omega), obind, if_neg (by decide), if_pos (by simp), List.nil_append, h7 k (by omega)]; rfl
            · exfalso
              have : n = 0 ∨ n = 1 := by omega
              rcases this with rfl | rfl
              · exact absurd hr (by decide)
              · exact absurd hr (by decide)
          · exfalso
            have h6 := run_mono 3 n hn 6 s [] (seed_ok s hs hsd)
            obtain ⟨l', h7⟩ := Option.isSome_iff_exists.1 h6
            rw [run_more n 6 s [] l' h7 20 (by omega)] at hr
            exact absurd hr (by simp)
      obtain ⟨K, h⟩ := goal
      dsimp only at h
      refine ⟨K, fun k hk => ?_⟩
      simp only [impl_MakePuzzle.f]
      rw [if_neg hb, h k hk]
  · rw [if_neg hc]
    constructor
    · refine Ev.mk' 0 fun k hk => ?_
      simp only [spec_MakePuzzle.f, l1In_ok, obind]
      by_cases c1 : (decide (1 ≤ a0) && decide (a0 ≤ 48)) = true
      · rw [if_pos c1]
        by_cases c2 : (decide (0 ≤ a1) && decide (a1 ≤ 3)) = true
        · rw [if_pos c2]
          have c3 : (decide (0 ≤ a2) && decide (a2 ≤ 9999)) = false := by
            apply Bool.eq_false_iff.2; intro h
            simp only [Bool.and_eq_true, decide_eq_true_eq] at c1 c2 h
            exact hc ⟨c1, c2, h⟩
          rw [c3]; simp [spec_MakePuzzle.j0]
        · rw [if_neg c2]; simp [spec_MakePuzzle.j0]
      · rw [if_neg c1]; simp [spec_MakePuzzle.j0]
    · refine ⟨0, fun k _ => ?_⟩
      simp only [impl_MakePuzzle.f]
      rw [if_pos (by omega)]
end Go.Proofs.YtgmfaleamhpfjaaDoor.P
namespace Go.Proofs.YtgmfaleamhpfjaaDoor.P
open Go.RowKit Go.Proofs.YtgmfaleamhpfjaaDoorW.PrintWords Go.Proofs.YtgmfaleamhpfjaaDoorW.PrintLast
set_option linter.unusedVariables false
set_option linter.unusedSimpArgs false
theorem pzPattern_ev (s : ByteArray) : Ev (fun k => spec_pzPattern.f k s) (goodP s 0) := by
  obtain ⟨K, h⟩ := pzGood_ev s 0
  refine ⟨K, fun k hk => ?_⟩
  have h := h k hk
  simp only [spec_pzGood.f] at h
  obtain ⟨t, h1, h2⟩ := Option.bind_eq_some_iff.1 h
  show spec_pzPattern.f k s = _
  rw [h1]
  cases t with
  | true =>
    simp only [if_true, l1In_ok, obind] at h2
    exact h2
  | false => simpa using h2
theorem goodP_n (s : ByteArray) (n : Nat) (h : n ≤ 3) : goodP s (n : Int) = goodP s 0 := by
  unfold goodP
  rw [decide_eq_true (show (0 : Int) ≤ (n : Int) by omega), decide_eq_true (show (n : Int) ≤ 3 by omega)]
  rfl
def fewV (s : ByteArray) (n : Nat) : Nat → Int × Bool
  | 0 => (0, false)
  | d + 1 => if 0 < (answers s n).length then ((n : Int), true) else fewV s (n + 1) d
theorem specFew_l0 (s : ByteArray) (hg : goodP s 0 = true) : ∀ (d n : Nat), n + d = 4 → Ev (fun k => spec_FewestRules.l0 k s (n : Int)) (fewV s n d)
  | 0, n, h => Ev.mk' 0 fun k _ => by
    simp only [spec_FewestRules.l0, fewV]
    rw [if_neg (by omega)]
  | d + 1, n, h => by
    obtain ⟨g1, g2, g3, g4, g5⟩ := good_parts hg
    obtain ⟨K1, h1⟩ := specFew_l0 s hg d (n + 1) (by omega)
    obtain ⟨K2, h2⟩ := pzFit_ev s g3 g2
    obtain ⟨K3, h3⟩ := pzAll_ev s g3 g2 n (by omega)
    dsimp only at h1 h2 h3
    refine Ev.mk' (K1 + K2 + K3) fun k hk => ?_
    simp only [spec_FewestRules.l0, fewV, h2 k (by omega), h3 k (by omega), obind]
    rw [if_pos (by omega), show wrap64 ((n : Int) + 1) = ((n + 1 : Nat) : Int) from wrap_id (by omega) (by omega), h1 k (by omega), List.length_take]
    by_cases c : 0 < (answers s n).length
    · rw [if_pos (by omega), if_pos c]
    · rw [if_neg (by omega), if_neg c]
theorem implFew_l0 (s : ByteArray) (hg : goodP s 0 = true) : ∀ (d n : Nat), n + d = 4 → Ev (fun k => impl_FewestRules.l0 k s (n : Int)) (fewV s n d)
  | 0, n, h => Ev.mk' 0 fun k _ => by
    simp only [impl_FewestRules.l0, fewV]
    rw [if_neg (by omega)]
  | d + 1, n, h => by
    obtain ⟨g1, g2, g3, g4, g5⟩ := good_parts hg
    obtain ⟨K1, h1⟩ := implFew_l0 s hg d (n + 1) (by omega)
    obtain ⟨K3, h3⟩ := someAnswers_ev s g3 g2 n 1 (by omega) (by omega)
    dsimp only at h1
    have h3 : ∀ k, K3 ≤ k → impl_someAnswers.f k s (n : Int) 1 = _ := h3
    refine Ev.mk' (K1 + K3) fun k hk => ?_
    simp only [impl_FewestRules.l0, fewV, isPuzzle_ok, goodP_n s n (by omega), hg, h3 k (by omega), obind]
    rw [if_pos (by omega), if_pos trivial, show wrap64 ((n : Int) + 1) = ((n + 1 : Nat) : Int) from wrap_id (by omega) (by omega), h1 k (by omega), List.length_take]
    by_cases c : 0 < (answers s n).length
    · rw [if_pos (by omega), if_pos c]
    · rw [if_neg (by omega), if_neg c]
theorem implFew_bad (s : ByteArray) (hg : goodP s 0 = false) : ∀ (d n : Nat), n + d = 4 → Ev (fun k => impl_FewestRules.l0 k s (n : Int)) ((0 : Int), false)
  | 0, n, h => Ev.mk' 0 fun k _ => by
    simp only [impl_FewestRules.l0]
    rw [if_neg (by omega)]
  | d + 1, n, h => by
    obtain ⟨K1, h1⟩ := implFew_bad s hg d (n + 1) (by omega)
    dsimp only at h1
    refine Ev.mk' K1 fun k hk => ?_
    simp only [impl_FewestRules.l0, isPuzzle_ok, goodP_n s n (by omega), hg, obind]
    rw [if_pos (by omega), if_neg (by decide), show wrap64 ((n : Int) + 1) = ((n + 1 : Nat) : Int) from wrap_id (by omega) (by omega), h1 k (by omega)]
def fewestV (s : ByteArray) : Int × Bool := if goodP s 0 = true then fewV s 0 4 else (0, false)
theorem FewestRules_main (s : ByteArray) : Ev (fun k => spec_FewestRules.f k s) (fewestV s) ∧ Ev (fun k => impl_FewestRules.f k s) (fewestV s) := by
  obtain ⟨K1, h1⟩ := pzPattern_ev s
  dsimp only at h1
  unfold fewestV
  by_cases hg : goodP s 0 = true
  · obtain ⟨K2, h2⟩ := specFew_l0 s hg 4 0 (by omega)
    obtain ⟨K3, h3⟩ := implFew_l0 s hg 4 0 (by omega)
    have h2 : ∀ k, K2 ≤ k → spec_FewestRules.l0 k s 0 = _ := h2
    rw [if_pos hg]
    refine ⟨⟨K1 + K2, fun k hk => ?_⟩, ⟨K3, fun k hk => h3 k hk⟩⟩
    simp (disch := omega) only [spec_FewestRules.f, h1, obind, hg, if_true, h2]
  · have hf := Bool.eq_false_iff.2 hg
    obtain ⟨K3, h3⟩ := implFew_bad s hf 4 0 (by omega)
    rw [if_neg hg]
    refine ⟨⟨K1, fun k hk => ?_⟩, ⟨K3, fun k hk => h3 k hk⟩⟩
    simp (disch := omega) only [spec_FewestRules.f, h1, obind, hf, Bool.false_eq_true, if_false]
end Go.Proofs.YtgmfaleamhpfjaaDoor.P
namespace Go.Proofs.YtgmfaleamhpfjaaDoor.P
open Go.RowKit Go.Proofs.YtgmfaleamhpfjaaDoorW.PrintWords Go.Proofs.YtgmfaleamhpfjaaDoorW.PrintLast
set_option linter.unusedVariables false
set_option linter.unusedSimpArgs false
theorem btm (s : ByteArray) (i : Nat) (h : i < s.size) : bt s (i : Int) = ((s.data.toList[i]'(by rw [Array.length_toList]; exact h)).toNat : Int) := by
  have e := bt_at s (i : Int) h
  have e2 : s.data.toList[i]'(by rw [Array.length_toList]; exact h) = s[i]'h := by simp; rfl
  rw [e2]; exact e.symm
def patL (l : List SRule) (i : Int) : Nat → List UInt8
  | 0 => []
  | m + 1 => (if left l i = true then 111 else 120) :: patL l (i + 1) m
theorem patL_length (l : List SRule) : ∀ (m : Nat) (i : Int), (patL l i m).length = m
  | 0, i => rfl
  | m + 1, i => by simp [patL, patL_length l m]
theorem patL_get (l : List SRule) : ∀ (m : Nat) (i : Int) (j : Nat) (h : j < (patL l i m).length), (patL l i m)[j] = (if left l (i + j) = true then 111 else 120)
  | 0, i, j, h => absurd h (by simp [patL])
  | m + 1, i, 0, h => by simp [patL]
  | m + 1, i, j + 1, h => by
    simp only [patL, List.getElem_cons_succ]
    rw [patL_get l m (i + 1) j, show i + 1 + (j : Int) = i + ((j + 1 : Nat) : Int) by omega]
theorem pat_list (l : List SRule) (n : Int) : (pat l n).data.toList = patL l 1 n.toNat := by
  have h : ∀ (m : Nat) (i : Int) (acc : ByteArray), (patB l i m acc).data.toList = acc.data.toList ++ patL l i m := by
    intro m
    induction m with
    | zero => intro i acc; simp [patB, patL]
    | succ m ih =>
      intro i acc
      simp only [patB, patL]
      rw [ih]
      by_cases c : left l i = true
      · simp [c, ByteArray.data_append]
      · simp [c, ByteArray.data_append]
  have := h n.toNat 1 (⟨#[]⟩ : ByteArray)
  simpa [pat] using this
theorem pat_size (l : List SRule) (n : Int) : (pat l n).size = n.toNat := by
  have h := congrArg List.length (pat_list l n)
  rw [patL_length] at h
  have hl : (pat l n).data.toList.length = (pat l n).size := Array.length_toList
  omega
theorem pat_bt (l : List SRule) (n : Int) (i : Nat) (h : i < n.toNat) : bt (pat l n) (i : Int) = if left l ((i : Int) + 1) = true then 111 else 120 := by
  rw [btm _ i (by rw [pat_size]; exact h)]
  have e2 : ∀ (L : List UInt8) (hL : (pat l n).data.toList = L) (h : i < L.length), (pat l n).data.toList[i]'(by rw [hL]; exact h) = L[i] := by intro L hL h; subst hL; rfl
  rw [e2 _ (pat_list l n) (by rw [patL_length]; exact h), patL_get, show (1 : Int) + (i : Int) = (i : Int) + 1 by omega]
  split <;> rfl
theorem pat_good (l : List SRule) (n : Int) (m : Nat) (h0 : 1 ≤ n) (h1 : n ≤ 48) (hm : m ≤ 3) : goodP (pat l n) (m : Int) = true := by
  have hs : (patL l 1 n.toNat).all sign = true := by
    have : ∀ (d : Nat) (i : Int), (patL l i d).all sign = true := by
      intro d
      induction d with
      | zero => intro i; rfl
      | succ d ih =>
        intro i
        simp only [patL, List.all_cons, ih, Bool.and_true]
        split <;> rfl
    exact this _ _
  unfold goodP
  rw [pat_list, hs, pat_size, decide_eq_true (show 1 ≤ n.toNat by omega), decide_eq_true (show n.toNat ≤ 48 by omega), decide_eq_true (show (0 : Int) ≤ (m : Int) by omega), decide_eq_true (show (m : Int) ≤ 3 by omega)]
  rfl
theorem run_spec (n : Nat) : ∀ (f z : Nat) (l l' : List SRule), run n f z l = some l' → l.length ≤ n → (∀ r ∈ l, 2 ≤ r.f0 ∧ r.f0 ≤ 10 ∧ 0 ≤ r.f1 ∧ r.f1 < r.f0) → l'.length = n ∧ ∀ r ∈ l', 2 ≤ r.f0 ∧ r.f0 ≤ 10 ∧ 0 ≤ r.f1 ∧ r.f1 < r.f0
  | 0, z, l, l', hr, hl, ha => by
    by_cases c : n ≤ l.length
    · simp only [run] at hr; rw [ble_t c] at hr
      obtain rfl := Option.some.inj hr
      exact ⟨by omega, ha⟩
    · simp only [run] at hr; rw [ble_f c] at hr; exact absurd hr (by simp)
  | f + 1, z, l, l', hr, hl, ha => by
    by_cases c : n ≤ l.length
    · simp only [run] at hr; rw [ble_t c] at hr
      obtain rfl := Option.some.inj hr
      exact ⟨by omega, ha⟩
    · simp only [run] at hr; rw [ble_f c] at hr
      cases hh : hasR l (evN z) (reN z) with
      | true => rw [hh] at hr; exact run_spec n f _ l l' hr hl ha
      | false =>
        rw [hh] at hr
        refine run_spec n f _ _ l' hr (by simp; omega) ?_
        intro r hr2
        rcases List.mem_append.1 hr2 with h | h
        · exact ha r h
        · obtain rfl := List.mem_singleton.1 h
          have h1 := evN_le z; have h2 := evN_ge z; have h3 := reN_lt z
          exact ⟨by show (2 : Int) ≤ (evN z : Int); omega, by show (evN z : Int) ≤ 10; omega, by show (0 : Int) ≤ (reN z : Int); omega, by show (reN z : Int) < (evN z : Int); omega⟩
theorem rowFit_in (s : ByteArray) (e : Int) : ∀ (d : Nat) (t x : Int), t ≤ x → x < t + d → fitD s e x 0 s.size = true → (⟨e, x⟩ : SRule) ∈ rowFit s e t d
  | 0, t, x, h0, h1, hf => by omega
  | d + 1, t, x, h0, h1, hf => by
    simp only [rowFit]
    by_cases c : x = t
    · subst c; rw [hf]; simp
    · exact List.mem_append_right _ (rowFit_in s e d (t + 1) x (by omega) (by omega) hf)
theorem allFit_in (s : ByteArray) : ∀ (d : Nat) (e : Int) (r : SRule), e ≤ r.f0 → r.f0 < e + d → 0 ≤ r.f1 → r.f1 < r.f0 → fitD s r.f0 r.f1 0 s.size = true → r ∈ allFit s e d
  | 0, e, r, h0, h1, _, _, hf => by omega
  | d + 1, e, r, h0, h1, h2, h3, hf => by
    simp only [allFit]
    by_cases c : r.f0 = e
    · have := rowFit_in s e e.toNat 0 r.f1 h2 (by omega) (by rw [← c]; exact hf)
      refine List.mem_append_left _ ?_
      have hr : (⟨e, r.f1⟩ : SRule) = r := by rw [← c]
      rwa [hr] at this
    · exact List.mem_append_right _ (allFit_in s d (e + 1) r (by omega) (by omega) h2 h3 hf)
theorem rowFit_nodup (s : ByteArray) (e : Int) : ∀ (d : Nat) (t : Int), (rowFit s e t d).Nodup ∧ ∀ r ∈ rowFit s e t d, r.f0 = e ∧ t ≤ r.f1
  | 0, t => ⟨List.nodup_nil, fun r h => by simp [rowFit] at h⟩
  | d + 1, t => by
    obtain ⟨h1, h2⟩ := rowFit_nodup s e d (t + 1)
    simp only [rowFit]
    cases fitD s e t 0 s.size with
    | false => exact ⟨h1, fun r h => ⟨(h2 r h).1, by have := (h2 r h).2; omega⟩⟩
    | true =>
      refine ⟨List.nodup_cons.2 ⟨fun h => ?_, h1⟩, fun r h => ?_⟩
      · have := (h2 _ h).2; simp only at this; omega
      · rcases List.mem_cons.1 h with rfl | h
        · exact ⟨rfl, Int.le_refl _⟩
        · exact ⟨(h2 r h).1, by have := (h2 r h).2; omega⟩
theorem allFit_nodup (s : ByteArray) : ∀ (d : Nat) (e : Int), (allFit s e d).Nodup ∧ ∀ r ∈ allFit s e d, e ≤ r.f0
  | 0, e => ⟨List.nodup_nil, fun r h => by simp [allFit] at h⟩
  | d + 1, e => by
    obtain ⟨h1, h2⟩ := allFit_nodup s d (e + 1)
    obtain ⟨h3, h4⟩ := rowFit_nodup s e e.toNat 0
    simp only [allFit]
    refine ⟨List.nodup_append.2 ⟨h3, h1, fun a ha b hb e_ => ?_⟩, fun r h => ?_⟩
    · subst e_
      have x1 := (h4 a ha).1; have x2 := h2 a hb; omega
    · rcases List.mem_append.1 h with h | h
      · have := (h4 r h).1; omega
      · have := h2 r h; omega
theorem nodup_len {α : Type} : ∀ (A B : List α), A.Nodup → (∀ x ∈ A, x ∈ B) → A.length ≤ B.length
  | [], B, _, _ => Nat.zero_le _
  | a :: t, B, h, hs => by
    obtain ⟨p, q, rfl⟩ := List.append_of_mem (hs a List.mem_cons_self)
    obtain ⟨h1, h2⟩ := List.nodup_cons.1 h
    have := nodup_len t (p ++ q) h2 (fun x hx => by
      have hx2 := hs x (List.mem_cons_of_mem _ hx)
      rcases List.mem_append.1 hx2 with h3 | h3
      · exact List.mem_append_left _ h3
      · rcases List.mem_cons.1 h3 with h4 | h4
        · exact absurd (h4 ▸ hx) h1
        · exact List.mem_append_right _ h4)
    simp only [List.length_cons, List.length_append] at this ⊢
    omega
theorem sub_comb {A B : List SRule} (h : A.Sublist B) : A ∈ comb A.length B := by
  induction h with
  | slnil => simp [comb]
  | cons a h ih =>
    rename_i l1 l2
    cases hl : l1.length with
    | zero =>
      have : l1 = [] := List.eq_nil_of_length_eq_zero hl
      subst this; simp [comb]
    | succ m =>
      rw [hl] at ih
      simp only [comb]
      exact List.mem_append_right _ ih
  | cons_cons a h ih =>
    simp only [List.length_cons, comb]
    exact List.mem_append_left _ (List.mem_map_of_mem ih)
theorem hasR_iff (l : List SRule) (r : SRule) : hasR l r.f0 r.f1 = true ↔ r ∈ l := by
  unfold hasR
  rw [List.any_eq_true]
  constructor
  · rintro ⟨x, hx, h⟩
    simp only [Bool.and_eq_true, beq_iff_eq] at h
    have : x = r := by obtain ⟨x0, x1⟩ := x; obtain ⟨r0, r1⟩ := r; simp only at h; rw [h.1, h.2]
    exact this ▸ hx
  · intro h; exact ⟨r, h, by simp⟩
theorem left_same {A B : List SRule} (h : ∀ r, r ∈ A ↔ r ∈ B) (n : Int) : left A n = left B n := by
  rw [left_all, left_all, Bool.eq_iff_iff, List.all_eq_true, List.all_eq_true]
  exact ⟨fun h1 x hx => h1 x ((h x).2 hx), fun h1 x hx => h1 x ((h x).1 hx)⟩
theorem crosses_of (n : Int) (r : SRule) : (n % r.f0 == r.f1) = crosses n r := rfl
theorem pat_fits (l : List SRule) (n : Int) (r : SRule) (hr : r ∈ l) : ∀ (d pos : Nat), pos + d = n.toNat → fitD (pat l n) r.f0 r.f1 pos d = true
  | 0, pos, h => rfl
  | d + 1, pos, h => by
    simp only [fitD, pat_fits l n r hr d (pos + 1) (by omega), Bool.and_true]
    rw [pat_bt l n pos (by omega)]
    by_cases c : left l ((pos : Int) + 1) = true
    · rw [if_pos c]
      rw [left_all] at c
      have := List.all_eq_true.1 c r hr
      have h2 : crosses ((pos : Int) + 1) r = false := by simpa using this
      have h3 : (((pos : Int) + 1) % r.f0 == r.f1) = false := h2
      rw [h3]; rfl
    · rw [if_neg c]; rfl
theorem pat_agrees (l l2 : List SRule) (n : Int) (h : ∀ r, r ∈ l2 ↔ r ∈ l) : ∀ (d pos : Nat), pos + d = n.toNat → agD (pat l n) l2 pos d = true
  | 0, pos, h => rfl
  | d + 1, pos, hp => by
    simp only [agD, pat_agrees l l2 n h d (pos + 1) (by omega), Bool.and_true]
    rw [pat_bt l n pos (by omega), left_same h]
    by_cases c : left l ((pos : Int) + 1) = true
    · rw [if_pos c, c]; rfl
    · rw [if_neg c, Bool.eq_false_iff.2 c]; rfl
theorem made_answers (l : List SRule) (n : Int) (m : Nat) (hl : l.length = m) (hr : ∀ r ∈ l, 2 ≤ r.f0 ∧ r.f0 ≤ 10 ∧ 0 ≤ r.f1 ∧ r.f1 < r.f0) : ∃ q, q ≤ m ∧ 0 < (answers (pat l n) q).length := by
  have hz := pat_size l n
  have hin : ∀ r ∈ l, r ∈ fitOf (pat l n) := fun r h => by
    obtain ⟨h1, h2, h3, h4⟩ := hr r h
    exact allFit_in _ 9 2 r h1 (by omega) h3 h4 (by rw [hz]; exact pat_fits l n r h _ 0 (by omega))
  obtain ⟨F, hF⟩ : ∃ F, F = (fitOf (pat l n)).filter (fun r => hasR l r.f0 r.f1) := ⟨_, rfl⟩
  have hmem : ∀ r, r ∈ F ↔ r ∈ l := fun r => by
    rw [hF, List.mem_filter, hasR_iff]
    exact ⟨fun h => h.2, fun h => ⟨hin r h, h⟩⟩
  have hsub : F.Sublist (fitOf (pat l n)) := by rw [hF]; exact List.filter_sublist
  have hnd : F.Nodup := hsub.nodup (allFit_nodup (pat l n) 9 2).1
  refine ⟨F.length, by rw [← hl]; exact nodup_len F l hnd (fun x hx => (hmem x).1 hx), ?_⟩
  have : F ∈ answers (pat l n) F.length := by
    unfold answers
    rw [List.mem_filter]
    refine ⟨sub_comb hsub, ?_⟩
    unfold agB
    rw [hz]
    exact pat_agrees l F n hmem _ 0 (by omega)
  exact List.length_pos_of_mem this
theorem fewV_le (s : ByteArray) : ∀ (d n q : Nat), n ≤ q → q < n + d → 0 < (answers s q).length → (fewV s n d).2 = true ∧ (fewV s n d).1 ≤ (q : Int)
  | 0, n, q, h0, h1, ha => by omega
  | d + 1, n, q, h0, h1, ha => by
    simp only [fewV]
    by_cases c : 0 < (answers s n).length
    · rw [if_pos c]; exact ⟨rfl, by show (n : Int) ≤ q; omega⟩
    · rw [if_neg c]
      exact fewV_le s d (n + 1) q (by
        by_cases e : n = q
        · subst e; exact absurd ha c
        · omega) (by omega) ha
end Go.Proofs.YtgmfaleamhpfjaaDoor.P
namespace Go.Proofs.YtgmfaleamhpfjaaDoor.P
open Go.RowKit Go.Proofs.YtgmfaleamhpfjaaDoorW.PrintWords Go.Proofs.YtgmfaleamhpfjaaDoorW.PrintLast
set_option linter.unusedVariables false
set_option linter.unusedSimpArgs false
theorem and255 (x : Int) : 0 ≤ Go.bits .and .u64 x 255 ∧ Go.bits .and .u64 x 255 ≤ 255 := by
  have h : (BitVec.ofInt IntKind.u64.bits x &&& BitVec.ofInt IntKind.u64.bits 255).toNat ≤ 255 := by
    rw [BitVec.toNat_and]
    exact Nat.le_trans Nat.and_le_right (by decide)
  have e : Go.bits .and .u64 x 255 = IntKind.u64.wrap ((BitVec.ofInt IntKind.u64.bits x &&& BitVec.ofInt IntKind.u64.bits 255).toNat : Int) := rfl
  rw [e]
  obtain ⟨q, hq⟩ : ∃ q, q = (BitVec.ofInt IntKind.u64.bits x &&& BitVec.ofInt IntKind.u64.bits 255).toNat := ⟨_, rfl⟩
  rw [← hq] at h ⊢
  have e2 : IntKind.u64.wrap (q : Int) = (q : Int) % 18446744073709551616 := by simp [IntKind.wrap, IntKind.bits, IntKind.signed]
  rw [e2]; omega
def bytesOk (c : List Int) : Prop := ∀ x ∈ c, 0 ≤ x ∧ x ≤ 255
theorem rd_in (l : List Int) (i : Int) (h0 : 0 ≤ i) (h1 : i < (l.length : Int)) : rd l i ∈ l := by
  have hi : i.toNat < l.length := by omega
  simp [rd, List.getD, hi]
theorem next_ok (c : List Int) (hc : bytesOk c) (p s : Int) (h0 : 0 ≤ p) (h1 : p ≤ 1000000000000) : ∃ v s', spec_l1Cur_next.f c p s = some (v, p + 1, s') ∧ 0 ≤ v ∧ v ≤ 255 := by
  unfold spec_l1Cur_next.f
  rw [wrap_id (n := p + 1) (by omega) (by omega)]
  by_cases c1 : p < (c.length : Int)
  · rw [if_pos c1, if_pos h0]
    have hb := hc _ (rd_in c p h0 c1)
    rw [if_pos (by omega), wrap_id (n := rd c p) (by omega) (by omega)]
    exact ⟨_, _, rfl, hb.1, hb.2⟩
  · rw [if_neg c1, if_neg (by omega)]
    have hb := and255 ((IntKind.u64.wrap ((IntKind.u64.wrap ((IntKind.u64.wrap (s * 6364136223846793005)) + 0)) + 1442695040888963407)) / 1099511627776)
    exact ⟨_, _, rfl, by rw [wrap_id (by omega) (by omega)]; exact hb.1, by rw [wrap_id (by omega) (by omega)]; exact hb.2⟩
theorem pick_ok (c : List Int) (hc : bytesOk c) (p s : Int) (h0 : 0 ≤ p) (h1 : p ≤ 100000000000) (n : Int) (hn : 1 ≤ n) (hn2 : n ≤ 100000) : ∃ r p' s', spec_l1Cur_pick.f c p s n = some (r, p', s') ∧ 0 ≤ r ∧ r < n ∧ p ≤ p' ∧ p' ≤ p + 2 := by
  unfold spec_l1Cur_pick.f
  by_cases c1 : n ≤ 1
  · rw [if_pos c1]; exact ⟨0, p, s, rfl, by omega, by omega, by omega, by omega⟩
  · rw [if_neg c1]
    obtain ⟨v, s1, e1, v0, v1⟩ := next_ok c hc p s h0 (by omega)
    rw [e1, obind]
    dsimp only
    by_cases c2 : n > 200
    · rw [if_pos c2]
      obtain ⟨v2, s2, e2, w0, w1⟩ := next_ok c hc (p + 1) s1 (by omega) (by omega)
      rw [e2, obind]
      dsimp only
      rw [if_neg (by omega), wrap_id (n := v * 256) (by omega) (by omega), wrap_id (by omega) (by omega), Int.tmod_eq_emod_of_nonneg (by omega)]
      exact ⟨_, _, _, rfl, Int.emod_nonneg _ (by omega), Int.emod_lt_of_pos _ (by omega), by omega, by omega⟩
    · rw [if_neg c2, if_neg (by omega), Int.tmod_eq_emod_of_nonneg (by omega)]
      exact ⟨_, _, _, rfl, Int.emod_nonneg _ (by omega), Int.emod_lt_of_pos _ (by omega), by omega, by omega⟩
theorem among_ok (c : List Int) (hc : bytesOk c) (p s : Int) (h0 : 0 ≤ p) (h1 : p ≤ 100000000000) (l : List Int) (hl : 1 ≤ l.length) (hl2 : l.length ≤ 1000) : ∃ r p' s', spec_l1Cur_among.f c p s l = some (r, p', s') ∧ r ∈ l ∧ p ≤ p' ∧ p' ≤ p + 2 := by
  obtain ⟨r, p', s', e, r0, r1, a, b⟩ := pick_ok c hc p s h0 h1 (l.length : Int) (by omega) (by omega)
  refine ⟨rd l r, p', s', ?_, rd_in l r r0 r1, a, b⟩
  unfold spec_l1Cur_among.f
  rw [e, obind]
  dsimp only
  rw [if_pos r0, if_pos r1]
theorem one_ok (c : List Int) (hc : bytesOk c) (p s : Int) (h0 : 0 ≤ p) (h1 : p ≤ 100000000000) (n : Int) (hn : 1 ≤ n) (hn2 : n ≤ 100000) : ∃ b p' s', spec_l1Cur_one.f c p s n = some (b, p', s') ∧ p ≤ p' ∧ p' ≤ p + 2 := by
  obtain ⟨r, p', s', e, -, -, a, b⟩ := pick_ok c hc p s h0 h1 n hn hn2
  refine ⟨(r == 0), p', s', ?_, a, b⟩
  unfold spec_l1Cur_one.f
  rw [e, obind]
end Go.Proofs.YtgmfaleamhpfjaaDoor.P
namespace Go.Proofs.YtgmfaleamhpfjaaDoor.P
open Go.RowKit Go.Proofs.YtgmfaleamhpfjaaDoorW.PrintWords Go.Proofs.YtgmfaleamhpfjaaDoorW.PrintLast
set_option linter.unusedVariables false
set_option linter.unusedSimpArgs false
theorem rdOf_in (l : List ByteArray) (i : Int) (h0 : 0 ≤ i) (h1 : i < (l.length : Int)) : rdOf ByteArray.empty l i ∈ l := by
  have hi : i.toNat < l.length := by omega
  simp [rdOf, List.getD, hi]
theorem of_ok (c : List Int) (hc : bytesOk c) (p s : Int) (h0 : 0 ≤ p) (h1 : p ≤ 100000000000) (l : List ByteArray) (hl : 1 ≤ l.length) (hl2 : l.length ≤ 1000) : ∃ r p' s', spec_l1Cur_of.f c p s l = some (r, p', s') ∧ r ∈ l ∧ p ≤ p' ∧ p' ≤ p + 2 := by
  obtain ⟨r, p', s', e, r0, r1, a, b⟩ := pick_ok c hc p s h0 h1 (l.length : Int) (by omega) (by omega)
  refine ⟨rdOf ByteArray.empty l r, p', s', ?_, rdOf_in l r r0 r1, a, b⟩
  unfold spec_l1Cur_of.f
  rw [e, obind]
  dsimp only
  rw [if_pos r0, if_pos r1]
theorem putg_size (s : ByteArray) (a : Int) (g : ByteArray) (hg : g.size = 1) (h0 : 1 ≤ a) (h1 : a ≤ (s.size : Int)) : (putB s a g).size = s.size := by
  unfold putB
  rw [ByteArray.size_append, ByteArray.size_append, size_l s a h0 h1, size_r s a, hg]
  omega
theorem pz_l1 (c : List Int) (hc : bytesOk c) (n : Int) : ∀ (d : Nat) (s : ByteArray) (p st : Int), s.size + d = 60 → 0 ≤ p → p + 4 * d ≤ 1000000000 → ∃ s' p' st', Ev (fun k => spec_l1Cur_puzzle.l1 k c p st s n) (s', n, p', st') ∧ s'.size ≤ 60 ∧ p ≤ p' ∧ p' ≤ p + 4 * (d + 1)
  | 0, s, p, st, h, h0, h1 => by
    obtain ⟨r, p1, s1, e1, r0, r1, a1, b1⟩ := pick_ok c hc p st h0 (by omega) 2 (by omega) (by omega)
    refine ⟨s, p1, s1, Ev.mk' 0 fun k _ => ?_, by omega, by omega, by omega⟩
    simp only [spec_l1Cur_puzzle.l1]
    rw [e1, obind]
    dsimp only
    rw [wrap_id (by omega) (by omega), if_neg (by omega)]
  | d + 1, s, p, st, h, h0, h1 => by
    obtain ⟨r, p1, s1, e1, r0, r1, a1, b1⟩ := pick_ok c hc p st h0 (by omega) 2 (by omega) (by omega)
    obtain ⟨g, p2, s2, e2, hg, a2, b2⟩ := of_ok c hc p1 s1 (by omega) (by omega) [(⟨#[120]⟩ : ByteArray), (⟨#[111]⟩ : ByteArray), (⟨#[63]⟩ : ByteArray)] (by decide) (by decide)
    have hz : g.size = 1 := by
      simp only [List.mem_cons, List.not_mem_nil, or_false] at hg
      rcases hg with rfl | rfl | rfl <;> rfl
    by_cases c1 : (s.size : Int) < 48 + r
    · obtain ⟨s', p', st', ⟨K, hk⟩, l', a', b'⟩ := pz_l1 c hc n d (s ++ g) p2 s2 (by rw [ByteArray.size_append]; omega) (by omega) (by omega)
      dsimp only at hk
      refine ⟨s', p', st', Ev.mk' K fun k hk2 => ?_, l', by omega, by omega⟩
      simp only [spec_l1Cur_puzzle.l1]
      rw [e1, obind]
      dsimp only
      rw [wrap_id (by omega) (by omega), if_pos c1, e2, obind]
      dsimp only
      rw [if_pos (by omega)]
      exact hk k hk2
    · refine ⟨s, p1, s1, Ev.mk' 0 fun k _ => ?_, by omega, by omega, by omega⟩
      simp only [spec_l1Cur_puzzle.l1]
      rw [e1, obind]
      dsimp only
      rw [wrap_id (by omega) (by omega), if_neg c1]
theorem pz_j2 (c : List Int) (hc : bytesOk c) (s : ByteArray) (n : Int) (hs : s.size ≤ 60) (p st : Int) (h0 : 0 ≤ p) (h1 : p ≤ 10000000) : ∃ s' n' p' st', Ev (fun k => spec_l1Cur_puzzle.j2 k c p st s n) (s', n', p', st') ∧ s'.size ≤ 60 ∧ p ≤ p' ∧ p' ≤ p + 1000 := by
  obtain ⟨r, p1, s1, e1, r0, r1, a1, b1⟩ := pick_ok c hc p st h0 (by omega) 16 (by omega) (by omega)
  by_cases c0 : r = 0
  · obtain ⟨g, p2, s2, e2, hg, a2, b2⟩ := among_ok c hc p1 s1 (by omega) (by omega) [(-1), 4, 4611686018427387904] (by decide) (by decide)
    refine ⟨s, g, p2, s2, Ev.mk' 0 fun k _ => ?_, hs, by omega, by omega⟩
    simp only [spec_l1Cur_puzzle.j2]
    rw [e1, obind]
    dsimp only
    rw [if_pos c0, e2, obind]
  · by_cases c1 : r = 1
    · obtain ⟨g, p2, s2, e2, hg, a2, b2⟩ := of_ok c hc p1 s1 (by omega) (by omega) [(⟨#[]⟩ : ByteArray), (⟨#[120]⟩ : ByteArray), (⟨#[111]⟩ : ByteArray), (⟨#[63]⟩ : ByteArray), (⟨#[111, 120, 122]⟩ : ByteArray), (⟨#[120, 120, 120]⟩ : ByteArray)] (by decide) (by decide)
      have hz : g.size ≤ 3 := by
        simp only [List.mem_cons, List.not_mem_nil, or_false] at hg
        rcases hg with rfl | rfl | rfl | rfl | rfl | rfl <;> decide
      refine ⟨g, n, p2, s2, Ev.mk' 0 fun k _ => ?_, by omega, by omega, by omega⟩
      simp only [spec_l1Cur_puzzle.j2]
      rw [e1, obind]
      dsimp only
      rw [if_neg c0, if_pos c1, e2, obind]
    · by_cases c2 : r = 2
      · obtain ⟨s', p', st', ⟨K, hk⟩, l', a', b'⟩ := pz_l1 c hc n (60 - s.size) s p1 s1 (by omega) (by omega) (by omega)
        dsimp only at hk
        refine ⟨s', n, p', st', Ev.mk' K fun k hk2 => ?_, l', by omega, by omega⟩
        simp only [spec_l1Cur_puzzle.j2]
        rw [e1, obind]
        dsimp only
        rw [if_neg c0, if_neg c1, if_pos c2]
        exact hk k hk2
      · refine ⟨s, n, p1, s1, Ev.mk' 0 fun k _ => ?_, hs, by omega, by omega⟩
        simp only [spec_l1Cur_puzzle.j2]
        rw [e1, obind]
        dsimp only
        rw [if_neg c0, if_neg c1, if_neg c2]
theorem pz_l0 (c : List Int) (hc : bytesOk c) : ∀ (d : Nat) (s : ByteArray) (n : Int) (p st : Int), d ≤ 100 → 1 ≤ s.size → s.size ≤ 48 → 0 ≤ p → p + 10 * d ≤ 1000000 → ∃ s' n' p' st', Ev (fun k => spec_l1Cur_puzzle.l0 k (d : Int) c p st s n) (s', n', p', st') ∧ s'.size ≤ 60 ∧ p ≤ p' ∧ p' ≤ p + 10 * d + 1000
  | 0, s, n, p, st, hd, hs0, hs, h0, h1 => by
    obtain ⟨s', n', p', st', ⟨K, hk⟩, l', a', b'⟩ := pz_j2 c hc s n (by omega) p st h0 (by omega)
    dsimp only at hk
    refine ⟨s', n', p', st', Ev.mk' K fun k hk2 => ?_, l', a', by omega⟩
    simp only [spec_l1Cur_puzzle.l0]
    rw [if_neg (by omega)]
    exact hk k hk2
  | d + 1, s, n, p, st, hd, hs0, hs, h0, h1 => by
    obtain ⟨r, p1, s1, e1, r0, r1, a1, b1⟩ := pick_ok c hc p st h0 (by omega) (s.size : Int) (by omega) (by omega)
    obtain ⟨g, p2, s2, e2, hg, a2, b2⟩ := of_ok c hc p1 s1 (by omega) (by omega) [(⟨#[63]⟩ : ByteArray), (⟨#[63]⟩ : ByteArray), (⟨#[63]⟩ : ByteArray), (⟨#[111]⟩ : ByteArray), (⟨#[120]⟩ : ByteArray)] (by decide) (by decide)
    have hz : g.size = 1 := by
      simp only [List.mem_cons, List.not_mem_nil, or_false] at hg
      rcases hg with rfl | rfl | rfl | rfl | rfl <;> rfl
    have e3 := put_ok' s n (1 + r) g hs hz (by omega) (by omega)
    have hz2 := putg_size s (1 + r) g hz (by omega) (by omega)
    obtain ⟨b, p4, s4, e4, a4, b4⟩ := one_ok c hc p2 s2 (by omega) (by omega) 2 (by omega) (by omega)
    cases b with
    | true =>
      obtain ⟨s', n', p', st', ⟨K, hk⟩, l', a', b'⟩ := pz_j2 c hc (putB s (1 + r) g) n (by omega) p4 s4 (by omega) (by omega)
      dsimp only at hk
      refine ⟨s', n', p', st', Ev.mk' K fun k hk2 => ?_, l', by omega, by omega⟩
      simp only [spec_l1Cur_puzzle.l0]
      rw [if_pos (by omega), e1, obind]
      dsimp only
      rw [e2, obind]
      dsimp only
      rw [wrap_id (by omega) (by omega), e3, obind]
      dsimp only
      rw [e4, obind]
      dsimp only
      rw [if_pos rfl]
      exact hk k hk2
    | false =>
      obtain ⟨s', n', p', st', ⟨K, hk⟩, l', a', b'⟩ := pz_l0 c hc d (putB s (1 + r) g) n p4 s4 (by omega) (by omega) (by omega) (by omega) (by omega)
      dsimp only at hk
      refine ⟨s', n', p', st', Ev.mk' K fun k hk2 => ?_, l', by omega, by omega⟩
      simp only [spec_l1Cur_puzzle.l0]
      rw [if_pos (by omega), e1, obind]
      dsimp only
      rw [e2, obind]
      dsimp only
      rw [wrap_id (n := 1 + r) (by omega) (by omega), e3, obind]
      dsimp only
      rw [e4, obind]
      dsimp only
      rw [if_neg Bool.false_ne_true, show wrap64 (((d + 1 : Nat) : Int) - 1) = (d : Int) by rw [wrap_id (by omega) (by omega)]; omega]
      exact hk k hk2
theorem mk_size (a0 a1 a2 : Int) (h : (mkVal a0 a1 a2).2.2 = true) : 1 ≤ (mkVal a0 a1 a2).1.size ∧ (mkVal a0 a1 a2).1.size ≤ 48 := by
  unfold mkVal at h ⊢
  by_cases hc : (1 ≤ a0 ∧ a0 ≤ 48) ∧ (0 ≤ a1 ∧ a1 ≤ 3) ∧ 0 ≤ a2 ∧ a2 ≤ 9999
  · rw [if_pos hc] at h ⊢
    cases hr : run a1.toNat 20 a2.toNat [] with
    | none => rw [hr] at h; exact absurd h (by simp [fin])
    | some l =>
      simp only [fin]
      rw [pat_size]
      omega
  · rw [if_neg hc] at h; exact absurd h (by simp)
theorem puzzle_ok (c : List Int) (hc : bytesOk c) (p st : Int) (h0 : 0 ≤ p) (h1 : p ≤ 10000) : ∃ s n p' st', Ev (fun k => spec_l1Cur_puzzle.f k c p st) (s, n, p', st') ∧ s.size ≤ 60 ∧ p ≤ p' ∧ p' ≤ p + 10000 := by
  obtain ⟨r1, p1, s1, e1, r10, r11, a1, b1⟩ := pick_ok c hc p st h0 (by omega) 20 (by omega) (by omega)
  obtain ⟨r2, p2, s2, e2, r20, r21, a2, b2⟩ := pick_ok c hc p1 s1 (by omega) (by omega) 4 (by omega) (by omega)
  obtain ⟨r3, p3, s3, e3, r30, r31, a3, b3⟩ := pick_ok c hc p2 s2 (by omega) (by omega) 10000 (by omega) (by omega)
  obtain ⟨⟨K1, hm⟩, -⟩ := MakePuzzle_main (6 + r1) r2 r3
  dsimp only at hm
  obtain ⟨r4, p4, s4, e4, r40, r41, a4, b4⟩ := pick_ok c hc p3 s3 (by omega) (by omega) 8 (by omega) (by omega)
  obtain ⟨m, rfl⟩ : ∃ m : Nat, r4 = m := ⟨r4.toNat, by omega⟩
  cases hok : (mkVal (6 + r1) r2 r3).2.2 with
  | true =>
    obtain ⟨z0, z1⟩ := mk_size _ _ _ hok
    obtain ⟨s', n', p', st', ⟨K, hk⟩, l', a', b'⟩ := pz_l0 c hc m (mkVal (6 + r1) r2 r3).1 (mkVal (6 + r1) r2 r3).2.1 p4 s4 (by omega) z0 z1 (by omega) (by omega)
    dsimp only at hk
    refine ⟨s', n', p', st', ⟨K1 + K + 1, fun k hk2 => ?_⟩, l', by omega, by omega⟩
    obtain ⟨j, rfl⟩ : ∃ j, k = j + 1 := ⟨k - 1, by omega⟩
    simp only [spec_l1Cur_puzzle.f]
    rw [e1, obind]
    dsimp only
    rw [e2, obind]
    dsimp only
    rw [e3, obind]
    dsimp only
    rw [wrap_id (by omega) (by omega), hm _ (by omega), obind, if_pos hok]
    simp only [spec_l1Cur_puzzle.j0]
    rw [e4, obind]
    exact hk j (by omega)
  | false =>
    obtain ⟨s', n', p', st', ⟨K, hk⟩, l', a', b'⟩ := pz_l0 c hc m (⟨#[111, 120, 111, 120, 111, 120]⟩ : ByteArray) 1 p4 s4 (by omega) (by decide) (by decide) (by omega) (by omega)
    dsimp only at hk
    refine ⟨s', n', p', st', ⟨K1 + K + 1, fun k hk2 => ?_⟩, l', by omega, by omega⟩
    obtain ⟨j, rfl⟩ : ∃ j, k = j + 1 := ⟨k - 1, by omega⟩
    simp only [spec_l1Cur_puzzle.f]
    rw [e1, obind]
    dsimp only
    rw [e2, obind]
    dsimp only
    rw [e3, obind]
    dsimp only
    rw [wrap_id (by omega) (by omega), hm _ (by omega), obind, hok, if_neg Bool.false_ne_true]
    simp only [spec_l1Cur_puzzle.j0]
    rw [e4, obind]
    exact hk j (by omega)
theorem prRules_ok (a : Int) (h : a ∈ ([0, 1, 2, 3, 4, 5, 6] : List Int)) : ∃ L, Ev (fun k => spec_prRules.f k a) L := by
  simp only [List.mem_cons, List.not_mem_nil, or_false] at h
  rcases h with rfl | rfl | rfl | rfl | rfl | rfl | rfl
  · exact ⟨[], 60, fun k hk => by obtain ⟨j, rfl⟩ : ∃ j, k = j + 60 := ⟨k - 60, by omega⟩; kernel_rfl⟩
  · exact ⟨[⟨2, 0⟩], 60, fun k hk => by obtain ⟨j, rfl⟩ : ∃ j, k = j + 60 := ⟨k - 60, by omega⟩; kernel_rfl⟩
  · exact ⟨[⟨2, 0⟩, ⟨3, 0⟩], 60, fun k hk => by obtain ⟨j, rfl⟩ : ∃ j, k = j + 60 := ⟨k - 60, by omega⟩; kernel_rfl⟩
  · exact ⟨[⟨2, 0⟩, ⟨3, 0⟩, ⟨5, 0⟩], 60, fun k hk => by obtain ⟨j, rfl⟩ : ∃ j, k = j + 60 := ⟨k - 60, by omega⟩; kernel_rfl⟩
  · exact ⟨[⟨2, 0⟩, ⟨3, 0⟩, ⟨5, 0⟩, ⟨7, 0⟩], 60, fun k hk => by obtain ⟨j, rfl⟩ : ∃ j, k = j + 60 := ⟨k - 60, by omega⟩; kernel_rfl⟩
  · exact ⟨[⟨2, 0⟩, ⟨3, 0⟩, ⟨5, 0⟩, ⟨7, 0⟩, ⟨11, 0⟩], 60, fun k hk => by obtain ⟨j, rfl⟩ : ∃ j, k = j + 60 := ⟨k - 60, by omega⟩; kernel_rfl⟩
  · exact ⟨[⟨2, 0⟩, ⟨3, 0⟩, ⟨5, 0⟩, ⟨7, 0⟩, ⟨11, 0⟩, ⟨13, 0⟩], 60, fun k hk => by obtain ⟨j, rfl⟩ : ∃ j, k = j + 60 := ⟨k - 60, by omega⟩; kernel_rfl⟩
theorem wheel_l1 (p st : Int) (c : List Int) : ∀ (d : Nat) (L : List SRule), L.length + d = 100 → ∃ L', Ev (fun k => spec_l1Cur_wheel.l1 k L c p st) (L', p, st)
  | 0, L, h => ⟨L, Ev.mk' 0 fun k _ => by
      simp only [spec_l1Cur_wheel.l1]
      rw [if_neg (by omega)]⟩
  | d + 1, L, h => by
    obtain ⟨L', K, hk⟩ := wheel_l1 p st c d (L ++ [(⟨3, 0⟩ : SRule)]) (by simp; omega)
    dsimp only at hk
    by_cases c1 : (L.length : Int) < 12
    · exact ⟨L', Ev.mk' K fun k hk2 => by
        simp only [spec_l1Cur_wheel.l1]
        rw [if_pos c1, if_pos (by omega)]
        exact hk k hk2⟩
    · exact ⟨L, Ev.mk' 0 fun k _ => by
        simp only [spec_l1Cur_wheel.l1]
        rw [if_neg c1]⟩
theorem wheel_l0 (c : List Int) (hc : bytesOk c) : ∀ (d : Nat) (L : List SRule) (p st : Int), L.length + d ≤ 50 → 0 ≤ p → p + 10 * d ≤ 1000000 → ∃ L' p' st', Ev (fun k => spec_l1Cur_wheel.l0 k L (d : Int) c p st) (L', p', st') ∧ p ≤ p' ∧ p' ≤ p + 10 * d + 10
  | 0, L, p, st, hl, h0, h1 => by
    obtain ⟨r, p1, s1, e1, r0, r1, a1, b1⟩ := pick_ok c hc p st h0 (by omega) 16 (by omega) (by omega)
    by_cases c0 : r = 0
    · obtain ⟨g, p2, s2, e2, hg, a2, b2⟩ := among_ok c hc p1 s1 (by omega) (by omega) [1, 2, 59, 60, 61, 0] (by decide) (by decide)
      obtain ⟨g3, p3, s3, e3, hg3, a3, b3⟩ := among_ok c hc p2 s2 (by omega) (by omega) [0, 1, (-1)] (by decide) (by decide)
      refine ⟨L ++ [(⟨g, g3⟩ : SRule)], p3, s3, Ev.mk' 0 fun k _ => ?_, by omega, by omega⟩
      simp only [spec_l1Cur_wheel.l0]
      rw [if_neg (by omega), e1, obind]
      dsimp only
      rw [if_pos c0, e2, obind]
      dsimp only
      rw [e3, obind]
      dsimp only
      rw [if_pos (by omega)]
    · by_cases c1 : r = 1
      · refine ⟨L ++ [(⟨2, 0⟩ : SRule), (⟨2, 1⟩ : SRule)], p1, s1, Ev.mk' 0 fun k _ => ?_, by omega, by omega⟩
        simp only [spec_l1Cur_wheel.l0]
        rw [if_neg (by omega), e1, obind]
        dsimp only
        rw [if_neg c0, if_pos c1, obind, if_pos (by simp; omega)]
      · by_cases c2 : r = 2
        · obtain ⟨L', K, hk⟩ := wheel_l1 p1 s1 c (100 - L.length) L (by omega)
          dsimp only at hk
          refine ⟨L', p1, s1, Ev.mk' K fun k hk2 => ?_, by omega, by omega⟩
          simp only [spec_l1Cur_wheel.l0]
          rw [if_neg (by omega), e1, obind]
          dsimp only
          rw [if_neg c0, if_neg c1, if_pos c2]
          exact hk k hk2
        · refine ⟨L, p1, s1, Ev.mk' 0 fun k _ => ?_, by omega, by omega⟩
          simp only [spec_l1Cur_wheel.l0]
          rw [if_neg (by omega), e1, obind]
          dsimp only
          rw [if_neg c0, if_neg c1, if_neg c2]
  | d + 1, L, p, st, hl, h0, h1 => by
    obtain ⟨r, p1, s1, e1, r0, r1, a1, b1⟩ := pick_ok c hc p st h0 (by omega) 9 (by omega) (by omega)
    obtain ⟨q, p2, s2, e2, q0, q1, a2, b2⟩ := pick_ok c hc p1 s1 (by omega) (by omega) (2 + r) (by omega) (by omega)
    obtain ⟨L', p', st', ⟨K, hk⟩, a', b'⟩ := wheel_l0 c hc d (L ++ [(⟨2 + r, q⟩ : SRule)]) p2 s2 (by simp; omega) (by omega) (by omega)
    dsimp only at hk
    refine ⟨L', p', st', Ev.mk' K fun k hk2 => ?_, by omega, by omega⟩
    simp only [spec_l1Cur_wheel.l0]
    rw [if_pos (by omega), e1, obind]
    dsimp only
    rw [wrap_id (n := 2 + r) (by omega) (by omega), e2, obind]
    dsimp only
    rw [if_pos (by omega), show wrap64 (((d + 1 : Nat) : Int) - 1) = (d : Int) by rw [wrap_id (by omega) (by omega)]; omega]
    exact hk k hk2
theorem wheel_ok (c : List Int) (hc : bytesOk c) (p st : Int) (h0 : 0 ≤ p) (h1 : p ≤ 10000) : ∃ L p' st', Ev (fun k => spec_l1Cur_wheel.f k c p st) (L, p', st') ∧ p ≤ p' ∧ p' ≤ p + 1000 := by
  obtain ⟨b, p1, s1, e1, a1, b1⟩ := one_ok c hc p st h0 (by omega) 5 (by omega) (by omega)
  cases b with
  | true =>
    obtain ⟨g, p2, s2, e2, hg, a2, b2⟩ := among_ok c hc p1 s1 (by omega) (by omega) [0, 1, 2, 3, 4, 5, 6] (by decide) (by decide)
    obtain ⟨L, K, hk⟩ := prRules_ok g hg
    dsimp only at hk
    refine ⟨L, p2, s2, ⟨K, fun k hk2 => ?_⟩, by omega, by omega⟩
    simp only [spec_l1Cur_wheel.f]
    rw [e1, obind]
    dsimp only
    rw [if_pos rfl, e2, obind]
    dsimp only
    rw [hk k hk2, obind]
  | false =>
    obtain ⟨r, p2, s2, e2, r0, r1, a2, b2⟩ := pick_ok c hc p1 s1 (by omega) (by omega) 4 (by omega) (by omega)
    obtain ⟨m, rfl⟩ : ∃ m : Nat, r = m := ⟨r.toNat, by omega⟩
    obtain ⟨L, p', st', ⟨K, hk⟩, a', b'⟩ := wheel_l0 c hc m [] p2 s2 (by simp; omega) (by omega) (by omega)
    refine ⟨L, p', st', ⟨K, fun k hk2 => ?_⟩, by omega, by omega⟩
    simp only [spec_l1Cur_wheel.f]
    rw [e1, obind]
    dsimp only
    rw [if_neg Bool.false_ne_true, e2, obind]
    exact hk k hk2
theorem DrawMakePuzzle_ok (c : List Int) (hc : bytesOk c) : ∃ a b d, spec_DrawMakePuzzle.f c = some (a, b, d) := by
  obtain ⟨r1, p1, s1, e1, g1, a1, b1⟩ := among_ok c hc 0 0 (by omega) (by omega) [1, 6, 12, 30, 48, 49, 0] (by decide) (by decide)
  obtain ⟨r2, p2, s2, e2, g2, a2, b2⟩ := among_ok c hc p1 s1 (by omega) (by omega) [0, 1, 2, 3, 4, (-1)] (by decide) (by decide)
  obtain ⟨r3, p3, s3, e3, r30, r31, a3, b3⟩ := pick_ok c hc p2 s2 (by omega) (by omega) 10000 (by omega) (by omega)
  obtain ⟨r4, p4, s4, e4, r40, r41, a4, b4⟩ := pick_ok c hc p3 s3 (by omega) (by omega) 10000 (by omega) (by omega)
  obtain ⟨r5, p5, s5, e5, g5, a5, b5⟩ := among_ok c hc p4 s4 (by omega) (by omega) [0, 1, 9999, 10000, (-1), r3, r4] (by simp) (by simp)
  refine ⟨r1, r2, r5, ?_⟩
  unfold spec_DrawMakePuzzle.f spec_DrawMakePuzzle.g
  rw [e1, obind]
  dsimp only
  rw [e2, obind]
  dsimp only
  rw [e3, obind]
  dsimp only
  rw [e4, obind]
  dsimp only
  rw [e5, obind, obind]
theorem DrawHarderPuzzle_ok (c : List Int) (hc : bytesOk c) : ∃ s n, Ev (fun k => spec_DrawHarderPuzzle.f k c) (s, n) := by
  obtain ⟨r1, p1, s1, e1, r10, r11, a1, b1⟩ := pick_ok c hc 0 0 (by omega) (by omega) 12 (by omega) (by omega)
  obtain ⟨r2, p2, s2, e2, r20, r21, a2, b2⟩ := pick_ok c hc p1 s1 (by omega) (by omega) 2 (by omega) (by omega)
  obtain ⟨r3, p3, s3, e3, r30, r31, a3, b3⟩ := pick_ok c hc p2 s2 (by omega) (by omega) 10000 (by omega) (by omega)
  obtain ⟨⟨K1, hm⟩, -⟩ := MakePuzzle_main (8 + r1) (1 + r2) r3
  obtain ⟨b, p4, s4, e4, a4, b4⟩ := one_ok c hc p3 s3 (by omega) (by omega) 8 (by omega) (by omega)
  dsimp only at hm
  cases b with
  | true =>
    obtain ⟨s, n, p', st', ⟨K, hk⟩, -, -, -⟩ := puzzle_ok c hc p4 s4 (by omega) (by omega)
    dsimp only at hk
    refine ⟨s, n, ⟨K1 + K, fun k hk2 => ?_⟩⟩
    simp only [spec_DrawHarderPuzzle.f, spec_DrawHarderPuzzle.g]
    rw [e1, obind]
    dsimp only
    rw [e2, obind]
    dsimp only
    rw [e3, obind]
    dsimp only
    rw [wrap_id (n := 8 + r1) (by omega) (by omega), wrap_id (n := 1 + r2) (by omega) (by omega), hm k (by omega), obind, e4, obind]
    dsimp only
    rw [if_pos rfl, hk k (by omega), obind, obind]
  | false =>
    refine ⟨(mkVal (8 + r1) (1 + r2) r3).1, (mkVal (8 + r1) (1 + r2) r3).2.1, ⟨K1, fun k hk2 => ?_⟩⟩
    simp only [spec_DrawHarderPuzzle.f, spec_DrawHarderPuzzle.g]
    rw [e1, obind]
    dsimp only
    rw [e2, obind]
    dsimp only
    rw [e3, obind]
    dsimp only
    rw [wrap_id (n := 8 + r1) (by omega) (by omega), wrap_id (n := 1 + r2) (by omega) (by omega), hm k (by omega), obind, e4, obind]
    dsimp only
    rw [if_neg Bool.false_ne_true, obind]
theorem DrawShowNumber_ok (c : List Int) (hc : bytesOk c) : ∃ s n a b, Ev (fun k => spec_DrawShowNumber.f k c) (s, n, a, b) := by
  obtain ⟨s, n, p1, s1, ⟨K, hk⟩, z, a1, b1⟩ := puzzle_ok c hc 0 0 (by omega) (by omega)
  obtain ⟨r2, p2, s2, e2, r20, r21, a2, b2⟩ := pick_ok c hc p1 s1 (by omega) (by omega) ((s.size : Int) + 2) (by omega) (by omega)
  obtain ⟨r3, p3, s3, e3, r30, r31, a3, b3⟩ := pick_ok c hc p2 s2 (by omega) (by omega) 2 (by omega) (by omega)
  obtain ⟨b, p4, s4, e4, a4, b4⟩ := one_ok c hc p3 s3 (by omega) (by omega) 2 (by omega) (by omega)
  dsimp only at hk
  refine ⟨s, n, wrap64 (r2 - r3), b, ⟨K, fun k hk2 => ?_⟩⟩
  simp only [spec_DrawShowNumber.f, spec_DrawShowNumber.g]
  rw [hk k hk2, obind]
  dsimp only
  rw [wrap_id (n := (s.size : Int) + 2) (by omega) (by omega), e2, obind]
  dsimp only
  rw [e3, obind]
  dsimp only
  rw [e4, obind, obind]
theorem DrawHideNumber_ok (c : List Int) (hc : bytesOk c) : ∃ s n a, Ev (fun k => spec_DrawHideNumber.f k c) (s, n, a) := by
  obtain ⟨s, n, a, b, K, hk⟩ := DrawShowNumber_ok c hc
  dsimp only at hk
  refine ⟨s, n, a, ⟨K, fun k hk2 => ?_⟩⟩
  simp only [spec_DrawHideNumber.f]
  rw [hk k hk2, obind]
theorem DrawFewestRules_ok (c : List Int) (hc : bytesOk c) : ∃ s, Ev (fun k => spec_DrawFewestRules.f k c) s := by
  obtain ⟨s, n, p1, s1, ⟨K, hk⟩, z, a1, b1⟩ := puzzle_ok c hc 0 0 (by omega) (by omega)
  dsimp only at hk
  refine ⟨s, ⟨K, fun k hk2 => ?_⟩⟩
  simp only [spec_DrawFewestRules.f, spec_DrawIsPuzzle.f, spec_DrawIsPuzzle.g]
  rw [hk k hk2, obind, obind, obind]
theorem DrawPatternOf_ok (c : List Int) (hc : bytesOk c) : ∃ L n, Ev (fun k => spec_DrawPatternOf.f k c) (L, n) := by
  obtain ⟨L, p1, s1, ⟨K, hk⟩, a1, b1⟩ := wheel_ok c hc 0 0 (by omega) (by omega)
  obtain ⟨r2, p2, s2, e2, g2, a2, b2⟩ := among_ok c hc p1 s1 (by omega) (by omega) [1, 6, 12, 30, 48, 49, 0, (-1)] (by decide) (by decide)
  dsimp only at hk
  refine ⟨L, r2, ⟨K, fun k hk2 => ?_⟩⟩
  simp only [spec_DrawPatternOf.f, spec_DrawPatternOf.g]
  rw [hk k hk2, obind]
  dsimp only
  rw [e2, obind, obind]
end Go.Proofs.YtgmfaleamhpfjaaDoor.P
namespace Go.Proofs.YtgmfaleamhpfjaaDoor.P
open Go.RowKit Go.Proofs.YtgmfaleamhpfjaaDoorW.PrintWords Go.Proofs.YtgmfaleamhpfjaaDoorW.PrintLast
set_option linter.unusedVariables false
set_option linter.unusedSimpArgs false
theorem putc_list (s : ByteArray) (a : Int) (c : UInt8) : (putB s a ⟨#[c]⟩).data.toList = s.data.toList.take (a - 1).toNat ++ [c] ++ s.data.toList.drop a.toNat := by
  unfold putB
  simp [ByteArray.data_append, ByteArray.data_extract, Array.toList_extract, List.extract]
  exact List.take_of_length_le (by rw [List.length_drop, Array.length_toList]; exact Nat.le_refl _)
theorem putc_size (s : ByteArray) (a : Int) (c : UInt8) (h0 : 1 ≤ a) (h1 : a ≤ (s.size : Int)) : (putB s a ⟨#[c]⟩).size = s.size := by
  unfold putB
  rw [ByteArray.size_append, ByteArray.size_append, size_l s a h0 h1, size_r s a]
  show (a - 1).toNat + 1 + _ = _
  omega
theorem putc_good (s : ByteArray) (n a : Int) (c : UInt8) (hc : sign c = true) (h : goodP s n = true) (h0 : 1 ≤ a) (h1 : a ≤ (s.size : Int)) : goodP (putB s a ⟨#[c]⟩) n = true := by
  obtain ⟨g1, g2, g3, g4, g5⟩ := good_parts h
  unfold goodP
  rw [putc_size s a c h0 h1, putc_list, List.all_append, List.all_append]
  have e1 : (s.data.toList.take (a - 1).toNat).all sign = true := List.all_eq_true.2 fun x hx => List.all_eq_true.1 g3 x (List.mem_of_mem_take hx)
  have e2 : (s.data.toList.drop a.toNat).all sign = true := List.all_eq_true.2 fun x hx => List.all_eq_true.1 g3 x (List.mem_of_mem_drop hx)
  rw [e1, e2]
  simp [g1, g2, g4, g5, hc]
theorem list_at (s : ByteArray) (a : Int) (h0 : 1 ≤ a) (h1 : a ≤ (s.size : Int)) (d : UInt8) (hb : bt s (a - 1) = (d.toNat : Int)) : s.data.toList = s.data.toList.take (a - 1).toNat ++ [d] ++ s.data.toList.drop a.toNat := by
  have hl : s.data.toList.length = s.size := Array.length_toList
  have hi : (a - 1).toNat < s.data.toList.length := by omega
  have e := btl s (a - 1).toNat (by omega)
  rw [show (((a - 1).toNat : Nat) : Int) = a - 1 by omega, hb] at e
  have e2 : s.data.toList[(a - 1).toNat]'hi = d := UInt8.toNat_inj.mp (by omega)
  rw [show a.toNat = (a - 1).toNat + 1 by omega, List.append_assoc, ← e2, List.singleton_append, ← List.drop_eq_getElem_cons hi, List.take_append_drop]
theorem putc_back (s : ByteArray) (a : Int) (c d : UInt8) (h0 : 1 ≤ a) (h1 : a ≤ (s.size : Int)) (hb : bt s (a - 1) = (d.toNat : Int)) : putB (putB s a ⟨#[c]⟩) a ⟨#[d]⟩ = s := by
  have hl : s.data.toList.length = s.size := Array.length_toList
  have e1 := putc_list (putB s a ⟨#[c]⟩) a d
  rw [putc_list s a c] at e1
  have hlen : (s.data.toList.take (a - 1).toNat).length = (a - 1).toNat := by rw [List.length_take]; omega
  have t1 : (s.data.toList.take (a - 1).toNat ++ [c] ++ s.data.toList.drop a.toNat).take (a - 1).toNat = s.data.toList.take (a - 1).toNat := by
    rw [List.append_assoc, List.take_append_of_le_length (by omega), List.take_of_length_le (by omega)]
  have t2 : (s.data.toList.take (a - 1).toNat ++ [c] ++ s.data.toList.drop a.toNat).drop a.toNat = s.data.toList.drop a.toNat := by
    rw [List.drop_append_of_le_length (by simp; omega), List.drop_of_length_le (by simp; omega), List.nil_append]
  rw [t1, t2] at e1
  have e2 := e1.trans (list_at s a h0 h1 d hb).symm
  exact ByteArray.ext (Array.toList_inj.1 e2)
theorem putc_bt (s : ByteArray) (a : Int) (c : UInt8) (h0 : 1 ≤ a) (h1 : a ≤ (s.size : Int)) : bt (putB s a ⟨#[c]⟩) (a - 1) = (c.toNat : Int) := by
  have hl : s.data.toList.length = s.size := Array.length_toList
  have hz := putc_size s a c h0 h1
  have e := btl (putB s a ⟨#[c]⟩) (a - 1).toNat (by omega)
  rw [show (((a - 1).toNat : Nat) : Int) = a - 1 by omega] at e
  rw [e]
  have e2 : ∀ (L : List UInt8) (hL : (putB s a ⟨#[c]⟩).data.toList = L) (h : (a - 1).toNat < L.length), (putB s a ⟨#[c]⟩).data.toList[(a - 1).toNat]'(by rw [hL]; exact h) = L[(a - 1).toNat] := by intro L hL h; subst hL; rfl
  have hlen : (a - 1).toNat < (s.data.toList.take (a - 1).toNat ++ [c] ++ s.data.toList.drop a.toNat).length := by simp; omega
  rw [e2 _ (putc_list s a c) hlen, List.getElem_append_left (by simp; omega), List.getElem_append_right (by simp; omega)]
  simp
theorem sign_at (s : ByteArray) (hs : s.data.toList.all sign = true) (a : Int) (h0 : 1 ≤ a) (h1 : a ≤ (s.size : Int)) : bt s (a - 1) = 111 ∨ bt s (a - 1) = 120 ∨ bt s (a - 1) = 63 := by
  have := sign_bt hs (a - 1).toNat (by omega)
  rwa [show (((a - 1).toNat : Nat) : Int) = a - 1 by omega] at this
theorem j3_ok (m : Int) (s : ByteArray) (n : Int) : Ev (fun k => laws_FnPuzzlesSieved.j3 k m (hideVal s n m).2.2 s n (hideVal s n m).1 (hideVal s n m).2.1) true := by
  unfold hideVal
  by_cases c : goodP s n = true ∧ 1 ≤ m ∧ m ≤ (s.size : Int) ∧ bt s (m - 1) ≠ 63
  · rw [if_pos c]
    obtain ⟨hg, h0, h1, hb⟩ := c
    obtain ⟨g1, g2, g3, g4, g5⟩ := good_parts hg
    obtain ⟨-, ⟨K, hk⟩⟩ := Show_main (putB s m ⟨#[63]⟩) n m ((bt s (m - 1)) == 111)
    dsimp only at hk
    have hgd := putc_good s n m 63 (by decide) hg h0 h1
    have hz := putc_size s m 63 h0 h1
    have hbt := putc_bt s m 63 h0 h1
    have hv : showVal (putB s m ⟨#[63]⟩) n m ((bt s (m - 1)) == 111) = (s, n, true) := by
      unfold showVal
      rw [if_pos ⟨hgd, h0, by omega, hbt⟩]
      rcases sign_at s g3 m h0 h1 with e | e | e
      · rw [e, if_pos (by decide), putc_back s m 63 111 h0 h1 (by rw [e]; rfl)]
      · rw [e, if_neg (by decide), putc_back s m 63 120 h0 h1 (by rw [e]; rfl)]
      · exact absurd e hb
    rw [hv] at hk
    refine Ev.mk' K fun k hk' => ?_
    simp only [laws_FnPuzzlesSieved.j3]
    rw [wrap_id (by omega) (by omega), if_pos trivial, if_pos (by omega), if_pos (by omega), hk k hk', obind]
    simp
  · rw [if_neg c]
    refine Ev.mk' 0 fun k _ => ?_
    simp only [laws_FnPuzzlesSieved.j3, Bool.false_eq_true, if_false]
theorem show_back (r : ByteArray) (n4 a5 : Int) (a6 : Bool) (h : (showVal r n4 a5 a6).2.2 = true) : impl_HideNumber.f (showVal r n4 a5 a6).1 (showVal r n4 a5 a6).2.1 a5 = some (r, n4, true) := by
  by_cases c : goodP r n4 = true ∧ 1 ≤ a5 ∧ a5 ≤ (r.size : Int) ∧ bt r (a5 - 1) = 63
  · have hv : showVal r n4 a5 a6 = (putB r a5 ⟨#[if a6 = true then 111 else 120]⟩, n4, true) := by
      unfold showVal; rw [if_pos c]; cases a6 <;> rfl
    obtain ⟨hg, h0, h1, hb⟩ := c
    have hd : sign (if a6 = true then 111 else 120) = true := by cases a6 <;> decide
    have hgd := putc_good r n4 a5 _ hd hg h0 h1
    have hz := putc_size r a5 (if a6 = true then 111 else 120) h0 h1
    have hbt := putc_bt r a5 (if a6 = true then 111 else 120) h0 h1
    have hh : hideVal (putB r a5 ⟨#[if a6 = true then 111 else 120]⟩) n4 a5 = (r, n4, true) := by
      unfold hideVal
      rw [if_pos ⟨hgd, h0, by omega, by rw [hbt]; cases a6 <;> decide⟩, putc_back r a5 _ 63 h0 h1 (by rw [hb]; rfl)]
    have e := (Hide_main (putB r a5 ⟨#[if a6 = true then 111 else 120]⟩) n4 a5).2
    rw [hh] at e
    rw [hv]
    exact e
  · have hv : showVal r n4 a5 a6 = (⟨#[]⟩, 0, false) := by unfold showVal; rw [if_neg c]
    rw [hv] at h
    exact absurd h (by simp)
theorem j2_ok (c : List Int) (hc : bytesOk c) : Ev (fun k => laws_FnPuzzlesSieved.j2 k c) true := by
  obtain ⟨r, n4, a5, a6, Ka, ha⟩ := DrawShowNumber_ok c hc
  obtain ⟨s, n, m, Kb, hb⟩ := DrawHideNumber_ok c hc
  obtain ⟨p, Kc, hp⟩ := DrawFewestRules_ok c hc
  obtain ⟨l, up, Kd_, hd⟩ := DrawPatternOf_ok c hc
  obtain ⟨⟨K1, h1⟩, ⟨K2, h2⟩⟩ := Show_main r n4 a5 a6
  obtain ⟨⟨K3, h3⟩, h4⟩ := Hide_main s n m
  obtain ⟨⟨K5, h5⟩, ⟨K6, h6⟩⟩ := FewestRules_main p
  obtain ⟨⟨K7, h7⟩, ⟨K8, h8⟩⟩ := PatternOf_main l up
  obtain ⟨K9, h9⟩ := j3_ok m s n
  dsimp only at ha hb hp hd h1 h2 h3 h5 h6 h7 h8 h9
  have hback := show_back r n4 a5 a6
  refine Ev.mk' (Ka + Kb + Kc + Kd_ + K1 + K2 + K3 + K5 + K6 + K7 + K8 + K9) fun k hk => ?_
  simp only [laws_FnPuzzlesSieved.j2]
  rw [ha k (by omega), obind, h2 k (by omega), obind, h1 k (by omega), obind, hb k (by omega), obind, h4, obind, h3 k (by omega), obind, hp k (by omega), obind, h6 k (by omega), obind, h5 k (by omega), obind, hd k (by omega), obind, h8 k (by omega), obind, h7 k (by omega), obind]
  simp only [bne_self_eq_false, beq_self_eq_true, Bool.not_true, Bool.or_self, Bool.false_eq_true, if_false, if_true]
  cases ht : (showVal r n4 a5 a6).2.2 with
  | false => simp (disch := omega) only [Bool.false_eq_true, if_false, h9]
  | true => simp (disch := omega) only [hback ht, obind, bne_self_eq_false, beq_self_eq_true, Bool.not_true, Bool.or_self, Bool.false_eq_true, if_false, if_true, h9]
theorem rest_l0 (c : List Int) (hc : bytesOk c) (q : ByteArray) (nq : Int) (hg : goodP q nq = true) (h1 : (answers q nq.toNat).length = 1) :
    ∀ (d x : Nat), x + d = q.size + 1 → 1 ≤ x → Ev (fun k => laws_FnPuzzlesSieved.l0 k c (x : Int) q nq (hardS nq.toNat q 1 q.size) nq) true
  | 0, x, h, hx => by
    obtain ⟨i1, i2, i3⟩ := hard_all nq.toNat q.size 1 q (by omega) (Nat.le_refl _) h1
    obtain ⟨K, hk⟩ := j2_ok c hc
    dsimp only at hk
    have hz := i1.1
    refine Ev.mk' K fun k hk' => ?_
    simp only [laws_FnPuzzlesSieved.l0]
    rw [if_neg (by omega), hk k hk']
  | d + 1, x, h, hx => by
    obtain ⟨g1, g2, g3, g4, g5⟩ := good_parts hg
    obtain ⟨i1, i2, i3⟩ := hard_all nq.toNat q.size 1 q (by omega) (Nat.le_refl _) h1
    have hgd := hard_good nq q.size 1 q (by omega) (Nat.le_refl _) hg
    obtain ⟨K, hk⟩ := rest_l0 c hc q nq hg h1 d (x + 1) (by omega) (by omega)
    dsimp only at hk
    have i3 := i3 x (by omega) (by omega)
    have hz := i1.1
    have hw := i1.2 (x - 1) (by omega)
    generalize hardS nq.toNat q 1 q.size = H at i1 i2 i3 hgd hk hz hw ⊢
    rw [show (((x - 1 : Nat)) : Int) = (x : Int) - 1 by omega] at hw
    by_cases cc : bt H ((x : Int) - 1) = 63
    · refine Ev.mk' K fun k hk' => ?_
      simp only [laws_FnPuzzlesSieved.l0]
      rw [if_pos (by omega), wrap_id (n := (x : Int) - 1) (by omega) (by omega), if_pos (by omega), if_pos (by omega), if_pos cc, wrap_id (by omega) (by omega), show ((x : Int) + 1) = ((x + 1 : Nat) : Int) by omega, hk k hk']
    · have hb : bt H ((x : Int) - 1) = bt q ((x : Int) - 1) := hw.resolve_left cc
      have hh := (Hide_main H nq x).2
      have hv : hideVal H nq x = (putB H x qm, nq, true) := by unfold hideVal; rw [if_pos ⟨hgd, by omega, by omega, cc⟩]; rfl
      rw [hv] at hh
      obtain ⟨K2, h2⟩ := answersOf_ev (putB H x qm) nq
      dsimp only at h2
      have hg2 := putB_good H nq x hgd (by omega) (by omega)
      refine Ev.mk' (K + K2) fun k hk' => ?_
      simp only [laws_FnPuzzlesSieved.l0]
      rw [if_pos (by omega), wrap_id (n := (x : Int) - 1) (by omega) (by omega), if_pos (by omega), if_pos (by omega), if_neg cc, hh, obind]
      simp only [impl_CountAnswers.f, h2 k (by omega), obind]
      rw [if_pos (by omega), if_pos hb, if_pos trivial, wrap_id (n := (x : Int) + 1) (by omega) (by omega), show ((x : Int) + 1) = ((x + 1 : Nat) : Int) by omega, hk k (by omega)]
      by_cases c2 : (ansV (putB H x qm) nq).2 = true
      · have hl : 2 ≤ (ansV (putB H x qm) nq).1.length := by
          unfold ansV at c2 ⊢
          by_cases c3 : goodP (putB H x qm) nq = true ∧ (answers (putB H x qm) nq.toNat).length ≤ 300
          · rw [if_pos c3]; exact i3 cc
          · rw [if_neg c3] at c2; exact absurd c2 (by simp)
        rw [if_pos c2, if_neg (by omega)]
      · rw [if_neg c2]
theorem gRules_l0 (l : List SRule) (hm : l.length ≤ 1000) : ∀ d i : Nat, i + d = l.length → Ev (fun k => laws_gRules.l0 k l l (l.length : Int) (i : Int)) true
  | 0, i, h => Ev.mk' 0 fun k _ => by
    simp only [laws_gRules.l0]
    rw [if_neg (by omega)]
  | d + 1, i, h => by
    obtain ⟨K, ih⟩ := gRules_l0 l hm d (i + 1) (by omega)
    dsimp only at ih
    refine Ev.mk' K fun k hk => ?_
    simp only [laws_gRules.l0, beq_self_eq_true, Bool.not_true, Bool.or_self, Bool.false_eq_true, if_false]
    rw [if_pos (by omega), if_pos (by omega), if_pos (by omega), wrap_id (by omega) (by omega), show ((i : Int) + 1) = ((i + 1 : Nat) : Int) by omega, ih k hk]
    simp; omega
theorem gRules_ev (l : List SRule) (hm : l.length ≤ 1000) : Ev (fun k => laws_gRules.f k l l) true := by
  obtain ⟨K, h⟩ := gRules_l0 l hm l.length 0 (by omega)
  refine ⟨K, fun k hk => ?_⟩
  simp only [laws_gRules.f]
  rw [if_pos trivial]
  exact h k hk
theorem gAnswers_l0 (L : List (List SRule)) (hm : L.length ≤ 1000) (hr : ∀ l ∈ L, l.length ≤ 1000) : ∀ d i : Nat, i + d = L.length → Ev (fun k => laws_gAnswers.l0 k L L (L.length : Int) (i : Int)) true
  | 0, i, h => Ev.mk' 0 fun k _ => by
    simp only [laws_gAnswers.l0]
    rw [if_neg (by omega)]
  | d + 1, i, h => by
    obtain ⟨K, ih⟩ := gAnswers_l0 L hm hr d (i + 1) (by omega)
    have hmem : rd_Rules L i ∈ L := by
      have e : rd_Rules L (i : Int) = L[i]'(by omega) := by simp [rd_Rules, List.getD, show i < L.length by omega]
      rw [e]; exact List.getElem_mem _
    obtain ⟨K2, h2⟩ := gRules_ev (rd_Rules L i) (hr _ hmem)
    dsimp only at ih h2
    refine Ev.mk' (K + K2) fun k hk => ?_
    simp only [laws_gAnswers.l0, h2 k (by omega), obind, if_true]
    rw [if_pos (by omega), if_pos (by omega), if_pos (by omega), wrap_id (by omega) (by omega), show ((i : Int) + 1) = ((i + 1 : Nat) : Int) by omega, ih k (by omega)]
    simp; omega
theorem gAnswers_ev (L : List (List SRule)) (hm : L.length ≤ 1000) (hr : ∀ l ∈ L, l.length ≤ 1000) : Ev (fun k => laws_gAnswers.f k L L) true := by
  obtain ⟨K, h⟩ := gAnswers_l0 L hm hr L.length 0 (by omega)
  refine ⟨K, fun k hk => ?_⟩
  simp only [laws_gAnswers.f]
  rw [if_pos trivial]
  exact h k hk
theorem j0_ok (c : List Int) (hc : bytesOk c) : Ev (fun k => laws_FnPuzzlesSieved.j0 k c) true := by
  obtain ⟨q, nq, Ka, ha⟩ := DrawHarderPuzzle_ok c hc
  obtain ⟨⟨K1, h1⟩, ⟨K2, h2⟩⟩ := HarderPuzzle_main q nq
  dsimp only at ha h1 h2
  by_cases cc : goodP q nq = true ∧ (answers q nq.toNat).length = 1
  · have hv : hardV q nq = (hardS nq.toNat q 1 q.size, nq, true) := by unfold hardV; rw [if_pos cc]
    obtain ⟨hg, hone⟩ := cc
    have hgd := hard_good nq q.size 1 q (by omega) (Nat.le_refl _) hg
    have hsame := hard_same nq.toNat q hone
    obtain ⟨i1, i2, i3⟩ := hard_all nq.toNat q.size 1 q (by omega) (Nat.le_refl _) hone
    obtain ⟨K3, h3⟩ := answersOf_ev q nq
    obtain ⟨K4, h4⟩ := answersOf_ev (hardS nq.toNat q 1 q.size) nq
    have v1 : ansV q nq = (answers q nq.toNat, true) := by unfold ansV; rw [if_pos ⟨hg, by omega⟩]
    have v2 : ansV (hardS nq.toNat q 1 q.size) nq = (answers q nq.toNat, true) := by unfold ansV; rw [if_pos ⟨hgd, by omega⟩, hsame]
    rw [v1] at h3; rw [v2] at h4
    obtain ⟨K5, h5⟩ := gAnswers_ev (answers q nq.toNat) (by omega) (fun l' hl => by have := (answers_mem q nq.toNat l' hl).1; obtain ⟨-, -, -, g4, g5⟩ := good_parts hg; omega)
    obtain ⟨K6, h6⟩ := rest_l0 c hc q nq hg hone q.size 1 (by omega) (Nat.le_refl _)
    have h6 : ∀ k, K6 ≤ k → laws_FnPuzzlesSieved.l0 k c 1 q nq (hardS nq.toNat q 1 q.size) nq = some true := h6
    dsimp only at h3 h4 h5
    rw [hv] at h1 h2
    refine Ev.mk' (Ka + K1 + K2 + K3 + K4 + K5 + K6) fun k hk => ?_
    simp only [laws_FnPuzzlesSieved.j0]
    rw [ha k (by omega), obind, h2 k (by omega), obind, h1 k (by omega), obind]
    simp (disch := omega) only [bne_self_eq_false, beq_self_eq_true, Bool.not_true, Bool.or_self, Bool.false_eq_true, if_false, if_true, impl_Answers.f, h3, h4, obind]
    rw [if_pos (by omega)]
    simp (disch := omega) only [h5, obind, if_true]
    rw [if_pos (by rw [i1.1]), h6 k (by omega)]
  · have hv : hardV q nq = (⟨#[]⟩, 0, false) := by unfold hardV; rw [if_neg cc]
    obtain ⟨K3, h3⟩ := j2_ok c hc
    dsimp only at h3
    rw [hv] at h1 h2
    refine Ev.mk' (Ka + K1 + K2 + K3) fun k hk => ?_
    simp only [laws_FnPuzzlesSieved.j0]
    rw [ha k (by omega), obind, h2 k (by omega), obind, h1 k (by omega), obind]
    simp (disch := omega) only [bne_self_eq_false, beq_self_eq_true, Bool.not_true, Bool.or_self, Bool.false_eq_true, if_false, h3]
theorem made_ok (a0 a1 a2 : Int) (h : (mkVal a0 a1 a2).2.2 = true) : goodP (mkVal a0 a1 a2).1 (mkVal a0 a1 a2).2.1 = true ∧ ((mkVal a0 a1 a2).1.size : Int) = a0 ∧ (mkVal a0 a1 a2).2.1 = a1 ∧ (fewestV (mkVal a0 a1 a2).1).2 = true ∧ (fewestV (mkVal a0 a1 a2).1).1 ≤ a1 := by
  unfold mkVal at h ⊢
  by_cases hc : (1 ≤ a0 ∧ a0 ≤ 48) ∧ (0 ≤ a1 ∧ a1 ≤ 3) ∧ 0 ≤ a2 ∧ a2 ≤ 9999
  · rw [if_pos hc] at h ⊢
    obtain ⟨⟨h0, h1⟩, ⟨h2, h3⟩, h4, h5⟩ := hc
    cases hr : run a1.toNat 20 a2.toNat [] with
    | none => rw [hr] at h; exact absurd h (by simp [fin])
    | some l =>
      obtain ⟨r1, r2⟩ := run_spec a1.toNat 20 a2.toNat [] l hr (by simp) (by simp)
      simp only [fin]
      have hg := pat_good l a0 a1.toNat h0 h1 (by omega)
      refine ⟨hg, by rw [pat_size]; omega, by omega, ?_⟩
      obtain ⟨q, hq, hq2⟩ := made_answers l a0 a1.toNat r1 r2
      have := fewV_le (pat l a0) 4 0 q (by omega) (by omega) hq2
      have hg0 := pat_good l a0 0 h0 h1 (by omega)
      unfold fewestV
      rw [if_pos (show goodP (pat l a0) 0 = true from hg0)]
      exact ⟨this.1, by have := this.2; omega⟩
  · rw [if_neg hc] at h; exact absurd h (by simp)
theorem all_ok (c0 c : List Int) (hb0 : bytesOk c0) (hb : bytesOk c) : ∃ k, laws_FnPuzzlesSieved.f k c0 c = some true := by
  obtain ⟨b, hbig⟩ : ∃ b, laws_big.f c0 c = some b := by
    unfold laws_big.f
    split
    · exact ⟨_, rfl⟩
    · exact ⟨_, rfl⟩
  cases b with
  | true => exact ⟨0, by simp only [laws_FnPuzzlesSieved.f]; rw [hbig, obind, if_pos rfl]⟩
  | false =>
    obtain ⟨a0, a1, a2, ha⟩ := DrawMakePuzzle_ok c0 hb0
    obtain ⟨⟨K1, h1⟩, ⟨K2, h2⟩⟩ := MakePuzzle_main a0 a1 a2
    obtain ⟨-, ⟨K3, h3⟩⟩ := FewestRules_main (mkVal a0 a1 a2).1
    obtain ⟨K4, h4⟩ := j0_ok c hb
    dsimp only at h1 h2 h3 h4
    refine ⟨K1 + K2 + K3 + K4, ?_⟩
    simp (disch := omega) only [laws_FnPuzzlesSieved.f, hbig, ha, h1, h2, obind, bne_self_eq_false, beq_self_eq_true, Bool.not_true, Bool.or_self, Bool.false_eq_true, if_false]
    cases hok : (mkVal a0 a1 a2).2.2 with
    | false => simp (disch := omega) only [Bool.false_eq_true, if_false, h4]
    | true =>
      obtain ⟨m1, m2, m3, m4, m5⟩ := made_ok a0 a1 a2 hok
      simp (disch := omega) only [Bool.false_eq_true, if_false, if_true, h3, impl_IsPuzzle.f, isPuzzle_ok, obind, m1, m4]
      rw [if_pos m2, if_pos m3, if_neg (by omega), h4 _ (by omega)]
theorem bytes_of {l : List Int} (h : ∀ z_ ∈ l, (Lit.int .u8 z_).wf = true) : bytesOk l := fun x hx => by
  have h1 := h x hx
  unfold Lit.wf at h1
  simp only [Bool.and_eq_true, decide_eq_true_eq] at h1
  exact h1
theorem FnPuzzlesSieved : laws_FnPuzzlesSieved.Pure := by
  intro l0 l1 _ h0 _ h1
  exact all_ok l0 l1 (bytes_of h0) (bytes_of h1)
end Go.Proofs.YtgmfaleamhpfjaaDoor.P
