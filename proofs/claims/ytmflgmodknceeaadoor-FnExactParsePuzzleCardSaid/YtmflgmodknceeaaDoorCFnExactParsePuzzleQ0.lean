/- The plain laws on what the functions answer; the last one: the law FnExactParsePuzzle answers true for all arguments. Proved in this text: its theorems. Conditions: as each theorem states them. -/
import Derived.Test.YtmflgmodknceeaaDoorCFnExactParsePuzzleP
import Derived.Test.YtmflgmodknceeaaDoorCFnExactParsePuzzleF0
import Derived.Deep.Slices
import Derived.Deep.Fields
import Derived.ChangeSame
import Derived.ChangeSlices
import Derived.Lib.SmallJoins
import Derived.ProofKit
import Derived.OpenShut
import Derived.ShutString
import Derived.ChangeOld
import Derived.SizedLaws
namespace Go.Proofs.YtmflgmodknceeaaDoor.P
open Go.RowKit Go.Proofs.YtmflgmodknceeaaDoorW.PrintWords Go.Proofs.YtmflgmodknceeaaDoorW.PrintLast
set_option linter.unusedVariables false
set_option linter.unusedSimpArgs false
section
open Go.ChangeShapes Go.WideShapes Go.Deep Go.ChangeAt
variable {H : Type} {enc : TypeId × Value → H} {P : Program} {w : World} {base : Nat} {spare : Nat → Bool} {held : Bool}
theorem open_pairs {t e : TypeId} {f0 f1 : Field} {fuel : Nat} {v : Value} {x : DataW H × List MemPlace} (ht : P.underlying t = some (.slice e)) (he : P.underlying e = some (.struct #[f0, f1]))
    (hone : oneCellFields P #[f0, f1] = true) (hC : P.cellsOf e = 2) (h0 : P.underlying f0.type = some (.int .i64)) (h1 : P.underlying f1.type = some (.int .i64)) (h : DataW.trod enc P w base spare held fuel t [v] = some x) :
    ∃ (a : Option Addr) (len cap : Nat) (l : List (Int × Int)), v = .slice a len cap ∧ len = l.length ∧ len ≤ cap ∧ l.length ≤ 9223372036854775807 ∧ (∀ p ∈ l, (Lit.int .i64 p.1).wf = true ∧ (Lit.int .i64 p.2).wf = true) ∧
      (0 < l.length → ∃ ad, a = some ad ∧ ∀ j p, l[j]? = some p → w.cell? (ad.add (j * 2)) = some (.int .i64 p.1) ∧ w.cell? (ad.add (j * 2 + 1)) = some (.int .i64 p.2)) := by
  rcases open_slice ht h with ⟨hcs, -⟩ | ⟨a, len, cap, m, n, D, Pl, hcs, hb, hl, hm, hmm, hx, hi⟩
  · simp at hcs
    exact ⟨none, 0, 0, [], hcs, rfl, Nat.le_refl _, by simp, by simp, by simp⟩
  · simp at hcs
    have hlm : len ≤ m := by rw [hmm]; split <;> omega
    have hget : ∀ i, i < len → ∃ p : Int × Int, w.cell? (a.add (i * 2)) = some (.int .i64 p.1) ∧ w.cell? (a.add (i * 2 + 1)) = some (.int .i64 p.2) ∧ (Lit.int .i64 p.1).wf = true ∧ (Lit.int .i64 p.2).wf = true := by
      intro i him
      obtain ⟨cs', hc, ht'⟩ := hi i (by omega)
      rw [hC] at hc
      obtain ⟨y0, y1, n', hy, -, t0, t1⟩ := trod_struct2 he ht'
      obtain ⟨_, hcl, hat⟩ := World.cells?_some hc
      obtain ⟨o0, k0⟩ := hone_of hone 0 f0 rfl
      obtain ⟨o1, k1⟩ := hone_of hone 1 f1 rfl
      have c0 := hat (i := 0) (by omega)
      have c1 := hat (i := 1) (by omega)
      match cs', hcl with
      | [u0, u1], _ =>
        simp only [o0, k0, List.drop_zero, List.take_succ_cons, List.take_zero] at t0
        simp only [o1, k1, List.drop_succ_cons, List.drop_zero, List.take_succ_cons, List.take_zero] at t1
        obtain ⟨z0, e0, -, w0⟩ := DataW.trod_int h0 t0
        obtain ⟨z1, e1, -, w1⟩ := DataW.trod_int h1 t1
        simp at e0 e1
        subst e0 e1
        refine ⟨(z0, z1), ?_, ?_, w0, w1⟩
        · simpa [Go.Deep.add_add] using c0
        · simpa [Go.Deep.add_add] using c1
    let g : Nat → Int × Int := fun i => if hi : i < len then (hget i hi).choose else (0, 0)
    have hg : ∀ i, i < len → w.cell? (a.add (i * 2)) = some (.int .i64 (g i).1) ∧ w.cell? (a.add (i * 2 + 1)) = some (.int .i64 (g i).2) ∧ (Lit.int .i64 (g i).1).wf = true ∧ (Lit.int .i64 (g i).2).wf = true := by
      intro i hi
      have := (hget i hi).choose_spec
      simpa [g, hi] using this
    refine ⟨some a, len, cap, (List.range len).map g, hcs, by simp, hl, by simp; unfold maxLen at hm; omega, ?_, ?_⟩
    · intro p hp
      simp at hp
      obtain ⟨i, hi, rfl⟩ := hp
      exact ⟨(hg i hi).2.2.1, (hg i hi).2.2.2⟩
    · intro _
      refine ⟨a, rfl, fun j p hj => ?_⟩
      simp [List.getElem?_map] at hj
      obtain ⟨i, hij, rfl⟩ := hj
      have hjl : j < len := by
        have := (List.getElem?_eq_some_iff.1 hij).1
        simpa using this
      have : i = j := by
        have := List.getElem?_range hjl
        rw [this] at hij
        simpa using hij.symm
      subst this
      exact ⟨(hg i hjl).1, (hg i hjl).2.1⟩
theorem open_nums {t e : TypeId} {k : IntKind} {fuel : Nat} {v : Value} {x : DataW H × List MemPlace} (ht : P.underlying t = some (.slice e)) (he : P.underlying e = some (.int k)) (hc : P.cellsOf e = 1)
    (h : DataW.trod enc P w base spare held fuel t [v] = some x) :
    ∃ (a : Option Addr) (len cap : Nat) (l : List Int), v = .slice a len cap ∧ len = l.length ∧ len ≤ cap ∧ l.length ≤ 9223372036854775807 ∧ (∀ n ∈ l, (Lit.int k n).wf = true) ∧ (Kd.int k).C w a l.length l := by
  rcases open_ints ht he hc h with ⟨hcs, -⟩ | ⟨a, len, cap, zs, hcs, hb, hl, hm, hz, hx, hcell, hwf⟩
  · simp at hcs
    exact ⟨none, 0, 0, [], hcs, rfl, Nat.le_refl _, by simp, by simp, Kd.C_nil _ _⟩
  · simp at hcs
    have hlz : len ≤ zs.length := by rw [hz]; split <;> omega
    have hlen : (zs.take len).length = len := by simp; omega
    have hmax : (zs.take len).length ≤ 9223372036854775807 := by rw [hlen]; unfold maxLen at hm; omega
    refine ⟨some a, len, cap, zs.take len, hcs, hlen.symm, hl, hmax, fun n hn => hwf n (List.mem_of_mem_take hn), ?_⟩
    refine Kd.C_of_reads (d := (0 : Int)) (h1 := fun _ => rfl) ⟨rfl, hmax, fun hn => ⟨a, rfl, fun i hi => ?_⟩⟩
    rw [hlen] at hi
    rw [hcell i (by omega)]
    congr 2
    simp [List.getD, hi]
end
end Go.Proofs.YtmflgmodknceeaaDoor.P
namespace Go.Proofs.YtmflgmodknceeaaDoor.P
open Go.RowKit Go.Proofs.YtmflgmodknceeaaDoorW.PrintWords Go.Proofs.YtmflgmodknceeaaDoorW.PrintLast
set_option linter.unusedVariables false
set_option linter.unusedSimpArgs false
theorem Ev.get {α : Type} {g : Nat → Option α} {r : α} (h : Ev g r) : ∃ K, ∀ k, K ≤ k → g k = some r := h
theorem Ev.mk' {α : Type} {g : Nat → Option α} {r : α} (K : Nat) (h : ∀ k, K ≤ k → g (k + 1) = some r) : Ev g r :=
  ⟨K + 1, fun k hk => by obtain ⟨m, rfl⟩ : ∃ m, k = m + 1 := ⟨k - 1, by omega⟩; exact h m (by omega)⟩
theorem Ev.pos {α : Type} {c : Prop} [Decidable c] {g f : Nat → Option α} {r : α} (hc : c) (h : Ev g r) : Ev (fun k => if c then g k else f k) r := by
  obtain ⟨K, h⟩ := h
  exact ⟨K, fun k hk => by show (if c then g k else f k) = some r; rw [if_pos hc]; exact h k hk⟩
theorem Ev.neg {α : Type} {c : Prop} [Decidable c] {g f : Nat → Option α} {r : α} (hc : ¬ c) (h : Ev f r) : Ev (fun k => if c then g k else f k) r := by
  obtain ⟨K, h⟩ := h
  exact ⟨K, fun k hk => by show (if c then g k else f k) = some r; rw [if_neg hc]; exact h k hk⟩
theorem Ev.let_ {α β : Type} {f : Nat → α → Option β} {a : α} {r : β} (k : Ev (fun n => f n a) r) : Ev (fun n => (some a).bind (f n)) r := k
theorem Ev.some_ {α : Type} {a r : α} (h : a = r) : Ev (fun _ => some a) r := ⟨0, fun _ _ => by rw [h]⟩
theorem Ev.eq_ {α : Type} {g : Nat → Option α} {a r : α} (h : Ev g a) (e : a = r) : Ev g r := e ▸ h
theorem wrap_id {n : Int} (h1 : -9223372036854775808 ≤ n) (h2 : n ≤ 9223372036854775807) : wrap64 n = n := by unfold wrap64; omega
theorem wf_int {n : Int} (h : (Lit.int .i64 n).wf = true) : -9223372036854775808 ≤ n ∧ n ≤ 9223372036854775807 := by
  unfold Lit.wf at h
  simp only [Bool.and_eq_true, decide_eq_true_eq] at h
  exact h
theorem obind {α β : Type} (a : α) (f : α → Option β) : (some a).bind f = f a := id rfl
end Go.Proofs.YtmflgmodknceeaaDoor.P
namespace Go.Proofs.YtmflgmodknceeaaDoor.P
open Go.RowKit Go.Proofs.YtmflgmodknceeaaDoorW.PrintWords Go.Proofs.YtmflgmodknceeaaDoorW.PrintLast
set_option linter.unusedVariables false
set_option linter.unusedSimpArgs false
theorem l1In_ok (a b c : Int) : spec_l1In.f a b c = some (decide (b ≤ a) && decide (a ≤ c)) := by
  unfold spec_l1In.f
  by_cases h : b ≤ a <;> simp [h]
end Go.Proofs.YtmflgmodknceeaaDoor.P
namespace Go.Proofs.YtmflgmodknceeaaDoor.P
open Go.RowKit Go.Proofs.YtmflgmodknceeaaDoorW.PrintWords Go.Proofs.YtmflgmodknceeaaDoorW.PrintLast
set_option linter.unusedVariables false
set_option linter.unusedSimpArgs false
def sign (b : UInt8) : Bool := b == 111 || (b == 120 || b == 63)
def goodP (s : ByteArray) (n : Int) : Bool := decide (1 ≤ s.size) && (decide (s.size ≤ 48) && (s.data.toList.all sign && (decide (0 ≤ n) && decide (n ≤ 3))))
theorem all_drop_sign (l : List UInt8) : (l.dropWhile ([111, 120, 63] : List UInt8).contains = []) ↔ l.all sign = true := by
  induction l with
  | nil => simp
  | cons x l ih =>
    have e : ([111, 120, 63] : List UInt8).contains x = sign x := by simp [sign, List.contains_cons]; rfl
    rw [List.dropWhile_cons, e, List.all_cons]
    cases hx : sign x
    · simp
    · simpa using ih
theorem drop_id (p : UInt8 → Bool) (l : List UInt8) (h : ∀ x, l.head? = some x → p x = false) : l.dropWhile p = l := by
  cases l with
  | nil => rfl
  | cons x l => rw [List.dropWhile_cons, h x rfl]; rfl
theorem trimS_nil (l : List UInt8) : (Lib.trimS l [111, 120, 63] = []) ↔ l.all sign = true := by
  have e : ∀ m : List UInt8, Lib.trimLeftS m [111, 120, 63] = [] ↔ m.all sign = true := fun m => all_drop_sign m
  have e2 : ∀ m : List UInt8, Lib.trimRightS m [111, 120, 63] = (Lib.trimLeftS m.reverse [111, 120, 63]).reverse := fun m => rfl
  unfold Lib.trimS
  rw [e, e2, List.all_reverse]
  constructor
  · intro h
    have h2 := (e (Lib.trimLeftS l.reverse [111, 120, 63])).2 h
    have h3 : Lib.trimLeftS l.reverse [111, 120, 63] = [] := by
      cases hd : Lib.trimLeftS l.reverse [111, 120, 63] with
      | nil => rfl
      | cons x m =>
        exfalso
        have hx : ([111, 120, 63] : List UInt8).contains x = false := by
          have := List.head?_dropWhile_not (p := fun b => ([111, 120, 63] : List UInt8).contains b) (l := l.reverse)
          unfold Lib.trimLeftS at hd
          rw [hd] at this
          simpa using this
        rw [hd, List.all_cons] at h
        have e3 : ([111, 120, 63] : List UInt8).contains x = sign x := by simp [sign, List.contains_cons]; rfl
        rw [e3] at hx
        rw [hx] at h
        simp at h
    have := (e l.reverse).1 h3
    simpa using this
  · intro h
    have h3 := (e l.reverse).2 (by simpa using h)
    rw [h3]; rfl
theorem isPuzzle_ok (s : ByteArray) (n : Int) : impl_isPuzzle.f s n = some (goodP s n) := by
  unfold impl_isPuzzle.f goodP
  by_cases h1 : (s.size : Int) ≥ 1
  · by_cases h2 : (s.size : Int) ≤ 48
    · have e : strings_Trim.f s (⟨#[111, 120, 63]⟩ : ByteArray) = some ⟨(Lib.trimS s.data.toList [111, 120, 63]).toArray⟩ := by
        unfold strings_Trim.f; rw [if_pos ⟨by omega, rfl⟩]
      rw [if_pos h1, if_pos h2, e, obind]
      have d1 : decide (1 ≤ s.size) = true := decide_eq_true (by omega)
      have d2 : decide (s.size ≤ 48) = true := decide_eq_true (by omega)
      rw [d1, d2, Bool.true_and, Bool.true_and]
      have e3 : (ByteArray.toList ⟨(Lib.trimS s.data.toList [111, 120, 63]).toArray⟩ = ([] : List UInt8)) ↔ s.data.toList.all sign = true := by
        rw [← trimS_nil, ByteArray.toList_eq]
      by_cases h3 : s.data.toList.all sign = true
      · rw [if_pos (e3.2 h3), h3, Bool.true_and]
        by_cases h4 : n ≥ 0
        · rw [if_pos h4, decide_eq_true (show 0 ≤ n by omega), Bool.true_and]
        · rw [if_neg h4, decide_eq_false (show ¬ 0 ≤ n by omega), Bool.false_and]
      · rw [if_neg (fun h => h3 (e3.1 h)), Bool.eq_false_iff.2 h3, Bool.false_and]
    · rw [if_pos h1, if_neg h2, decide_eq_false (show ¬ s.size ≤ 48 by omega), Bool.false_and, Bool.and_false]
  · rw [if_neg h1, decide_eq_false (show ¬ 1 ≤ s.size by omega), Bool.false_and]
theorem bt_sign (s : ByteArray) (i : Nat) (h : i < s.size) : (bt s i = 111 ∨ bt s i = 120 ∨ bt s i = 63) ↔ sign (s.data.toList[i]'(by simpa using h)) = true := by
  have e : bt s i = ((s[i]'h).toNat : Int) := (bt_at s (i : Int) h).symm
  have e2 : s.data.toList[i]'(by simpa using h) = s[i]'h := by simp; rfl
  rw [e2]
  generalize s[i]'h = b at e
  rw [e]
  simp only [sign, Bool.or_eq_true, beq_iff_eq]
  constructor
  · rintro (h | h | h)
    · left; exact UInt8.toNat_inj.mp (by simpa using (by omega : b.toNat = 111))
    · right; left; exact UInt8.toNat_inj.mp (by simpa using (by omega : b.toNat = 120))
    · right; right; exact UInt8.toNat_inj.mp (by simpa using (by omega : b.toNat = 63))
  · rintro (rfl | rfl | rfl) <;> simp
theorem pzPattern_l0 (s : ByteArray) (hm : s.size ≤ 48) : ∀ d i : Nat, i + d = s.size → Ev (fun k => spec_pzPattern.l0 k s i) ((s.data.toList.drop i).all sign)
  | 0, i, h => Ev.mk' 0 fun k _ => by
    simp only [spec_pzPattern.l0]
    rw [if_neg (by omega), List.drop_of_length_le (by simp; omega)]; rfl
  | d + 1, i, h => by
    obtain ⟨K, ih⟩ := pzPattern_l0 s hm d (i + 1) (by omega)
    dsimp only at ih
    have hi : i < s.data.toList.length := by simp; show i < s.size; omega
    have hb := bt_sign s i (by omega)
    refine Ev.mk' K fun k hk => ?_
    rw [List.drop_eq_getElem_cons hi, List.all_cons]
    simp only [spec_pzPattern.l0]
    rw [if_pos (by omega), if_pos (by omega), wrap_id (by omega) (by omega), show ((i : Int) + 1) = ((i + 1 : Nat) : Int) by omega, ih k hk]
    by_cases h1 : bt s i = 111
    · rw [if_pos h1, hb.1 (.inl h1), Bool.true_and]
    · by_cases h2 : bt s i = 120
      · rw [if_neg h1, if_pos h2, hb.1 (.inr (.inl h2)), Bool.true_and]
      · by_cases h3 : bt s i = 63
        · rw [if_neg h1, if_neg h2, if_pos h3, hb.1 (.inr (.inr h3)), Bool.true_and]
        · have hn : sign (s.data.toList[i]'hi) = false := Bool.eq_false_iff.2 (fun h => by rcases hb.2 h with h | h | h <;> contradiction)
          rw [if_neg h1, if_neg h2, if_neg h3, hn, Bool.false_and]
theorem pzGood_ev (s : ByteArray) (n : Int) : Ev (fun k => spec_pzGood.f k s n) (goodP s n) := by
  unfold goodP
  by_cases h : 1 ≤ s.size ∧ s.size ≤ 48
  · obtain ⟨K, h3⟩ := pzPattern_l0 s h.2 s.size 0 (by omega)
    have h3 : ∀ k, K ≤ k → spec_pzPattern.l0 k s 0 = some (s.data.toList.all sign) := fun k hk => by have := h3 k hk; rwa [List.drop_zero] at this
    refine ⟨K, fun k hk => ?_⟩
    have d1 : (decide ((1 : Int) ≤ (s.size : Int)) && decide ((s.size : Int) ≤ 48)) = true := by simp; omega
    simp only [spec_pzGood.f, spec_pzPattern.f, l1In_ok, obind, d1, if_true, h3 k hk]
    rw [decide_eq_true h.1, decide_eq_true h.2, Bool.true_and, Bool.true_and]
    cases s.data.toList.all sign <;> simp
  · refine ⟨0, fun k hk => ?_⟩
    have d1 : (decide ((1 : Int) ≤ (s.size : Int)) && decide ((s.size : Int) ≤ 48)) = false := by
      rw [Bool.and_eq_false_iff]; simp only [decide_eq_false_iff_not]; omega
    have d2 : (decide (1 ≤ s.size) && (decide (s.size ≤ 48) && (s.data.toList.all sign && (decide (0 ≤ n) && decide (n ≤ 3))))) = false := by
      rw [← Bool.and_assoc, Bool.and_eq_false_iff]; left
      rw [Bool.and_eq_false_iff]; simp only [decide_eq_false_iff_not]; omega
    simp only [spec_pzGood.f, spec_pzPattern.f, l1In_ok, obind, d1, Bool.false_eq_true, if_false, d2]
end Go.Proofs.YtmflgmodknceeaaDoor.P
namespace Go.Proofs.YtmflgmodknceeaaDoor.P
open Go.RowKit Go.Proofs.YtmflgmodknceeaaDoorW.PrintWords Go.Proofs.YtmflgmodknceeaaDoorW.PrintLast
set_option linter.unusedVariables false
set_option linter.unusedSimpArgs false
theorem bt_list (s : ByteArray) (i : Nat) (h : i < s.size) : bt s (i : Int) = ((s.data.toList[i]'(by rw [Array.length_toList]; exact h)).toNat : Int) := by
  have e := bt_at s (i : Int) h
  have e2 : s.data.toList[i]'(by rw [Array.length_toList]; exact h) = s[i]'h := by simp; rfl
  rw [e2]; exact e.symm
theorem u8_eq {x : UInt8} {n : Nat} (hn : n < 256) (h : (x.toNat : Int) = (n : Int)) : x = UInt8.ofNat n := by
  apply UInt8.toNat_inj.mp
  rw [UInt8.toNat_ofNat_of_lt' hn]; omega
theorem ext_list (s : ByteArray) (a b : Nat) : s.extract a b = ⟨((s.data.toList.take b).drop a).toArray⟩ := by
  apply ByteArray.ext
  apply Array.toList_inj.1
  rw [List.drop_take]
  simp [ByteArray.data_extract, Array.toList_extract, List.extract]
def splC : List UInt8 → List UInt8 → List (List UInt8)
  | cur, [] => [cur]
  | cur, c :: r => if c = 58 then cur :: splC [] r else splC (cur ++ [c]) r
theorem splC_one : ∀ (l cur p : List UInt8), splC cur l = [p] → cur ++ l = p
  | [], cur, p, h => by simp only [splC] at h; rw [List.append_nil]; exact (List.cons.inj h).1
  | c :: r, cur, p, h => by
    simp only [splC] at h
    by_cases hc : c = 58
    · rw [if_pos hc] at h
      have h2 := (List.cons.inj h).2
      cases r with
      | nil => simp [splC] at h2
      | cons x y =>
        simp only [splC] at h2
        by_cases hx : x = 58
        · rw [if_pos hx] at h2; cases h2
        · rw [if_neg hx] at h2
          exfalso
          have : ∀ (l cur : List UInt8), splC cur l ≠ [] := fun l => by
            induction l with
            | nil => intro cur h_; cases h_
            | cons a t ih => intro cur h_; simp only [splC] at h_; split at h_; cases h_; exact ih _ h_
          exact this _ _ h2
    · rw [if_neg hc] at h
      have := splC_one r (cur ++ [c]) p h
      simpa using this
theorem splC_two : ∀ (l cur p q : List UInt8), splC cur l = [p, q] → cur ++ l = p ++ 58 :: q
  | [], cur, p, q, h => by simp [splC] at h
  | c :: r, cur, p, q, h => by
    simp only [splC] at h
    by_cases hc : c = 58
    · rw [if_pos hc] at h
      obtain ⟨h1, h2⟩ := List.cons.inj h
      have := splC_one r [] q h2
      rw [h1, hc, ← this]; rfl
    · rw [if_neg hc] at h
      have := splC_two r (cur ++ [c]) p q h
      simpa using this
theorem splC_form : ∀ (b cur : List UInt8) (x : UInt8), b.all (fun y => y != 58) = true → x ≠ 58 → splC cur (b ++ [58, x]) = [cur ++ b, [x]]
  | [], cur, x, h, hx => by simp [splC, hx]
  | c :: r, cur, x, h, hx => by
    rw [List.all_cons, Bool.and_eq_true] at h
    have hc : c ≠ 58 := by simpa using h.1
    have := splC_form r (cur ++ [c]) x h.2 hx
    simp only [List.cons_append, splC]
    rw [if_neg hc, this]; simp
theorem split_l0 (s : ByteArray) (hz : s.size ≤ 1048576) : ∀ (d i m : Nat) (out : List ByteArray), i + d = s.size → m ≤ i → out.length + d ≤ 1048576 → Ev (fun k => spec_l1Split.l0 k s 58 out (m : Int) (i : Int)) (out ++ (splC ((s.data.toList.take i).drop m) (s.data.toList.drop i)).map (fun p => (⟨p.toArray⟩ : ByteArray)))
  | 0, i, m, out, h, hm, ho => Ev.mk' 0 fun k _ => by
    have hl : s.data.toList.length = s.size := Array.length_toList
    simp only [spec_l1Split.l0]
    have e0 : s.data.toList.drop i = [] := List.drop_eq_nil_of_le (by omega)
    rw [if_neg (by omega), if_pos (by omega), if_pos (by omega), if_pos (by omega), e0, ext_list]
    simp only [splC, List.map_cons, List.map_nil, Int.toNat_natCast]
    rw [show s.size = i by omega]
  | d + 1, i, m, out, h, hm, ho => by
    have hl : s.data.toList.length = s.size := Array.length_toList
    have hd : s.data.toList.drop i = s.data.toList[i]'(by omega) :: s.data.toList.drop (i + 1) := List.drop_eq_getElem_cons (by omega)
    have hb := bt_list s i (by omega)
    by_cases hc : s.data.toList[i]'(by omega) = 58
    · obtain ⟨K, ih⟩ := split_l0 s hz d (i + 1) (i + 1) (out ++ [s.extract m i]) (by omega) (Nat.le_refl _) (by simp; omega)
      dsimp only at ih
      refine Ev.mk' K fun k hk => ?_
      simp only [spec_l1Split.l0, Int.toNat_natCast]
      rw [if_pos (by omega), if_pos (by omega), if_pos (by rw [hb, hc]; rfl), if_pos (by omega), if_pos (by omega), if_pos (by omega), if_pos (by omega), wrap_id (by omega) (by omega), show ((i : Int) + 1) = ((i + 1 : Nat) : Int) by omega, ih k hk, hd]
      simp only [splC]
      have e0 : (s.data.toList.take (i + 1)).drop (i + 1) = [] := List.drop_eq_nil_of_le (by rw [List.length_take]; omega)
      rw [if_pos hc, ext_list, e0]
      simp
    · obtain ⟨K, ih⟩ := split_l0 s hz d (i + 1) m out (by omega) (by omega) (by omega)
      dsimp only at ih
      refine Ev.mk' K fun k hk => ?_
      simp only [spec_l1Split.l0]
      rw [if_pos (by omega), if_pos (by omega), if_neg (by
        rw [hb]; intro h_; exact hc (u8_eq (n := 58) (by decide) h_)), wrap_id (by omega) (by omega), show ((i : Int) + 1) = ((i + 1 : Nat) : Int) by omega, ih k hk, hd]
      simp only [splC]
      rw [if_neg hc, List.take_succ_eq_append_getElem (by omega), List.drop_append_of_le_length (by rw [List.length_take]; omega)]
theorem split_ev (s : ByteArray) (hz : s.size ≤ 1048576) : Ev (fun k => spec_l1Split.f k s 58) ((splC [] s.data.toList).map (fun p => (⟨p.toArray⟩ : ByteArray))) := by
  obtain ⟨K, h⟩ := split_l0 s hz s.size 0 0 [] (by omega) (Nat.le_refl _) (by simpa using hz)
  exact ⟨K, fun k hk => by show spec_l1Split.l0 k s 58 [] 0 0 = _; simpa using h k hk⟩
def tenP : Nat → Int
  | 0 => 1
  | d + 1 => 10 * tenP d
theorem tenP_pos : ∀ d, 1 ≤ tenP d
  | 0 => by decide
  | d + 1 => by have := tenP_pos d; simp only [tenP]; omega
theorem read_l0 (s : ByteArray) (hz : s.size ≤ 6) : ∀ (d i : Nat) (a : Int), i + d = s.size → 0 ≤ a → (a + 1) * tenP d ≤ 1000000000000 → ∃ n : Int, Ev (fun k => spec_l1Read.l0 k s a (i : Int)) n ∧ (n = -1 ∨ a ≤ n) ∧ (1 ≤ d → n = -1 ∨ 10 * a ≤ n)
  | 0, i, a, h, h0, hb => ⟨a, Ev.mk' 0 fun k _ => by
      simp only [spec_l1Read.l0]
      rw [if_neg (by omega)], .inr (Int.le_refl _), fun h_ => absurd h_ (by omega)⟩
  | d + 1, i, a, h, h0, hb => by
    have hp := tenP_pos d
    have ha : a ≤ 1000000000000 := by
      have h1 : (a + 1) * 1 ≤ (a + 1) * tenP (d + 1) := Int.mul_le_mul_of_nonneg_left (tenP_pos _) (by omega)
      omega
    by_cases c1 : bt s (i : Int) < 48
    · exact ⟨-1, Ev.mk' 0 fun k _ => by
        simp only [spec_l1Read.l0]
        rw [if_pos (by omega), if_pos (by omega), if_pos c1], .inl rfl, fun _ => .inl rfl⟩
    · by_cases c2 : bt s (i : Int) > 57
      · exact ⟨-1, Ev.mk' 0 fun k _ => by
          simp only [spec_l1Read.l0]
          rw [if_pos (by omega), if_pos (by omega), if_neg c1, if_pos c2], .inl rfl, fun _ => .inl rfl⟩
      · obtain ⟨x, hx⟩ : ∃ x, x = bt s (i : Int) - 48 := ⟨_, rfl⟩
        have hb2 : (10 * a + x + 1) * tenP d ≤ 1000000000000 := by
          have h1 : (10 * a + x + 1) * tenP d ≤ (10 * (a + 1)) * tenP d := Int.mul_le_mul_of_nonneg_right (by omega) (by omega)
          have h2 : (10 * (a + 1)) * tenP d = (a + 1) * tenP (d + 1) := by simp only [tenP]; rw [Int.mul_comm 10 (a + 1), Int.mul_assoc]
          omega
        obtain ⟨n, ⟨K, ih⟩, hn1, -⟩ := read_l0 s hz d (i + 1) (10 * a + x) (by omega) (by omega) hb2
        dsimp only at ih
        refine ⟨n, Ev.mk' K fun k hk => ?_, by omega, fun _ => by omega⟩
        simp only [spec_l1Read.l0]
        rw [if_pos (by omega), if_pos (by omega), if_neg c1, if_neg c2, ← hx, wrap_id (n := 10 * a) (by omega) (by omega), show x % 256 = x by omega, wrap_id (n := 10 * a + x) (by omega) (by omega), wrap_id (n := (i : Int) + 1) (by omega) (by omega), show ((i : Int) + 1) = ((i + 1 : Nat) : Int) by omega, ih k hk]
theorem l1In_ok' (a b c : Int) : spec_l1In.f a b c = some (decide (b ≤ a) && decide (a ≤ c)) := by
  unfold spec_l1In.f
  by_cases h1 : b ≤ a
  · by_cases h2 : a ≤ c <;> simp [h1, h2]
  · simp [h1]
theorem read_one (s : ByteArray) (c2 : s.size = 1) : ∀ k, spec_l1Read.f (k + 3) s = (if bt s 0 < 48 then some (-1) else if bt s 0 > 57 then some (-1) else some (bt s 0 - 48)) := by
  have e1 : (decide ((1 : Int) ≤ (s.size : Int)) && decide ((s.size : Int) ≤ 6)) = true := by rw [decide_eq_true (show (1 : Int) ≤ (s.size : Int) by omega), decide_eq_true (show (s.size : Int) ≤ 6 by omega)]; rfl
  have hb := bt_list s 0 (by omega)
  have hb0 : (0 : Int) ≤ bt s 0 := by have h_ : bt s ((0 : Nat) : Int) = _ := hb; have h2_ : bt s 0 = bt s ((0 : Nat) : Int) := rfl; omega
  intro k
  have hd : decide ((s.size : Int) > 1) = false := decide_eq_false (by omega)
  have e2 : spec_l1Read.f (k + 3) s = spec_l1Read.j0 (k + 3) s false := by
    simp only [spec_l1Read.f, l1In_ok', e1, obind, if_true]
    rw [if_pos (by omega), hd]
    split <;> rfl
  rw [e2]
  simp only [spec_l1Read.j0, spec_l1Read.l0, Bool.false_eq_true, if_false]
  rw [if_pos (by omega), if_pos (by omega)]
  by_cases h48 : bt s 0 < 48
  · rw [if_pos h48, if_pos h48]
  · rw [if_neg h48, if_neg h48]
    by_cases h57 : bt s 0 > 57
    · rw [if_pos h57, if_pos h57]
    · rw [if_neg h57, if_neg h57, if_neg (by rw [wrap_id (by omega) (by omega)]; omega)]
      rw [show (bt s 0 - 48) % 256 = bt s 0 - 48 by omega, wrap_id (n := 10 * 0) (by omega) (by omega), wrap_id (by omega) (by omega)]
      congr 1; omega
theorem read_any (s : ByteArray) : ∃ n : Int, Ev (fun k => spec_l1Read.f k s) n ∧ ∀ m : Nat, n = (m : Int) → m ≤ 3 → s.data.toList = [UInt8.ofNat (48 + m)] := by
  have hl : s.data.toList.length = s.size := Array.length_toList
  by_cases c1 : 1 ≤ s.size ∧ s.size ≤ 6
  · have e1 : (decide ((1 : Int) ≤ (s.size : Int)) && decide ((s.size : Int) ≤ 6)) = true := by rw [decide_eq_true (show (1 : Int) ≤ (s.size : Int) by omega), decide_eq_true (show (s.size : Int) ≤ 6 by omega)]; rfl
    by_cases c2 : s.size = 1
    ·
      have hb := bt_list s 0 (by omega)
      have hL : s.data.toList = [s.data.toList[0]'(by omega)] := by
        apply List.ext_getElem (by simp; omega)
        intro i h1 h2
        have : i = 0 := by simp at h2; exact h2
        subst this; rfl
      have hb0 : (0 : Int) ≤ bt s 0 := by have h_ : bt s ((0 : Nat) : Int) = _ := hb; have h2_ : bt s 0 = bt s ((0 : Nat) : Int) := rfl; omega
      have hj := read_one s c2
      by_cases h48 : bt s 0 < 48
      · exact ⟨-1, ⟨3, fun k hk => by obtain ⟨j, rfl⟩ : ∃ j, k = j + 3 := ⟨k - 3, by omega⟩; show spec_l1Read.f (j + 3) s = _; rw [hj, if_pos h48]⟩, fun m hm _ => by omega⟩
      · by_cases h57 : bt s 0 > 57
        · exact ⟨-1, ⟨3, fun k hk => by obtain ⟨j, rfl⟩ : ∃ j, k = j + 3 := ⟨k - 3, by omega⟩; show spec_l1Read.f (j + 3) s = _; rw [hj, if_neg h48, if_pos h57]⟩, fun m hm _ => by omega⟩
        · refine ⟨bt s 0 - 48, ⟨3, fun k hk => by obtain ⟨j, rfl⟩ : ∃ j, k = j + 3 := ⟨k - 3, by omega⟩; show spec_l1Read.f (j + 3) s = _; rw [hj, if_neg h48, if_neg h57]⟩, fun m hm h3 => ?_⟩
          rw [hL, u8_eq (x := s.data.toList[0]'(by omega)) (n := 48 + m) (by omega) (by have h_ : bt s 0 = _ := hb; rw [← h_]; omega)]
    ·
      have hd : decide ((s.size : Int) > 1) = true := decide_eq_true (by omega)
      by_cases c3 : bt s 0 = 48
      · exact ⟨-1, Ev.mk' 0 fun k _ => by
          simp only [spec_l1Read.f, l1In_ok', e1, obind, if_true]
          rw [if_pos (by omega), if_pos c3, hd]
          simp only [spec_l1Read.j0, if_true], fun m hm _ => by omega⟩
      · by_cases c4 : bt s 0 < 48
        · exact ⟨-1, ⟨3, fun k hk => by
            obtain ⟨j, rfl⟩ : ∃ j, k = j + 3 := ⟨k - 3, by omega⟩
            simp only [spec_l1Read.f, l1In_ok', e1, obind, if_true]
            rw [if_pos (by omega), if_neg c3]
            simp only [spec_l1Read.j0, spec_l1Read.l0, Bool.false_eq_true, if_false]
            rw [if_pos (by omega), if_pos (by omega), if_pos c4]⟩, fun m hm _ => by omega⟩
        · by_cases c5 : bt s 0 > 57
          · exact ⟨-1, ⟨3, fun k hk => by
              obtain ⟨j, rfl⟩ : ∃ j, k = j + 3 := ⟨k - 3, by omega⟩
              simp only [spec_l1Read.f, l1In_ok', e1, obind, if_true]
              rw [if_pos (by omega), if_neg c3]
              simp only [spec_l1Read.j0, spec_l1Read.l0, Bool.false_eq_true, if_false]
              rw [if_pos (by omega), if_pos (by omega), if_neg c4, if_pos c5]⟩, fun m hm _ => by omega⟩
          · obtain ⟨x, hx⟩ : ∃ x, x = bt s 0 - 48 := ⟨_, rfl⟩
            obtain ⟨d, hd1⟩ : ∃ d, s.size = d + 2 := ⟨s.size - 2, by omega⟩
            have hT : (x + 1) * tenP (d + 1) ≤ 1000000000000 := by
              have h1 : tenP (d + 1) ≤ 100000 := by
                have : d = 0 ∨ d = 1 ∨ d = 2 ∨ d = 3 ∨ d = 4 := by omega
                rcases this with rfl | rfl | rfl | rfl | rfl <;> decide
              have h2 : (x + 1) * tenP (d + 1) ≤ 10 * tenP (d + 1) := Int.mul_le_mul_of_nonneg_right (by omega) (by have := tenP_pos (d + 1); omega)
              omega
            obtain ⟨n, ⟨K, ih⟩, -, hn⟩ := read_l0 s c1.2 (d + 1) 1 x (by omega) (by omega) hT
            have ih : ∀ k, K ≤ k → spec_l1Read.l0 k s x 1 = some n := ih
            refine ⟨n, ⟨K + 2, fun k hk => ?_⟩, fun m hm h3 => ?_⟩
            · obtain ⟨j, rfl⟩ : ∃ j, k = j + 2 := ⟨k - 2, by omega⟩
              simp only [spec_l1Read.f, l1In_ok', e1, obind, if_true]
              rw [if_pos (by omega), if_neg c3]
              simp only [spec_l1Read.j0, spec_l1Read.l0, Bool.false_eq_true, if_false]
              rw [if_pos (by omega), if_pos (by omega), if_neg c4, if_neg c5, ← hx, wrap_id (n := 10 * 0) (by omega) (by omega), show x % 256 = x by omega, wrap_id (n := 10 * 0 + x) (by omega) (by omega), wrap_id (n := (0 : Int) + 1) (by omega) (by omega), show (10 * 0 + x : Int) = x by omega, show ((0 : Int) + 1) = 1 by omega, ih j (by omega)]
            · have := hn (by omega); omega
  · have e1 : (decide ((1 : Int) ≤ (s.size : Int)) && decide ((s.size : Int) ≤ 6)) = false := by
      rw [Bool.and_eq_false_iff]; simp only [decide_eq_false_iff_not]; omega
    exact ⟨-1, Ev.mk' 0 fun k _ => by
      simp only [spec_l1Read.f, l1In_ok', e1, obind, Bool.false_eq_true, if_false, spec_l1Read.j0, if_true], fun m hm _ => by omega⟩
end Go.Proofs.YtmflgmodknceeaaDoor.P
namespace Go.Proofs.YtmflgmodknceeaaDoor.P
open Go.RowKit Go.Proofs.YtmflgmodknceeaaDoorW.PrintWords Go.Proofs.YtmflgmodknceeaaDoorW.PrintLast
set_option linter.unusedVariables false
set_option linter.unusedSimpArgs false
def PForm (s : ByteArray) (b : List UInt8) (n : Nat) : Prop := s.data.toList = b ++ [58, UInt8.ofNat (48 + n)] ∧ n ≤ 3 ∧ goodP ⟨b.toArray⟩ (n : Int) = true
theorem good_p {s : ByteArray} {n : Int} (h : goodP s n = true) : 1 ≤ s.size ∧ s.size ≤ 48 ∧ s.data.toList.all sign = true ∧ 0 ≤ n ∧ n ≤ 3 := by
  unfold goodP at h
  simp only [Bool.and_eq_true, decide_eq_true_eq] at h
  exact ⟨h.1, h.2.1, h.2.2.1, h.2.2.2.1, h.2.2.2.2⟩
theorem sign_ne (b : List UInt8) (h : b.all sign = true) : b.all (fun y => y != 58) = true := by
  refine List.all_eq_true.2 fun y hy => ?_
  have := List.all_eq_true.1 h y hy
  simp only [sign, Bool.or_eq_true, beq_iff_eq] at this
  rcases this with rfl | rfl | rfl <;> decide
theorem digit_ne (n : Nat) (h : n ≤ 3) : UInt8.ofNat (48 + n) ≠ 58 := by
  have : n = 0 ∨ n = 1 ∨ n = 2 ∨ n = 3 := by omega
  rcases this with rfl | rfl | rfl | rfl <;> decide
theorem read_digit (n : Nat) (h : n ≤ 3) : Ev (fun k => spec_l1Read.f k ⟨#[UInt8.ofNat (48 + n)]⟩) (n : Int) := by
  have hb : bt (⟨#[UInt8.ofNat (48 + n)]⟩ : ByteArray) 0 = ((48 + n : Nat) : Int) := by
    have e := bt_list (⟨#[UInt8.ofNat (48 + n)]⟩ : ByteArray) 0 (show 0 < 1 by omega)
    have e2 : ((⟨#[UInt8.ofNat (48 + n)]⟩ : ByteArray).data.toList[0]'(show 0 < 1 by omega)) = UInt8.ofNat (48 + n) := rfl
    rw [e2, UInt8.toNat_ofNat_of_lt' (show 48 + n < 256 by omega)] at e
    exact e
  refine ⟨3, fun k hk => ?_⟩
  obtain ⟨j, rfl⟩ : ∃ j, k = j + 3 := ⟨k - 3, by omega⟩
  show spec_l1Read.f (j + 3) _ = _
  rw [read_one _ rfl, hb, if_neg (by omega), if_neg (by omega)]
  congr 1; omega
theorem form_size {s : ByteArray} {b : List UInt8} {n : Nat} (h : PForm s b n) : s.size = b.length + 2 ∧ 1 ≤ b.length ∧ b.length ≤ 48 ∧ b.all sign = true := by
  have h1 := congrArg List.length h.1
  obtain ⟨g1, g2, g3, -, -⟩ := good_p h.2.2
  have e : (⟨b.toArray⟩ : ByteArray).size = b.length := by show b.toArray.size = b.length; simp
  have hl : s.data.toList.length = s.size := Array.length_toList
  simp only [List.length_append, List.length_cons, List.length_nil] at h1
  exact ⟨by omega, by omega, by omega, g3⟩
theorem spec_form {s : ByteArray} {b : List UInt8} {n : Nat} (h : PForm s b n) : Ev (fun k => spec_ParsePuzzle.f k s) ((⟨b.toArray⟩ : ByteArray), (n : Int), true) := by
  obtain ⟨z1, z2, z3, z4⟩ := form_size h
  obtain ⟨K1, h1⟩ := split_ev s (by omega)
  rw [h.1, splC_form b [] _ (sign_ne b z4) (digit_ne n h.2.1)] at h1
  obtain ⟨K2, h2⟩ := read_digit n h.2.1
  obtain ⟨K3, h3⟩ := pzGood_ev ⟨b.toArray⟩ n
  rw [h.2.2] at h3
  dsimp only at h1 h2 h3
  simp only [List.map_cons, List.map_nil, List.nil_append] at h1
  refine ⟨K1 + K2 + K3 + 1, fun k hk => ?_⟩
  obtain ⟨j, rfl⟩ : ∃ j, k = j + 1 := ⟨k - 1, by omega⟩
  simp only [spec_ParsePuzzle.f, h1 (j + 1) (by omega), obind]
  rw [if_neg (by omega)]
  simp only [spec_ParsePuzzle.j0, List.length_cons, List.length_nil]
  have e0 : rdOf ByteArray.empty [(⟨b.toArray⟩ : ByteArray), (⟨[UInt8.ofNat (48 + n)].toArray⟩ : ByteArray)] 0 = ⟨b.toArray⟩ := rfl
  have e1 : rdOf ByteArray.empty [(⟨b.toArray⟩ : ByteArray), (⟨[UInt8.ofNat (48 + n)].toArray⟩ : ByteArray)] 1 = ⟨#[UInt8.ofNat (48 + n)]⟩ := rfl
  rw [if_neg (by decide), if_pos (by decide), if_pos (by decide), e0, e1, h2 j (by omega), obind, h3 j (by omega), obind, if_pos rfl]
theorem spec_none {s : ByteArray} (hz : s.size ≤ 1048576) (h : ∀ b n, ¬ PForm s b n) : Ev (fun k => spec_ParsePuzzle.f k s) ((⟨#[]⟩ : ByteArray), (0 : Int), false) := by
  obtain ⟨K1, h1⟩ := split_ev s hz
  dsimp only at h1
  by_cases c1 : (s.size : Int) > 50
  · refine ⟨K1 + 1, fun k hk => ?_⟩
    obtain ⟨j, rfl⟩ : ∃ j, k = j + 1 := ⟨k - 1, by omega⟩
    simp only [spec_ParsePuzzle.f, h1 (j + 1) (by omega), obind]
    rw [if_pos c1]; simp only [spec_ParsePuzzle.j0, if_true]
  · by_cases c2 : (splC [] s.data.toList).length = 2
    · obtain ⟨p, q, hpq⟩ : ∃ p q, splC [] s.data.toList = [p, q] := by
        match hm : splC [] s.data.toList, c2 with
        | [p, q], _ => exact ⟨p, q, rfl⟩
      have hs := splC_two _ _ _ _ hpq
      rw [List.nil_append] at hs
      rw [hpq] at h1
      obtain ⟨n, ⟨K2, h2⟩, hn⟩ := read_any ⟨q.toArray⟩
      obtain ⟨K3, h3⟩ := pzGood_ev ⟨p.toArray⟩ n
      dsimp only at h2 h3
      have hf : goodP ⟨p.toArray⟩ n = false := by
        rw [Bool.eq_false_iff]
        intro hg
        obtain ⟨-, -, -, g4, g5⟩ := good_p hg
        have hq := hn n.toNat (by omega) (by omega)
        refine h p n.toNat ⟨?_, by omega, by rw [show ((n.toNat : Nat) : Int) = n by omega]; exact hg⟩
        rw [hs, show q = [UInt8.ofNat (48 + n.toNat)] from hq]
      rw [hf] at h3
      refine ⟨K1 + K2 + K3 + 1, fun k hk => ?_⟩
      obtain ⟨j, rfl⟩ : ∃ j, k = j + 1 := ⟨k - 1, by omega⟩
      simp only [spec_ParsePuzzle.f, h1 (j + 1) (by omega), obind, List.map_cons, List.map_nil]
      rw [if_neg c1]
      simp only [spec_ParsePuzzle.j0, List.length_cons, List.length_nil]
      have e0 : rdOf ByteArray.empty [(⟨p.toArray⟩ : ByteArray), (⟨q.toArray⟩ : ByteArray)] 0 = ⟨p.toArray⟩ := rfl
      have e1 : rdOf ByteArray.empty [(⟨p.toArray⟩ : ByteArray), (⟨q.toArray⟩ : ByteArray)] 1 = ⟨q.toArray⟩ := rfl
      rw [if_neg (by decide), if_pos (by decide), if_pos (by decide), e0, e1, h2 j (by omega), obind, h3 j (by omega), obind, if_neg (by decide)]
    · refine ⟨K1 + 1, fun k hk => ?_⟩
      obtain ⟨j, rfl⟩ : ∃ j, k = j + 1 := ⟨k - 1, by omega⟩
      simp only [spec_ParsePuzzle.f, h1 (j + 1) (by omega), obind, List.length_map]
      rw [if_neg c1, bne_iff_ne.2 (by omega)]; simp only [spec_ParsePuzzle.j0, if_true]
theorem index_colon : ∀ (b : List UInt8) (r : List UInt8), b.all (fun y => y != 58) = true → Lib.index (b ++ 58 :: r) [58] = (b.length : Int)
  | [], r, h => by simp [Lib.index, List.isPrefixOf]
  | c :: b, r, h => by
    rw [List.all_cons, Bool.and_eq_true] at h
    have hc : ((58 : UInt8) == c) = false := by
      have := h.1; rw [beq_eq_false_iff_ne]; intro e; subst e; simp at this
    have ih := index_colon b r h.2
    rw [List.cons_append, Lib.index, ih]
    have hp : ([58] : List UInt8).isPrefixOf (c :: (b ++ 58 :: r)) = false := by simp [List.isPrefixOf, hc]
    rw [hp]
    have hb : ((b.length : Int) == -1) = false := beq_eq_false_iff_ne.2 (by omega)
    simp [hb]
theorem itoa_ok (n : Int) (h0 : 0 ≤ n) (h1 : n ≤ 3) : strconv_Itoa.f n = some ⟨#[UInt8.ofNat (48 + n.toNat)]⟩ := by
  have e : strconv_Itoa.f n = some ⟨(Lib.decDigits n.toNat).toArray⟩ := by unfold strconv_Itoa.f; rw [if_pos (by omega)]
  rw [Lib.decDigits_one (by omega)] at e
  exact e
theorem text_ok (b : ByteArray) (n : Int) (hg : goodP b n = true) : ∃ t, impl_puzzleText.f b n = some t ∧ t.data.toList = b.data.toList ++ [58, UInt8.ofNat (48 + n.toNat)] := by
  obtain ⟨g1, g2, -, g4, g5⟩ := good_p hg
  have e1 : (b ++ (⟨#[58]⟩ : ByteArray)).size = b.size + 1 := by rw [ByteArray.size_append]; rfl
  refine ⟨(b ++ (⟨#[58]⟩ : ByteArray)) ++ ⟨#[UInt8.ofNat (48 + n.toNat)]⟩, ?_, by simp [ByteArray.data_append]⟩
  have e2 : (⟨#[UInt8.ofNat (48 + n.toNat)]⟩ : ByteArray).size = 1 := rfl
  simp only [impl_puzzleText.f, itoa_ok n g4 g5, obind]
  rw [if_pos (by omega), if_pos (by rw [e1, e2]; omega)]
theorem impl_form {s : ByteArray} {b : List UInt8} {n : Nat} (h : PForm s b n) : impl_ParsePuzzle.f s = some ((⟨b.toArray⟩ : ByteArray), (n : Int), true) := by
  obtain ⟨z1, z2, z3, z4⟩ := form_size h
  obtain ⟨t, ht, hl⟩ := text_ok ⟨b.toArray⟩ n h.2.2
  have hc : Lib.cut s.data.toList [58] = (b, [UInt8.ofNat (48 + n)], true) := by
    unfold Lib.cut
    rw [h.1, index_colon b [UInt8.ofNat (48 + n)] (sign_ne b z4), if_pos (by omega)]
    simp
  have ha : Lib.atoiAll [UInt8.ofNat (48 + n)] = .ok (n : Int) := by
    have hn := h.2.1
    have : n = 0 ∨ n = 1 ∨ n = 2 ∨ n = 3 := by omega
    rcases this with rfl | rfl | rfl | rfl <;> rfl
  have hts : t.toList = s.toList := by
    rw [ByteArray.toList_eq, ByteArray.toList_eq, hl, h.1, Int.toNat_natCast]
  unfold impl_ParsePuzzle.f impl_parsePuzzle.f
  rw [if_pos (by omega), hc]
  simp only [ha]
  rw [isPuzzle_ok, h.2.2, obind, if_pos rfl, ht, obind, if_pos hts, obind]
theorem impl_none {s : ByteArray} (hz : s.size ≤ 1048576) (h : ∀ b n, ¬ PForm s b n) : impl_ParsePuzzle.f s = some ((⟨#[]⟩ : ByteArray), (0 : Int), false) := by
  unfold impl_ParsePuzzle.f impl_parsePuzzle.f
  rw [if_pos hz]
  obtain ⟨c, hc⟩ : ∃ c, c = Lib.cut s.data.toList [58] := ⟨_, rfl⟩
  rw [← hc]
  cases ha : Lib.atoiAll c.2.1 with
  | ok v =>
    simp only []
    rw [isPuzzle_ok, obind]
    by_cases hg : goodP ⟨c.1.toArray⟩ v = true
    · obtain ⟨t, ht, hl⟩ := text_ok ⟨c.1.toArray⟩ v hg
      obtain ⟨-, -, -, g4, g5⟩ := good_p hg
      rw [if_pos hg, ht, obind]
      have hne : ¬ t.toList = s.toList := by
        intro he
        rw [ByteArray.toList_eq, ByteArray.toList_eq] at he
        refine h c.1 v.toNat ⟨?_, by omega, by rw [show ((v.toNat : Nat) : Int) = v by omega]; exact hg⟩
        rw [← he, hl]
      rw [if_neg hne, obind]
    · rw [if_neg hg, obind]
  | _ => rfl
theorem ParsePuzzle_main (s : ByteArray) (hz : s.size ≤ 1048576) : ∃ v : ByteArray × Int × Bool, Ev (fun k => spec_ParsePuzzle.f k s) v ∧ impl_ParsePuzzle.f s = some v := by
  by_cases h : ∃ b n, PForm s b n
  · obtain ⟨b, n, h⟩ := h
    exact ⟨_, spec_form h, impl_form h⟩
  · have h : ∀ b n, ¬ PForm s b n := fun b n hp => h ⟨b, n, hp⟩
    exact ⟨_, spec_none hz h, impl_none hz h⟩
theorem FnExactParsePuzzle : laws_FnExactParsePuzzle.Pure := by
  intro s hs
  by_cases h : (s.size : Int) > 1048576
  · refine ⟨0, ?_⟩
    simp only [laws_FnExactParsePuzzle.f]
    rw [if_pos h]
  · obtain ⟨v, ⟨K, h1⟩, h2⟩ := ParsePuzzle_main s (by omega)
    dsimp only at h1
    refine ⟨K, ?_⟩
    have e : laws_eqPuzzle.f v.1 v.2.1 v.1 v.2.1 = some true := by simp [laws_eqPuzzle.f]
    simp (disch := omega) only [laws_FnExactParsePuzzle.f, if_neg h, obind, h1, h2, e, bne_self_eq_false, Bool.false_eq_true, if_false, if_true]
end Go.Proofs.YtmflgmodknceeaaDoor.P
