/- What functions of the program answer. Proved in this text: its theorems. Conditions: as each theorem states them. -/
import Derived.Test.YtidkoannjealfaaCFnSumsOfSquaresP
namespace Go.Proofs.Ytidkoannjealfaa.P
open Go.RowKit Go.Proofs.YtidkoannjealfaaW.PrintWords Go.Proofs.YtidkoannjealfaaW.PrintLast Go.Proofs.YtidkoannjealfaaW.PrintMore
attribute [local go_sem] max2_int min2_int max_two min_two max_three min_three max_four min_four
set_option linter.unusedVariables false
set_option linter.unusedSimpArgs false
def impl_isAsked.f (a0 : Int) : Option (Bool) := if a0 ≥ 1 then (some (decide (a0 ≤ 100000))) else (some false)
set_option maxHeartbeats 8000000 in
set_option maxRecDepth 100000 in
theorem impl_isAsked.calls (a0 : Int) (r : Bool) (w : World) (h : impl_isAsked.f a0 = some r) :
  Calls Try.prog 27 #[.int .i64 a0] w fun e w' => e = .returned (.bool r) ∧ Drawn0 w w' := by
 have H : (if a0 ≥ 1 then (some (decide (a0 ≤ 100000))) else (some false)) = some r := h
 clear h
 by_cases c2 : a0 ≥ 1
 ·rw [if_pos c2] at H
  have c2b0 : decide (1 ≤ a0) = true := decide_eq_true c2
  clear c2
  obtain rfl := Option.some.inj H
  go_enter Try.func27, Try.ntmps27
  go_wp2
  go_ret
  exact ⟨k32_, k30_⟩
 ·rw [if_neg c2] at H
  have c2b0 : decide (1 ≤ a0) = false := decide_eq_false c2
  clear c2
  obtain rfl := Option.some.inj H
  go_enter Try.func27, Try.ntmps27
  go_wp2
  go_ret
  exact ⟨k32_, k30_⟩
end Go.Proofs.Ytidkoannjealfaa.P
namespace Go.Proofs.Ytidkoannjealfaa.P
open Go.RowKit Go.Proofs.YtidkoannjealfaaW.PrintWords Go.Proofs.YtidkoannjealfaaW.PrintLast Go.Proofs.YtidkoannjealfaaW.PrintMore
attribute [local go_sem] max2_int min2_int max_two min_two max_three min_three max_four min_four
set_option linter.unusedVariables false
set_option linter.unusedSimpArgs false
def impl_leastFactor.l0 : Nat → Int → Int → Option (Int)
 | 0, _, _ => none
 | k + 1, x0, x3 => if (wrap64 (x3 * x3)) ≤ x0 then (if x3 = 0 then (none) else (if (Int.tmod x0 x3) = 0 then (some x3) else (impl_leastFactor.l0 k x0 (wrap64 (x3 + 1))))) else (some x0)
def impl_leastFactor.f (k : Nat) (a0 : Int) : Option (Int) := impl_leastFactor.l0 k a0 2
set_option maxHeartbeats 8000000 in
set_option maxRecDepth 100000 in
theorem impl_leastFactor.calls (k : Nat) (a0 : Int) (r : Int) (w : World) (h : impl_leastFactor.f k a0 = some r) :
  Calls Try.prog 53 #[.int .i64 a0] w fun e w' => e = .returned (.int .i64 r) ∧ Drawn0 w w' := by
 have H : (impl_leastFactor.l0 k a0 2) = some r := h
 clear h
 have H' := Aside0.mk H
 clear H
 go_enter Try.func53, Try.ntmps53
 go_wp2
 go_loopg [3] k (fun kq v3 w' => ∃ (x3_1 : Int), v3 = .int .i64 x3_1 ∧ Aside0 (impl_leastFactor.l0 kq a0 x3_1 = some r) ∧ Aside0 (kq ≤ k) ∧ Drawn0 w w')
 case atStart => exact ⟨(2), k32_, H', ⟨Nat.le_refl _⟩, k30_⟩
 case round =>
  clear H'
  obtain ⟨x3_1, rfl, HA, HK1, ⟨m1, rfl⟩⟩ := hrel
  cases gk with
  | zero => exact absurd HA.out (by simp [impl_leastFactor.l0])
  | succ k1 =>
   have H := HA.out
   clear HA
   simp only [impl_leastFactor.l0] at H
   by_cases c2 : (wrap64 (x3_1 * x3_1)) ≤ a0
   ·rw [if_pos c2] at H
    have c2b0 : decide ((wrap64 (x3_1 * x3_1)) ≤ a0) = true := decide_eq_true c2
    clear c2
    by_cases c3 : x3_1 = 0
    ·rw [if_pos c3] at H
     exact absurd H (by simp)
    ·rw [if_neg c3] at H
     have c3b0 : (x3_1 == 0) = false := beq_eq_false_iff_ne.mpr c3
     have c3b1 : (x3_1 != 0) = true := bne_iff_ne.mpr c3
     by_cases c4 : (Int.tmod a0 x3_1) = 0
     ·rw [if_pos c4] at H
      have c4b0 : ((Int.tmod a0 x3_1) == 0) = true := beq_iff_eq.mpr c4
      have c4b1 : ((Int.tmod a0 x3_1) != 0) = false := bne_eq_false_iff_eq.mpr c4
      clear c4
      obtain rfl := Option.some.inj H
      go_wp2
      go_ret
      exact ⟨k32_, k30_⟩
     ·rw [if_neg c4] at H
      have c4b0 : ((Int.tmod a0 x3_1) == 0) = false := beq_eq_false_iff_ne.mpr c4
      have c4b1 : ((Int.tmod a0 x3_1) != 0) = true := bne_iff_ne.mpr c4
      have H' := Aside0.mk H
      clear H
      go_wp2
      go_roundg k1
      case measure => have := HK1.out; omega
      case rel => exact ⟨(wrap64 (x3_1 + 1)), k32_, H', ⟨k34_⟩, k30_⟩
   ·rw [if_neg c2] at H
    have c2b0 : decide ((wrap64 (x3_1 * x3_1)) ≤ a0) = false := decide_eq_false c2
    clear c2
    obtain rfl := Option.some.inj H
    go_wp2
    go_ret
    exact ⟨k32_, k30_⟩
end Go.Proofs.Ytidkoannjealfaa.P
namespace Go.Proofs.Ytidkoannjealfaa.P
open Go.RowKit Go.Proofs.YtidkoannjealfaaW.PrintWords Go.Proofs.YtidkoannjealfaaW.PrintLast Go.Proofs.YtidkoannjealfaaW.PrintMore
attribute [local go_sem] max2_int min2_int max_two min_two max_three min_three max_four min_four
set_option linter.unusedVariables false
set_option linter.unusedSimpArgs false
mutual
def impl_factors.l0 : Nat → Int → List (List Int) → Option ((List (List Int)))
 | 0, _, _ => none
 | k + 1, x0, x3 => if x0 > 1 then ((impl_leastFactor.f k x0).bind fun t104 => (impl_factors.l1 k x0 x3 t104 0)) else (some x3)
def impl_factors.l1 : Nat → Int → List (List Int) → Int → Int → Option ((List (List Int)))
 | 0, _, _, _, _ => none
 | k + 1, x0, x3, x4, x5 => if x4 = 0 then (none) else (if (Int.tmod x0 x4) = 0 then (impl_factors.l1 k (wrap64 (Int.tdiv x0 x4)) x3 x4 (wrap64 (x5 + 1))) else (if x3.length < 5864062014805 then (impl_factors.l0 k x0 (x3 ++ [(([x4, x5] : List Int))])) else (none)))
end
def impl_factors.f (k : Nat) (a0 : Int) : Option ((List (List Int))) := impl_factors.l0 k a0 (([] : List (List Int)))
set_option maxHeartbeats 8000000 in
set_option maxRecDepth 100000 in
theorem impl_factors.calls (k : Nat) (a0 : Int) (r : List (List Int)) (w : World) (h : impl_factors.f k a0 = some r) :
  Calls Try.prog 43 #[.int .i64 a0] w fun e w' => ∃ v0_ : Value, e = .returned (v0_) ∧ Kd.S (Kd.slice 3 (Kd.int .i64)) 32 w' w.heap.size (fun _ => True) v0_ r ∧ Below w.heap.size w w' := by
 have HB := Aside0.mk (Below.refl w.heap.size w)
 have H : (impl_factors.l0 k a0 (([] : List (List Int)))) = some r := h
 clear h
 obtain ⟨y101, hy_⟩ : ∃ y_ : List (List Int), y_ = (([] : List (List Int))) := ⟨_, rfl⟩
 replace H : (impl_factors.l0 k a0 y101) = some r := k0_
 have Ny101 := Aside0.mk hy_
 clear hy_
 have H' := Aside0.mk H
 clear H
 go_enter Try.func43, Try.ntmps43
 go_wp2_with (first | ((with_reducible refine gate_dst (N := 6) rfl ?_); refine Kd.S_lit (Kd.slice 3 (Kd.int .i64)) _ 32 ?hg (N := 6) ?hd (xs := ([] : List (List Int))) (inner := []) (ok := fun _ => True) (okp := fun _ => True) ?hr ?hp (fun _ hk => hk) trivial (Below.refl _ _) (Nat.le_refl _) (by simp) ?_; (case hd => rfl); (case hg => rfl); (case hr => exact k33_); (case hp => exact (Reps.none _ _)); intro v102 w2 ho3 hb hg_ hnew_; clear hg_ hnew_; (first | rw [← Ny101.out] at ho3 | (simp only [Int.reduceToNat] at ho3; rw [← Ny101.out] at ho3)); have HO103 := Aside0.mk (Kd.S_lower ho3 (below_size k23_)); replace HB := HB.mw hb; clear hb ho3))
 go_loopg [0, 3] k (fun kq v0 v3 w' => ∃ (x0_1 : Int) (x3_1 : List (List Int)), v0 = .int .i64 x0_1 ∧ Aside0 (impl_factors.l0 kq x0_1 x3_1 = some r) ∧ Aside0 (kq ≤ k) ∧ Aside0 (Kd.S (Kd.slice 3 (Kd.int .i64)) 32 w' w.heap.size (fun _ => True) v3 x3_1) ∧ Aside0 (Below w.heap.size w w'))
 case atStart => exact ⟨(a0), (y101), k32_, H', ⟨Nat.le_refl _⟩, ⟨by apply_rules only [HO103.out, Kd.S_alloc, Kd.S_drewN, Kd.S_drew]⟩, ⟨k23_⟩⟩
 case round =>
  clear H'
  obtain ⟨x0_1, x3_1, rfl, HA, HK1, HO_3, HB⟩ := hrel
  cases gk with
  | zero => exact absurd HA.out (by simp [impl_factors.l0])
  | succ k1 =>
   have H := HA.out
   clear HA
   simp only [impl_factors.l0] at H
   by_cases c4 : x0_1 > 1
   ·rw [if_pos c4] at H
    have c4b0 : decide (1 < x0_1) = true := decide_eq_true c4
    clear c4
    obtain ⟨t104, A5, H⟩ := obnd_ H
    (try dsimp only at H)
    have H' := Aside0.mk H
    clear H
    go_wp2_with (first | ((with_reducible refine gate_callee (f := 53) rfl ?_); refine goesL_ (some 10) rfl rfl Try.func53 (by kernel_rfl) rfl #[.int .i64 x0_1] rfl k20_ ?_; (with_reducible refine (impl_leastFactor.calls k1 x0_1 t104 _ A5.out).mono ?_); rintro e w' ⟨rfl, ⟨nd, rfl⟩⟩; refine ⟨_, rfl, ?_⟩))
    go_loopg [0, 5] k1 (fun kq v0 v5 w' => ∃ (x0_2 : Int) (x5_2 : Int), v0 = .int .i64 x0_2 ∧ v5 = .int .i64 x5_2 ∧ Aside0 (impl_factors.l1 kq x0_2 x3_1 t104 x5_2 = some r) ∧ Aside0 (kq ≤ k1) ∧ Aside0 (Kd.S (Kd.slice 3 (Kd.int .i64)) 32 w' w.heap.size (fun _ => True) u3 x3_1) ∧ Aside0 (Below w.heap.size w w'))
    case atStart => exact ⟨(x0_1), (0), k32_, k32_, H', ⟨Nat.le_refl _⟩, ⟨by apply_rules only [HO_3.out, Kd.S_alloc, Kd.S_drewN, Kd.S_drew]⟩, ⟨k23_⟩⟩
    case round =>
     clear H'
     skip
     obtain ⟨x0_2, x5_2, rfl, rfl, HA, HK2, HO_3, HB⟩ := hrel
     cases gk with
     | zero => exact absurd HA.out (by simp [impl_factors.l1])
     | succ k2 =>
      have H := HA.out
      clear HA
      simp only [impl_factors.l1] at H
      by_cases c6 : t104 = 0
      ·rw [if_pos c6] at H
       exact absurd H (by simp)
      ·rw [if_neg c6] at H
       have c6b0 : (t104 == 0) = false := beq_eq_false_iff_ne.mpr c6
       have c6b1 : (t104 != 0) = true := bne_iff_ne.mpr c6
       by_cases c7 : (Int.tmod x0_2 t104) = 0
       ·rw [if_pos c7] at H
        have c7b0 : ((Int.tmod x0_2 t104) == 0) = true := beq_iff_eq.mpr c7
        have c7b1 : ((Int.tmod x0_2 t104) != 0) = false := bne_eq_false_iff_eq.mpr c7
        clear c7
        have H' := Aside0.mk H
        clear H
        go_wp2
        go_roundg k2
        case measure => have := HK1.out; have := HK2.out; omega
        case rel => exact ⟨(wrap64 (Int.tdiv x0_2 t104)), (wrap64 (x5_2 + 1)), k32_, k32_, H', ⟨by have := HK1.out; have := HK2.out; omega⟩, ⟨by apply_rules only [HO_3.out, Kd.S_alloc, Kd.S_drewN, Kd.S_drew]⟩, ⟨k23_⟩⟩
       ·rw [if_neg c7] at H
        have c7b0 : ((Int.tmod x0_2 t104) == 0) = false := beq_eq_false_iff_ne.mpr c7
        have c7b1 : ((Int.tmod x0_2 t104) != 0) = true := bne_iff_ne.mpr c7
        obtain ⟨y105, hy_⟩ : ∃ y_ : List Int, y_ = (([t104, x5_2] : List Int)) := ⟨_, rfl⟩
        replace H : (if x3_1.length < 5864062014805 then (impl_factors.l0 k2 x0_2 (x3_1 ++ [y105])) else (none)) = some r := k0_
        have Ny105 := Aside0.mk hy_
        clear hy_
        by_cases c8 : x3_1.length < 5864062014805
        ·rw [if_pos c8] at H
         have LMc8 := Aside0.mk c8
         clear c8
         obtain ⟨y108, hy_⟩ : ∃ y_ : List (List Int), y_ = (x3_1 ++ [y105]) := ⟨_, rfl⟩
         replace H : (impl_factors.l0 k2 x0_2 y108) = some r := k0_
         have Ny108 := Aside0.mk hy_
         clear hy_
         have H' := Aside0.mk H
         clear H
         go_wp2_with (first | ((with_reducible refine gate_dst (N := 23) rfl ?_); refine Kd.R_lit (Kd.int .i64) _ 3 ?hg (N := 23) ?hd (xs := ([t104, x5_2] : List Int)) (inner := [.int .i64 t104, .int .i64 x5_2]) (ok := fun _ => True) (okp := fun _ => True) ?hr ?hp (fun _ hk => hk) trivial (Below.refl _ _) (Nat.le_refl _) (by simp) ?_; (case hd => rfl); (case hg => rfl); (case hr => exact k33_); (case hp => exact (Reps.one (show Kd.M (Kd.int .i64) _ _ _ t104 [.int .i64 t104] from rfl) (Reps.one (show Kd.M (Kd.int .i64) _ _ _ x5_2 [.int .i64 x5_2] from rfl) (Reps.none _ _)))); intro v106 w9 ho10 hb hg_ hnew_; clear hg_ hnew_; (first | rw [← Ny105.out] at ho10 | (simp only [Int.reduceToNat] at ho10; rw [← Ny105.out] at ho10)); replace HO_3 := Aside0.mk (Kd.S_elder' (by apply_rules only [HO_3.out, Kd.S_alloc, Kd.S_drewN, Kd.S_drew]) (Kd.R_base ho10) hb); have HO107 := Aside0.mk (Kd.R_lower ho10 (below_size k23_)); replace HB := HB.mw hb; clear hb ho10; obtain ⟨Ao12, co12, eo12⟩ := Kd.R_slice HO107.out; subst eo12) | ((with_reducible refine gate_builtin (b := .append) (xs := #[.tmp 20, .tmp 24]) rfl ?_); at_builtin; refine Kd.S_append (Kd.slice 3 (Kd.int .i64)) (w0 := w) w.heap.size rfl (.tmp 20) (.tmp 24) 25 32 (.slice none 0 0) 24 rfl Try.underlying25 info32 rfl (by decide) (by omega) u3 x3_1 y105 [.slice Ao12 y105.length co12] (fun _ => True) (fun k_ => some k_ = (.slice Ao12 y105.length co12 : Value).ownBlock) rfl rfl ?aP (fun k_ hk_ => ((Kd.R_mono (ok' := fun k_ => ((fun _ => True)) k_ ∧ some k_ ≠ (u3 : Value).ownBlock) (Kd.R_apart' (HO107.out) (Kd.S_typed HO_3.out) (by decide)) (fun k_ hk => ⟨trivial, hk.2⟩))).1 k_ hk_.symm) ?aF ?aO ?aB ?aS ?aL ?_; (case aP => exact Kd.M_row (Kd.R_mono (Kd.R_tight rfl (Kd.R_mono (ok' := fun k_ => ((fun _ => True)) k_ ∧ some k_ ≠ (u3 : Value).ownBlock) (Kd.R_apart' (HO107.out) (Kd.S_typed HO_3.out) (by decide)) (fun k_ hk => ⟨trivial, hk.2⟩))) (fun _ h_ => h_))); (case aB => exact k23_); (case aF => exact (fun _ _ => trivial)); (case aO => exact (by (with_reducible repeat (first | apply Kd.S_alloc | apply Kd.S_drewN | apply Kd.S_drew)); exact Kd.S_mono HO_3.out (fun k_ hk => ⟨trivial, fun e_ => hk.2 e_⟩))); (case aS => exact (below_size k23_)); (case aL => have := LMc8.out; omega); intro v109 w11 ho hb hg hat; rw [← Ny108.out] at ho; replace HB := Aside0.mk (hb); have HO110 := Aside0.mk (ho); clear HO_3 HO107; clear ho hb hg hat))
         go_roundg k2
         case measure => have := HK1.out; have := HK2.out; omega
         case rel => exact ⟨(x0_2), (y108), k32_, H', ⟨by have := HK1.out; have := HK2.out; omega⟩, ⟨k26_⟩, ⟨k23_⟩⟩
        ·rw [if_neg c8] at H
         exact absurd H (by simp)
   ·rw [if_neg c4] at H
    have c4b0 : decide (1 < x0_1) = false := decide_eq_false c4
    clear c4
    obtain rfl := Option.some.inj H
    go_wp2
    go_ret
    exact ⟨_, k22_, by (with_reducible repeat (first | apply Kd.S_alloc | apply Kd.S_drewN | apply Kd.S_drew)); exact HO_3.out, k23_⟩
end Go.Proofs.Ytidkoannjealfaa.P
namespace Go.Proofs.Ytidkoannjealfaa.P
open Go.RowKit Go.Proofs.YtidkoannjealfaaW.PrintWords Go.Proofs.YtidkoannjealfaaW.PrintLast Go.Proofs.YtidkoannjealfaaW.PrintMore
attribute [local go_sem] max2_int min2_int max_two min_two max_three min_three max_four min_four
set_option linter.unusedVariables false
set_option linter.unusedSimpArgs false
theorem grown_trans {w w1 w2 : World} {r r' : Option Nat} (h : w.grownBy w1 r) (h2 : w1.grownBy w2 r') (hr : r' = r ∨ ∃ b, r' = some b ∧ w.heap.size ≤ b) : w.grownBy w2 r :=
  ⟨h2.os.trans h.os, h2.tape.trans h.tape, h2.output.trans h.output, Nat.le_trans h.size h2.size, fun k hk hne => (h2.block k (Nat.lt_of_lt_of_le hk h.size) (fun e => by
    rcases hr with hr | ⟨b, hr, hb⟩
    · exact hne (e.trans hr)
    · rw [hr] at e; injection e with e; omega)).trans (h.block k hk hne)⟩
def fIx {α : Type} (p : α → Bool) : List α → Int → Int
  | [], _ => -1
  | x :: l, i => if p x = true then i else fIx p l (i + 1)
theorem fIx_spec {α : Type} (p : α → Bool) : ∀ (l : List α) (i : Int), (fIx p l i = -1 ∧ l.filter (fun x => !p x) = l) ∨ ∃ k : Nat, k < l.length ∧ fIx p l i = i + k ∧ (l.take (k + 1)).filter (fun x => !p x) = l.take k
  | [], i => .inl ⟨rfl, rfl⟩
  | x :: l, i => by
    by_cases h : p x = true
    · exact .inr ⟨0, by simp, by simp [fIx, h], by simp [h]⟩
    · have hb : (!p x) = true := by simpa using h
      rcases fIx_spec p l (i + 1) with ⟨e, f⟩ | ⟨k, hk, e, f⟩
      · exact .inl ⟨by rw [fIx, if_neg h, e], by rw [List.filter_cons, if_pos hb, f]⟩
      · refine .inr ⟨k + 1, by simpa using hk, by rw [fIx, if_neg h, e]; omega, ?_⟩
        rw [List.take_succ_cons, List.filter_cons, if_pos hb, f, List.take_succ_cons]
structure KI {α : Type} (q : α → Bool) (xs ys : List α) (i j : Nat) : Prop where
  len : ys.length = xs.length
  lt : i < j
  le : j ≤ xs.length
  cnt : ((xs.take j).filter q).length = i
  low : ys.take i = (xs.take j).filter q
  high : ys.drop j = xs.drop j
theorem KI.start {α : Type} {q : α → Bool} {xs : List α} {k : Nat} (hk : k < xs.length) (h : (xs.take (k + 1)).filter q = xs.take k) : KI q xs xs k (k + 1) :=
  ⟨rfl, Nat.lt_succ_self _, hk, by rw [h, List.length_take]; omega, h.symm, rfl⟩
theorem KI.read {α : Type} {q : α → Bool} {xs ys : List α} {i j : Nat} (h : KI q xs ys i j) : ys[j]? = xs[j]? := by
  have h1 := congrArg (fun l => l[0]?) h.high
  simpa using h1
theorem KI.keep {α : Type} {q : α → Bool} {xs ys : List α} {i j : Nat} {x : α} (h : KI q xs ys i j) (hj : j < xs.length) (hx : xs[j]? = some x) (hq : q x = true) : KI q xs (ys.set i x) (i + 1) (j + 1) := by
  have e : xs.take (j + 1) = xs.take j ++ [x] := by rw [List.take_add_one, hx]; rfl
  have e2 : (xs.take (j + 1)).filter q = (xs.take j).filter q ++ [x] := by rw [e, List.filter_append, List.filter_cons, if_pos hq, List.filter_nil]
  have hi : i < ys.length := by have := h.lt; have := h.len; omega
  refine ⟨by simpa using h.len, by have := h.lt; omega, hj, by rw [e2, List.length_append, h.cnt]; rfl, ?_, ?_⟩
  · rw [e2, ← h.low, List.take_succ_eq_append_getElem (by simpa using hi)]
    simp only [List.take_set, List.getElem_set_self]
    rw [List.set_eq_of_length_le (by simp; omega)]
  · rw [List.drop_set_of_lt (by have := h.lt; omega), ← List.drop_drop, h.high, List.drop_drop]
theorem KI.skip {α : Type} {q : α → Bool} {xs ys : List α} {i j : Nat} {x : α} (h : KI q xs ys i j) (hj : j < xs.length) (hx : xs[j]? = some x) (hq : q x = false) : KI q xs ys i (j + 1) := by
  have e : xs.take (j + 1) = xs.take j ++ [x] := by rw [List.take_add_one, hx]; rfl
  have e2 : (xs.take (j + 1)).filter q = (xs.take j).filter q := by rw [e, List.filter_append, List.filter_cons, if_neg (by simp [hq]), List.filter_nil, List.append_nil]
  refine ⟨h.len, by have := h.lt; omega, hj, by rw [e2]; exact h.cnt, by rw [e2]; exact h.low, ?_⟩
  rw [← List.drop_drop, h.high, List.drop_drop]
theorem KI.done {α : Type} {q : α → Bool} {xs ys : List α} {i : Nat} (h : KI q xs ys i xs.length) : ys.take i = xs.filter q ∧ i = (xs.filter q).length := by
  have h1 := h.low
  have h2 := h.cnt
  rw [List.take_length] at h1 h2
  exact ⟨h1, h2.symm⟩
theorem clear_cells {P : Program} {n : Nat} (w : World) (t e ty : TypeId) (z : Value) (ht : P.underlying t = some (.slice e)) (hv : ∀ w, (zeroValue e).run P w = .ok z w) (hz : ∀ u ∈ (Builtin.zeroCells z.cells n).toList, u.oneCell' = true) (b o c : Nat) (hn : 0 < n) (hne : 0 < z.cells.size)
    (hc : ∀ j, j < n * z.cells.size → (w.cell? ⟨b, o + j, none⟩).isSome = true) (hf : ∀ j, j < n * z.cells.size → w.frozen? ⟨b, o + j, none⟩ = false) :
    (Builtin.clear_ #[t] ty #[.slice (some ⟨b, o, none⟩) n c]).run P w = .ok (.tuple #[]) (w.setCells b o (Builtin.zeroCells z.cells n).toList) := by
  have hl : (Builtin.zeroCells z.cells n).toList.length = n * z.cells.size := by simp [Builtin.zeroCells]
  have hst := run_storeCells_cells (P := P) b o (Builtin.zeroCells z.cells n).toList 0 w (by rw [hl]; simpa using hc) (by rw [hl]; simpa using hf) hz
  simp only [Nat.add_zero] at hst
  obtain ⟨m, rfl⟩ : ∃ m, n = m + 1 := ⟨n - 1, by omega⟩
  simp [Builtin.clear_, run_underlying ht, hv, hst]
theorem heap_setCells (b : Nat) : ∀ (vs : List Value) (o : Nat) (w : World) (cur : Array Value) (e : TypeId) (fr : Nat × Nat), w.heap[b]? = some (.cells cur e fr) → ∃ cur', (w.setCells b o vs).heap[b]? = some (.cells cur' e fr) ∧ cur'.size = cur.size ∧ ∀ j, j < o → cur'[j]? = cur[j]?
  | [], _, _, cur, _, _, h => ⟨cur, h, rfl, fun _ _ => rfl⟩
  | v :: r, o, w, cur, e, fr, h => by
    have h1 : (w.setCell ⟨b, o, none⟩ v).heap[b]? = some (.cells (cur.setIfInBounds o v) e fr) := by simp [World.setCell, Array.getElem?_modify, h]
    obtain ⟨cur', h2, h3, h4⟩ := heap_setCells b r (o + 1) _ _ _ _ h1
    refine ⟨cur', h2, by simpa using h3, fun j hj => ?_⟩
    rw [h4 j (by omega), Array.getElem?_setIfInBounds, if_neg (by omega)]
theorem R_clear {α : Type} {d : Kd α} {e base g n c : Nat} {ok : Nat → Prop} {w : World} {xs : List α} (h : d.R e w base ok (.slice (some ⟨g, 0, none⟩) n c) xs) (o : Nat) (vs : List Value) (ho : xs.length * d.sz ≤ o) : d.R e (w.setCells g o vs) base ok (.slice (some ⟨g, 0, none⟩) n c) xs := by
  obtain ⟨h0, inner, hown, hr⟩ := h
  refine ⟨h0, inner, ⟨hown.1, ?_⟩, hr.imp_ (fun p cs hp => d.M_move (fun k hk => setCells_far vs o k (fun e_ => hk.2 (by rw [e_]; rfl))) hp)⟩
  rcases hown.2 with ⟨hv, _⟩ | ⟨g', cap, cur, hv, hb, hh, hnc, hcm, hcs, ht⟩
  · cases hv
  · injection hv with ha hn hc
    injection ha with ha
    injection ha with hg
    subst hg; subst hc
    obtain ⟨cur', h2, h3, h4⟩ := heap_setCells g vs o w cur e (0, 0) hh
    refine .inr ⟨g, c, cur', by rw [hn], hb, h2, hnc, hcm, by rw [h3]; exact hcs, ?_⟩
    rw [← ht]
    apply List.ext_getElem?
    intro j
    simp only [List.getElem?_take, Array.getElem?_toList]
    split
    · next hj => exact h4 j (by omega)
    · rfl
theorem grown_setCells (w : World) (g o : Nat) (vs : List Value) : w.grownBy (w.setCells g o vs) (some g) :=
  ⟨(setCells_same g vs o w).1, (setCells_same g vs o w).2.1, (setCells_same g vs o w).2.2.1, Nat.le_of_eq (setCells_same g vs o w).2.2.2.symm, fun k _ hk => setCells_far vs o k (fun e => hk (by rw [e]))⟩
theorem R_cells {α : Type} {d : Kd α} {e base g n c : Nat} {ok : Nat → Prop} {w : World} {xs : List α} (h : d.R e w base ok (.slice (some ⟨g, 0, none⟩) n c) xs) (o : Nat) (ho : o < xs.length * d.sz) : (w.cell? ⟨g, o, none⟩).isSome = true ∧ w.frozen? ⟨g, o, none⟩ = false := by
  obtain ⟨h0, inner, hown, hr⟩ := h
  rcases hown.2 with ⟨hv, _⟩ | ⟨g', cap, cur, hv, hb, hh, hnc, hcm, hcs, ht⟩
  · cases hv
  · injection hv with ha hn hc
    injection ha with ha
    injection ha with hg
    subst hg; subst hc
    have hlt : o < cur.size := by
      rw [hcs]
      exact Nat.lt_of_lt_of_le ho (Nat.mul_le_mul_right _ hnc)
    refine ⟨?_, blk_frozen hh o⟩
    rw [blk_cell hh o, Array.getElem?_eq_getElem hlt]; rfl
theorem add_off (g o n : Nat) : (⟨g, o, none⟩ : Addr).add n = ⟨g, o + n, none⟩ := add_at g o n
theorem zero_run {P : Program} {e : TypeId} {z : Value} {size bytes : Nat} (h : (P.info? e).map (fun i => (i.zero, i.size, i.bytes)) = some (some z, size, bytes)) (w : World) : (zeroValue e).run P w = .ok z w := by
  obtain ⟨i, hi, hz⟩ := Option.map_eq_some_iff.1 h
  simp only [Prod.mk.injEq] at hz
  simp [zeroValue, typeInfo, hi, hz.1]
def kRaw (β : Type) : Kd (List Value × β) := Kd.iso (Kd.raw 1) Prod.fst
theorem seg_one (l : List Value) (j : Nat) (u : Value) (h : l[j]? = some u) : (l.drop (j * 1)).take 1 = [u] := by
  rw [Nat.mul_one]
  obtain ⟨hj, rfl⟩ := List.getElem?_eq_some_iff.1 h
  rw [List.drop_eq_getElem_cons hj]; rfl
theorem raw_of_S {β : Type} {d : Kd β} {e base : Nat} {ok : Nat → Prop} {w : World} {v : Value} {xs : List β} (h : Kd.S d e w base ok v xs) (hs : d.sz = 1) :
    ∃ (f : Nat → Nat) (zs : List (List Value × β)), zs.map Prod.snd = xs ∧ Kd.R (kRaw β) e w base ok v zs ∧ ∀ m z, zs[m]? = some z → (Kd.tag f d).M w base (fun k => ok k ∧ some k ≠ v.ownBlock) (z.2, m) z.1 := by
  obtain ⟨f, h0, inner, ho, hr⟩ := h
  have hsz : (Kd.tag f d).sz = 1 := hs
  rw [hsz] at ho hr
  rw [List.length_zipIdx] at ho
  have hil : inner.length = xs.length := by have := hr.1; rw [List.length_zipIdx] at this; omega
  have hz : ∀ (m : Nat) (z : List Value × β), (List.zipWith (fun u x => ([u], x)) inner xs)[m]? = some z → ∃ (u : Value) (x : β), inner[m]? = some u ∧ xs[m]? = some x ∧ z = ([u], x) := by
    intro m z hm
    rw [List.getElem?_zipWith] at hm
    cases h1 : inner[m]? with
    | none => rw [h1] at hm; simp at hm
    | some u =>
      cases h2 : xs[m]? with
      | none => rw [h1, h2] at hm; simp at hm
      | some x => rw [h1, h2] at hm; simp at hm; exact ⟨u, x, rfl, rfl, hm.symm⟩
  have hM : ∀ (m : Nat) (z : List Value × β), (List.zipWith (fun u x => ([u], x)) inner xs)[m]? = some z → (Kd.tag f d).M w base (fun k => ok k ∧ some k ≠ v.ownBlock) (z.2, m) z.1 := by
    intro m z hm
    obtain ⟨u, x, h1, h2, rfl⟩ := hz m z hm
    have h3 := hr.2 m (x, m) (Kd.zip_at h2)
    rwa [seg_one inner m u h1] at h3
  have hlen : (List.zipWith (fun u x => ([u], x)) inner xs).length = xs.length := by rw [List.length_zipWith]; omega
  refine ⟨f, List.zipWith (fun u x => ([u], x)) inner xs, ?_, ⟨h0, inner, by rw [hlen]; exact ho, by rw [hlen]; show inner.length = xs.length * 1; omega, fun m z hm => ?_⟩, hM⟩
  · apply List.ext_getElem?
    intro m
    rw [List.getElem?_map, List.getElem?_zipWith]
    cases h2 : xs[m]? with
    | none => cases inner[m]? <;> rfl
    | some x =>
      have : m < inner.length := by rw [hil]; exact (List.getElem?_eq_some_iff.1 h2).1
      rw [List.getElem?_eq_getElem this]; rfl
  · obtain ⟨u, x, h1, h2, rfl⟩ := hz m z hm
    show (kRaw β).M w base _ ([u], x) ((inner.drop (m * 1)).take 1)
    rw [seg_one inner m u h1]
    exact ⟨rfl, rfl, (Kd.tag f d).K_one ((Kd.tag f d).K_of_M (hM m _ hm))⟩
theorem filter_at {α : Type} (q : α → Bool) : ∀ (l : List α) (j : Nat) (z : α), (l.filter q)[j]? = some z → ∃ m, l[m]? = some z ∧ ((l.take m).filter q).length = j
  | [], j, z, h => by simp at h
  | x :: l, j, z, h => by
    by_cases hq : q x = true
    · rw [List.filter_cons, if_pos hq] at h
      cases j with
      | zero => exact ⟨0, by simpa using h, rfl⟩
      | succ j =>
        obtain ⟨m, h1, h2⟩ := filter_at q l j z (by simpa using h)
        exact ⟨m + 1, by simpa using h1, by rw [List.take_succ_cons, List.filter_cons, if_pos hq, List.length_cons, h2]⟩
    · rw [List.filter_cons, if_neg hq] at h
      obtain ⟨m, h1, h2⟩ := filter_at q l j z h
      exact ⟨m + 1, by simpa using h1, by rw [List.take_succ_cons, List.filter_cons, if_neg hq, h2]⟩
theorem S_of_raw {β : Type} {d : Kd β} (hs : d.sz = 1) {e base : Nat} {ok ok' : Nat → Prop} {w : World} {v : Value} {f : Nat → Nat} {zs : List (List Value × β)} (q : List Value × β → Bool)
    (hM : ∀ m z, zs[m]? = some z → (Kd.tag f d).M w base ok' (z.2, m) z.1) (hok : ∀ k, ok' k → ok k ∧ some k ≠ v.ownBlock) (h : Kd.R (kRaw β) e w base ok v (zs.filter q)) : Kd.S d e w base ok v ((zs.filter q).map Prod.snd) := by
  obtain ⟨h0, inner, ho, hr⟩ := h
  have hl : ((zs.filter q).map Prod.snd).zipIdx.length = (zs.filter q).length := by rw [List.length_zipIdx, List.length_map]
  refine ⟨fun k => ((zs.take (f k)).filter q).length, h0, inner, by rw [hl]; show w.ownsRow base e d.sz v _ inner; rw [hs]; exact ho, by rw [hl]; show inner.length = _ * d.sz; rw [hs]; exact hr.1, fun j y hj => ?_⟩
  rw [List.getElem?_zipIdx, Nat.zero_add] at hj
  obtain ⟨x, hx, rfl⟩ := Option.map_eq_some_iff.1 hj
  rw [List.getElem?_map] at hx
  obtain ⟨z, hz, rfl⟩ := Option.map_eq_some_iff.1 hx
  obtain ⟨m, h1, h2⟩ := filter_at q zs j z hz
  have hraw : (inner.drop (j * 1)).take 1 = z.1 := (hr.2 j z hz).1
  show (Kd.tag _ d).M w base _ (z.2, j) ((inner.drop (j * d.sz)).take d.sz)
  rw [hs, hraw]
  refine d.M_mono (fun k hk => ⟨hok k hk.1, ?_⟩) (hM m z h1)
  have h3 : f k = m := hk.2
  show ((zs.take (f k)).filter q).length = j
  rw [h3]; exact h2
set_option maxHeartbeats 8000000 in
set_option maxRecDepth 100000 in
theorem ixfI2_calls (p : List Int → Bool) (g : Nat) (lb : Array Value) (eg : ∀ args w, (callFunc g args).run Try.prog w = .ok (.enter g args) w)
    (A0 : Option Addr) (c0 : Nat) (zs : List (List Value × List Int)) (w : World) (hp : ∀ (W : World) (z : List Value × List Int), z ∈ zs → Below w.heap.size w W → ∃ A' c', z.1 = [.slice A' z.2.length c'] ∧ Calls Try.prog g (#[.slice A' z.2.length c'] ++ lb) W fun e w' => e = .returned (.bool (p z.2)) ∧ Below w.heap.size w w') (hr0 : Kd.C (kRaw (List Int)) w A0 zs.length zs) :
    Calls Try.prog 56 #[.slice A0 zs.length c0, .func (.func g) #[] lb] w fun e w' => e = .returned (.int .i64 (fIx (fun z : List Value × List Int => p z.2) zs 0)) ∧ Below w.heap.size w w' := by
  have hm : zs.length ≤ 9223372036854775807 := Kd.C_max hr0
  have HR0 := Aside0.mk hr0
  have HP := Aside0.mk hp
  clear hr0 hp
  have HB := Aside0.mk (Below.refl w.heap.size w)
  have H0 := Aside0.mk (show fIx (fun z : List Value × List Int => p z.2) zs 0 = fIx (fun z : List Value × List Int => p z.2) (zs.drop 0) ((0 : Nat) : Int) from rfl)
  go_enter Try.func56, Try.ntmps56
  go_wp2
  go_loopg [5, 8] zs.length (fun gg _ s8 wr => ∃ kk : Nat, kk ≤ zs.length ∧ zs.length - kk ≤ gg ∧ s8 = .int .i64 kk ∧ Aside0 (Below w.heap.size w wr) ∧ Aside0 (fIx (fun z : List Value × List Int => p z.2) zs 0 = fIx (fun z : List Value × List Int => p z.2) (zs.drop kk) kk))
  case atStart => exact ⟨0, Nat.zero_le _, by omega, rfl, HB, H0⟩
  case round =>
    clear HB H0
    obtain ⟨kk, hkk, hg, rfl, HB, HI⟩ := hrel
    by_cases hlt : kk < zs.length
    · have hltz : (kk : Int) < (zs.length : Int) := by omega
      obtain ⟨z, hz⟩ : ∃ z, zs[kk]? = some z := ⟨zs[kk], List.getElem?_eq_getElem hlt⟩
      have hdz : zs.drop kk = z :: zs.drop (kk + 1) := by
        rw [List.drop_eq_getElem_cons hlt]
        rw [List.getElem?_eq_getElem hlt] at hz
        injection hz with hz
        rw [hz]
      obtain ⟨A', c', ez, hcall⟩ := HP.out wr z (List.mem_of_getElem? hz) HB.out
      obtain ⟨ad, ce, e_, hcl, hK, hcc⟩ := Kd.C_get HR0.out z (kk : Int) (by omega) hltz
      have ey : zs.getD (kk : Int).toNat z = z := by simp [List.getD, hz]
      rw [ey] at hK
      obtain ⟨rfl, -, -⟩ := hK
      subst e_
      have hx0 : w.cell? (ad.add ((kk : Int).toNat * 1 + 0)) = some (.slice A' z.2.length c') := hcc 0 _ (by rw [ez]; rfl)
      simp only [Int.toNat_natCast, Nat.mul_one, Nat.add_zero] at hx0
      replace hx0 := (HB.out.cell (World.block_lt_of_cell? w _ hx0)).trans hx0
      have HDZ := Aside0.mk hdz
      clear hcl hcc hz ez ey hdz
      cases hq : p z.2 with
      | true =>
        rw [hq] at hcall
        have HQ := Aside0.mk hq
        clear hq
        go_wp2_with (go_at_fn g; refine hcall.mono ?_; rintro e w' ⟨rfl, hb'⟩)
        go_ret
        exact ⟨by rw [HI.out, HDZ.out, fIx, if_pos HQ.out]; rfl, hb'⟩
      | false =>
        rw [hq] at hcall
        have HQ := Aside0.mk hq
        clear hq
        go_wp2_with (go_at_fn g; refine hcall.mono ?_; rintro e w' ⟨rfl, hb'⟩)
        go_roundg (zs.length - (kk + 1))
        case measure => omega
        case rel => exact ⟨kk + 1, by omega, by omega, by go_num, ⟨hb'⟩, ⟨by rw [HI.out, HDZ.out, fIx, if_neg (by rw [HQ.out]; decide)]; rfl⟩⟩
    · have hltz : ¬ (kk : Int) < (zs.length : Int) := by omega
      have HDZ := Aside0.mk (List.drop_eq_nil_of_le (by omega : zs.length ≤ kk))
      go_wp2
      go_ret
      exact ⟨by rw [HI.out, HDZ.out]; rfl, HB.out⟩
end Go.Proofs.Ytidkoannjealfaa.P
namespace Go.Proofs.Ytidkoannjealfaa.P
open Go.RowKit Go.Proofs.YtidkoannjealfaaW.PrintWords Go.Proofs.YtidkoannjealfaaW.PrintLast Go.Proofs.YtidkoannjealfaaW.PrintMore
attribute [local go_sem] max2_int min2_int max_two min_two max_three min_three max_four min_four
set_option linter.unusedVariables false
set_option linter.unusedSimpArgs false
theorem fIx_any {α : Type} (p : α → Bool) : ∀ (l : List α) (i : Int), 0 ≤ i → decide (0 ≤ fIx p l i) = l.any p
  | [], _, _ => by simp [fIx]
  | x :: l, i, hi => by
    rw [fIx, List.any_cons]
    cases hx : p x with
    | true => simp [hi]
    | false => simpa using fIx_any p l (i + 1) (by omega)
set_option maxHeartbeats 8000000 in
set_option maxRecDepth 100000 in
theorem cfI2_calls (p : List Int → Bool) (g : Nat) (lb : Array Value) (eg : ∀ args w, (callFunc g args).run Try.prog w = .ok (.enter g args) w)
    (A0 : Option Addr) (c0 : Nat) (zs : List (List Value × List Int)) (w : World) (hp : ∀ (W : World) (z : List Value × List Int), z ∈ zs → Below w.heap.size w W → ∃ A' c', z.1 = [.slice A' z.2.length c'] ∧ Calls Try.prog g (#[.slice A' z.2.length c'] ++ lb) W fun e w' => e = .returned (.bool (p z.2)) ∧ Below w.heap.size w w') (hr0 : Kd.C (kRaw (List Int)) w A0 zs.length zs) :
    Calls Try.prog 45 #[.slice A0 zs.length c0, .func (.func g) #[] lb] w fun e w' => e = .returned (.bool ((zs.map Prod.snd).any p)) ∧ Below w.heap.size w w' := by
  rw [List.any_map, show (p ∘ Prod.snd) = (fun z : List Value × List Int => p z.2) from rfl, ← fIx_any (fun z : List Value × List Int => p z.2) zs 0 (by omega)]
  have hcall := Aside0.mk (ixfI2_calls p g lb eg A0 c0 zs w hp hr0)
  clear hp hr0
  go_enter Try.func45, Try.ntmps45
  go_wp2_with (go_at_call 56; refine hcall.out.mono ?_; rintro e w' ⟨rfl, hb'⟩)
  go_ret
  exact ⟨rfl, hb'⟩
theorem rows_of_S {base : Nat} {ok : Nat → Prop} {w : World} {A : Option Addr} {n c : Nat} {xs : List (List Int)} (h : Kd.S (Kd.slice 3 (Kd.int .i64)) 32 w base ok (.slice A n c) xs) :
    ∃ zs : List (List Value × List Int), zs.map Prod.snd = xs ∧ Kd.C (kRaw (List Int)) w A zs.length zs ∧ ∀ z ∈ zs, ∃ A' c', z.1 = [.slice A' z.2.length c'] ∧ Kd.C (Kd.int .i64) w A' z.2.length z.2 ∧ z.2.length ≤ c' := by
  obtain ⟨f, zs, h1, h2, h3⟩ := raw_of_S h rfl
  have h4 := Kd.R_reads' h2
  refine ⟨zs, h1, h4.1 ▸ h4.2.2, fun z hz => ?_⟩
  obtain ⟨m, hm⟩ := List.getElem?_of_mem hz
  obtain ⟨vr, e, hR⟩ := h3 m z hm
  obtain ⟨A', c', e2⟩ := Kd.R_slice hR
  subst e2
  have h5 := Kd.R_reads' hR
  exact ⟨A', c', e, h5.2.2, h5.2.1⟩
end Go.Proofs.Ytidkoannjealfaa.P
namespace Go.Proofs.Ytidkoannjealfaa.P
open Go.RowKit Go.Proofs.YtidkoannjealfaaW.PrintWords Go.Proofs.YtidkoannjealfaaW.PrintLast Go.Proofs.YtidkoannjealfaaW.PrintMore
attribute [local go_sem] max2_int min2_int max_two min_two max_three min_three max_four min_four
set_option linter.unusedVariables false
set_option linter.unusedSimpArgs false
def oddPart (f : List Int) : Bool := Int.tmod (rd f 0) 4 == 3 && Int.tmod (rd f 1) 2 == 1
def impl_isSumOfTwo.f (k : Nat) (a0 : Int) : Option Bool := (impl_factors.f k a0).bind fun L => if (L.all fun f => decide (2 ≤ f.length)) = true then some (!(L.any oddPart)) else none
set_option maxHeartbeats 8000000 in
set_option maxRecDepth 100000 in
theorem isTwo1_calls (f : List Int) (A' : Option Addr) (c' : Nat) (W : World) (hC : Kd.C (Kd.int .i64) W A' f.length f) (hl : 2 ≤ f.length) :
    Calls Try.prog 46 #[.slice A' f.length c'] W fun e w' => e = .returned (.bool (oddPart f)) ∧ Below W.heap.size W w' := by
  obtain ⟨ad, e0, hx0⟩ := Kd.at_int hC 0 (by omega) (by omega)
  obtain ⟨ad1, e1, hx1⟩ := Kd.at_int hC 1 (by omega) (by omega)
  subst e0
  obtain rfl : ad = ad1 := (Option.some.inj e1)
  clear e1
  simp only [Int.toNat_zero, Int.toNat_one, Addr.add_zero'] at hx0 hx1
  have hp0 : 0 < (f.length : Int) := by omega
  have hp1 : 1 < (f.length : Int) := by omega
  obtain ⟨p, hp⟩ : ∃ p, p = rd f 0 := ⟨_, rfl⟩
  obtain ⟨q, hq⟩ : ∃ q, q = rd f 1 := ⟨_, rfl⟩
  have HO := Aside0.mk (show oddPart f = (Int.tmod p 4 == 3 && Int.tmod q 2 == 1) by rw [hp, hq]; rfl)
  rw [← hp] at hx0
  rw [← hq, show ad.add 1 = ⟨ad.block, ad.off + 1, none⟩ from rfl] at hx1
  rw [HO.out]
  clear hp hq HO hC
  go_enter Try.func46, Try.ntmps46
  cases hc : (Int.tmod p 4 == 3) with
  | true =>
    go_wp2
    go_ret
    exact ⟨rfl, Below.refl _ _⟩
  | false =>
    go_wp2
    go_ret
    exact ⟨rfl, Below.refl _ _⟩
set_option maxHeartbeats 8000000 in
set_option maxRecDepth 100000 in
theorem impl_isSumOfTwo.calls (k : Nat) (a0 : Int) (r : Bool) (w : World) (h : impl_isSumOfTwo.f k a0 = some r) :
    Calls Try.prog 32 #[.int .i64 a0] w fun e w' => e = .returned (.bool r) ∧ Below w.heap.size w w' := by
  unfold impl_isSumOfTwo.f at h
  replace h := Option.bind_eq_some_iff.mp h
  obtain ⟨L, A1, h⟩ := h
  have A1 := Aside0.mk A1
  by_cases hc : (L.all fun f => decide (2 ≤ f.length)) = true
  case neg => rw [if_neg hc] at h; exact absurd h (by simp)
  rw [if_pos hc] at h
  have HL := Aside0.mk (show ∀ f ∈ L, 2 ≤ f.length from fun f hf => of_decide_eq_true (List.all_eq_true.1 hc f hf))
  have HF := Aside0.mk (show (!(L.any oddPart)) = r from Option.some.inj h)
  clear h hc
  rw [← HF.out]
  clear HF
  obtain ⟨b, hb⟩ : ∃ b, b = L.any oddPart := ⟨_, rfl⟩
  rw [← hb]
  have HBB := Aside0.mk hb
  clear hb
  go_enter Try.func32, Try.ntmps32
  go_wp2_with (first
    | ((with_reducible refine gate_callee (f := 43) rfl ?_); refine goesL_ (some 4) rfl rfl Try.func43 (by kernel_rfl) rfl #[.int .i64 a0] rfl (by (try simp only [List.map_toArray, List.map_cons, List.map_nil]); first | done | rfl) ?_; (with_reducible refine (impl_factors.calls k _ L _ A1.out).mono ?_); rintro e w4 ⟨v4, rfl, hS4, hb4⟩; refine ⟨_, rfl, ?_⟩; have HS4 := Aside0.mk hS4; have HB4 := Aside0.mk hb4; obtain ⟨A4, c4, e4⟩ := Kd.S_slice hS4; subst e4; clear hS4 hb4)
    | (go_at_call 45; obtain ⟨zs, hz1, hz2, hz3⟩ := rows_of_S HS4.out; rw [show L.length = zs.length by rw [← hz1, List.length_map]]; refine (cfI2_calls oddPart 46 #[] (fun args w => by kernel_rfl) A4 c4 zs _ ?hp hz2).mono ?_; (case hp => intro W z hz hb; obtain ⟨A', c', e1, hC, hc'⟩ := hz3 z hz; exact ⟨A', c', e1, (isTwo1_calls z.2 A' c' W (Kd.C_below hC hb) (HL.out z.2 (by rw [← hz1]; exact List.mem_map_of_mem hz))).mono fun e w' ⟨he, hb2⟩ => ⟨he, below_step hb hb2⟩⟩); rintro e w5 ⟨rfl, hb5⟩; rw [hz1, ← HBB.out]; have HB5 := Aside0.mk hb5; clear hb5 hz1 hz2 hz3))
  go_ret
  exact ⟨rfl, below_step HB4.out HB5.out⟩
end Go.Proofs.Ytidkoannjealfaa.P
namespace Go.Proofs.Ytidkoannjealfaa.P
open Go.RowKit Go.Proofs.YtidkoannjealfaaW.PrintWords Go.Proofs.YtidkoannjealfaaW.PrintLast Go.Proofs.YtidkoannjealfaaW.PrintMore
attribute [local go_sem] max2_int min2_int max_two min_two max_three min_three max_four min_four
set_option linter.unusedVariables false
set_option linter.unusedSimpArgs false
def impl_IsSumOfTwo.f (k : Nat) (a0 : Int) : Option (Bool × Bool) := (impl_isAsked.f a0).bind fun t101 => (if t101 = true then ((impl_isSumOfTwo.f k a0).bind fun t102 => (some (t102, true))) else (some (false, false)))
set_option maxHeartbeats 8000000 in
set_option maxRecDepth 100000 in
theorem impl_IsSumOfTwo.calls (k : Nat) (a0 : Int) (r1 : Bool) (r2 : Bool) (w : World) (h : impl_IsSumOfTwo.f k a0 = some (r1, r2)) :
  Calls Try.prog 10 #[.int .i64 a0] w fun e w' => e = .returned (.tuple #[.bool r1, .bool r2]) ∧ Below w.heap.size w w' := by
 have HB := Aside0.mk (Below.refl w.heap.size w)
 have H : ((impl_isAsked.f a0).bind fun t101 => (if t101 = true then ((impl_isSumOfTwo.f k a0).bind fun t102 => (some (t102, true))) else (some (false, false)))) = some (r1, r2) := h
 clear h
 obtain ⟨t101, A2, H⟩ := obnd_ H
 (try dsimp only at H)
 by_cases c3 : t101 = true
 ·subst c3
  rw [if_pos rfl] at H
  obtain ⟨t102, A4, H⟩ := obnd_ H
  (try dsimp only at H)
  simp only [Option.some.injEq, Prod.mk.injEq] at H
  obtain ⟨rfl, rfl⟩ := H
  go_enter Try.func10, Try.ntmps10
  go_wp2_with (first | ((with_reducible refine gate_callee (f := 27) rfl ?_); refine goesL_ (some 5) rfl rfl Try.func27 (by kernel_rfl) rfl #[.int .i64 a0] rfl k20_ ?_; (with_reducible refine (impl_isAsked.calls a0 true _ A2.out).mono ?_); rintro e w' ⟨rfl, ⟨nd, rfl⟩⟩; refine ⟨_, rfl, ?_⟩) | ((with_reducible refine gate_callee (f := 32) rfl ?_); refine goesL_ (some 8) rfl rfl Try.func32 (by kernel_rfl) rfl #[.int .i64 a0] rfl k20_ ?_; (with_reducible refine (impl_isSumOfTwo.calls k a0 t102 _ A4.out).mono ?_); rintro e w5 ⟨rfl, hb⟩; refine ⟨_, rfl, ?_⟩; replace HB := HB.mw hb; (try clear hb)))
  go_ret2
  exact ⟨k22_, k23_⟩
 ·replace c3 := Bool.eq_false_iff.mpr c3
  subst c3
  rw [if_neg (show ¬ (false = true) by decide)] at H
  simp only [Option.some.injEq, Prod.mk.injEq] at H
  obtain ⟨rfl, rfl⟩ := H
  go_enter Try.func10, Try.ntmps10
  go_wp2_with (first | ((with_reducible refine gate_callee (f := 27) rfl ?_); refine goesL_ (some 5) rfl rfl Try.func27 (by kernel_rfl) rfl #[.int .i64 a0] rfl k20_ ?_; (with_reducible refine (impl_isAsked.calls a0 false _ A2.out).mono ?_); rintro e w' ⟨rfl, ⟨nd, rfl⟩⟩; refine ⟨_, rfl, ?_⟩))
  go_ret2
  exact ⟨k22_, k23_⟩
end Go.Proofs.Ytidkoannjealfaa.P
namespace Go.Proofs.Ytidkoannjealfaa.P
open Go.RowKit Go.Proofs.YtidkoannjealfaaW.PrintWords Go.Proofs.YtidkoannjealfaaW.PrintLast Go.Proofs.YtidkoannjealfaaW.PrintMore
attribute [local go_sem] max2_int min2_int max_two min_two max_three min_three max_four min_four
set_option linter.unusedVariables false
set_option linter.unusedSimpArgs false
def spec_l1In.f (a0 : Int) (a1 : Int) (a2 : Int) : Option (Bool) := if a0 ≥ a1 then (some (decide (a0 ≤ a2))) else (some false)
set_option maxHeartbeats 8000000 in
set_option maxRecDepth 100000 in
theorem spec_l1In.calls (a0 : Int) (a1 : Int) (a2 : Int) (r : Bool) (w : World) (h : spec_l1In.f a0 a1 a2 = some r) :
  Calls Try.prog 34 #[.int .i64 a0, .int .i64 a1, .int .i64 a2] w fun e w' => e = .returned (.bool r) ∧ Drawn0 w w' := by
 have H : (if a0 ≥ a1 then (some (decide (a0 ≤ a2))) else (some false)) = some r := h
 clear h
 by_cases c4 : a0 ≥ a1
 ·rw [if_pos c4] at H
  have c4b0 : decide (a1 ≤ a0) = true := decide_eq_true c4
  clear c4
  obtain rfl := Option.some.inj H
  go_enter Try.func34, Try.ntmps34
  go_wp2
  go_ret
  exact ⟨k32_, k30_⟩
 ·rw [if_neg c4] at H
  have c4b0 : decide (a1 ≤ a0) = false := decide_eq_false c4
  clear c4
  obtain rfl := Option.some.inj H
  go_enter Try.func34, Try.ntmps34
  go_wp2
  go_ret
  exact ⟨k32_, k30_⟩
end Go.Proofs.Ytidkoannjealfaa.P
namespace Go.Proofs.Ytidkoannjealfaa.P
open Go.RowKit Go.Proofs.YtidkoannjealfaaW.PrintWords Go.Proofs.YtidkoannjealfaaW.PrintLast Go.Proofs.YtidkoannjealfaaW.PrintMore
attribute [local go_sem] max2_int min2_int max_two min_two max_three min_three max_four min_four
set_option linter.unusedVariables false
set_option linter.unusedSimpArgs false
def spec_sqGood.f (a0 : Int) : Option (Bool) := (spec_l1In.f a0 1 100000).bind fun t101 => (some t101)
set_option maxHeartbeats 8000000 in
set_option maxRecDepth 100000 in
theorem spec_sqGood.calls (a0 : Int) (r : Bool) (w : World) (h : spec_sqGood.f a0 = some r) :
  Calls Try.prog 29 #[.int .i64 a0] w fun e w' => e = .returned (.bool r) ∧ Drawn0 w w' := by
 have H : ((spec_l1In.f a0 1 100000).bind fun t101 => (some t101)) = some r := h
 clear h
 obtain ⟨t101, A2, H⟩ := obnd_ H
 (try dsimp only at H)
 obtain rfl := Option.some.inj H
 go_enter Try.func29, Try.ntmps29
 go_wp2_with (first | ((with_reducible refine gate_callee (f := 34) rfl ?_); refine goesL_ (some 4) rfl rfl Try.func34 (by kernel_rfl) rfl #[.int .i64 a0, .int .i64 1, .int .i64 100000] rfl k20_ ?_; (with_reducible refine (spec_l1In.calls a0 1 100000 t101 _ A2.out).mono ?_); rintro e w' ⟨rfl, ⟨nd, rfl⟩⟩; refine ⟨_, rfl, ?_⟩))
 go_ret
 exact ⟨k32_, k30_⟩
end Go.Proofs.Ytidkoannjealfaa.P
namespace Go.Proofs.Ytidkoannjealfaa.P
open Go.RowKit Go.Proofs.YtidkoannjealfaaW.PrintWords Go.Proofs.YtidkoannjealfaaW.PrintLast Go.Proofs.YtidkoannjealfaaW.PrintMore
attribute [local go_sem] max2_int min2_int max_two min_two max_three min_three max_four min_four
set_option linter.unusedVariables false
set_option linter.unusedSimpArgs false
mutual
def spec_sqTwo.l0 : Nat → Int → Int → Option (Bool)
 | 0, _, _ => none
 | k + 1, x0, x3 => if (wrap64 (x3 * x3)) ≤ x0 then (spec_sqTwo.l1 k x0 x3 0) else (some ((Int.tmod x0 4) != 3))
def spec_sqTwo.l1 : Nat → Int → Int → Int → Option (Bool)
 | 0, _, _, _ => none
 | k + 1, x0, x3, x4 => if x3 = 0 then (none) else (if (Int.tmod x0 x3) = 0 then (spec_sqTwo.l1 k (wrap64 (Int.tdiv x0 x3)) x3 (wrap64 (x4 + 1))) else (if (Int.tmod x3 4) = 3 then (if (Int.tmod x4 2) = 1 then (some false) else (spec_sqTwo.l0 k x0 (wrap64 (x3 + 1)))) else (spec_sqTwo.l0 k x0 (wrap64 (x3 + 1)))))
end
def spec_sqTwo.f (k : Nat) (a0 : Int) : Option (Bool) := spec_sqTwo.l0 k a0 2
set_option maxHeartbeats 8000000 in
set_option maxRecDepth 100000 in
theorem spec_sqTwo.calls (k : Nat) (a0 : Int) (r : Bool) (w : World) (h : spec_sqTwo.f k a0 = some r) :
  Calls Try.prog 33 #[.int .i64 a0] w fun e w' => e = .returned (.bool r) ∧ Drawn0 w w' := by
 have H : (spec_sqTwo.l0 k a0 2) = some r := h
 clear h
 have H' := Aside0.mk H
 clear H
 go_enter Try.func33, Try.ntmps33
 go_wp2
 go_loopg [0, 3] k (fun kq v0 v3 w' => ∃ (x0_1 : Int) (x3_1 : Int), v0 = .int .i64 x0_1 ∧ v3 = .int .i64 x3_1 ∧ Aside0 (spec_sqTwo.l0 kq x0_1 x3_1 = some r) ∧ Aside0 (kq ≤ k) ∧ Drawn0 w w')
 case atStart => exact ⟨(a0), (2), k32_, k32_, H', ⟨Nat.le_refl _⟩, k30_⟩
 case round =>
  clear H'
  obtain ⟨x0_1, x3_1, rfl, rfl, HA, HK1, ⟨m1, rfl⟩⟩ := hrel
  cases gk with
  | zero => exact absurd HA.out (by simp [spec_sqTwo.l0])
  | succ k1 =>
   have H := HA.out
   clear HA
   simp only [spec_sqTwo.l0] at H
   by_cases c2 : (wrap64 (x3_1 * x3_1)) ≤ x0_1
   ·rw [if_pos c2] at H
    have c2b0 : decide ((wrap64 (x3_1 * x3_1)) ≤ x0_1) = true := decide_eq_true c2
    clear c2
    have H' := Aside0.mk H
    clear H
    go_wp2
    go_loopg [0, 4] k1 (fun kq v0 v4 w' => ∃ (x0_2 : Int) (x4_2 : Int), v0 = .int .i64 x0_2 ∧ v4 = .int .i64 x4_2 ∧ Aside0 (spec_sqTwo.l1 kq x0_2 x3_1 x4_2 = some r) ∧ Aside0 (kq ≤ k1) ∧ Drawn0 w w')
    case atStart => exact ⟨(x0_1), (0), k32_, k32_, H', ⟨Nat.le_refl _⟩, k30_⟩
    case round =>
     clear H'
     (try clear c2); (try clear c2b0)
     obtain ⟨x0_2, x4_2, rfl, rfl, HA, HK2, ⟨m2, rfl⟩⟩ := hrel
     cases gk with
     | zero => exact absurd HA.out (by simp [spec_sqTwo.l1])
     | succ k2 =>
      have H := HA.out
      clear HA
      simp only [spec_sqTwo.l1] at H
      by_cases c3 : x3_1 = 0
      ·rw [if_pos c3] at H
       exact absurd H (by simp)
      ·rw [if_neg c3] at H
       have c3b0 : (x3_1 == 0) = false := beq_eq_false_iff_ne.mpr c3
       have c3b1 : (x3_1 != 0) = true := bne_iff_ne.mpr c3
       by_cases c4 : (Int.tmod x0_2 x3_1) = 0
       ·rw [if_pos c4] at H
        have c4b0 : ((Int.tmod x0_2 x3_1) == 0) = true := beq_iff_eq.mpr c4
        have c4b1 : ((Int.tmod x0_2 x3_1) != 0) = false := bne_eq_false_iff_eq.mpr c4
        clear c4
        have H' := Aside0.mk H
        clear H
        go_wp2
        go_roundg k2
        case measure => have := HK1.out; have := HK2.out; omega
        case rel => exact ⟨(wrap64 (Int.tdiv x0_2 x3_1)), (wrap64 (x4_2 + 1)), k32_, k32_, H', ⟨by have := HK1.out; have := HK2.out; omega⟩, k30_⟩
       ·rw [if_neg c4] at H
        have c4b0 : ((Int.tmod x0_2 x3_1) == 0) = false := beq_eq_false_iff_ne.mpr c4
        have c4b1 : ((Int.tmod x0_2 x3_1) != 0) = true := bne_iff_ne.mpr c4
        by_cases c5 : (Int.tmod x3_1 4) = 3
        ·rw [if_pos c5] at H
         have c5b0 : ((Int.tmod x3_1 4) == 3) = true := beq_iff_eq.mpr c5
         have c5b1 : ((Int.tmod x3_1 4) != 3) = false := bne_eq_false_iff_eq.mpr c5
         clear c5
         by_cases c6 : (Int.tmod x4_2 2) = 1
         ·rw [if_pos c6] at H
          have c6b0 : ((Int.tmod x4_2 2) == 1) = true := beq_iff_eq.mpr c6
          have c6b1 : ((Int.tmod x4_2 2) != 1) = false := bne_eq_false_iff_eq.mpr c6
          clear c6
          obtain rfl := Option.some.inj H
          go_wp2
          go_ret
          exact ⟨k32_, k30_⟩
         ·rw [if_neg c6] at H
          have c6b0 : ((Int.tmod x4_2 2) == 1) = false := beq_eq_false_iff_ne.mpr c6
          have c6b1 : ((Int.tmod x4_2 2) != 1) = true := bne_iff_ne.mpr c6
          have H' := Aside0.mk H
          clear H
          go_wp2
          go_roundg k2
          case measure => have := HK1.out; have := HK2.out; omega
          case rel => exact ⟨(x0_2), (wrap64 (x3_1 + 1)), k32_, k32_, H', ⟨by have := HK1.out; have := HK2.out; omega⟩, k30_⟩
        ·rw [if_neg c5] at H
         have c5b0 : ((Int.tmod x3_1 4) == 3) = false := beq_eq_false_iff_ne.mpr c5
         have c5b1 : ((Int.tmod x3_1 4) != 3) = true := bne_iff_ne.mpr c5
         have H' := Aside0.mk H
         clear H
         go_wp2
         go_roundg k2
         case measure => have := HK1.out; have := HK2.out; omega
         case rel => exact ⟨(x0_2), (wrap64 (x3_1 + 1)), k32_, k32_, H', ⟨by have := HK1.out; have := HK2.out; omega⟩, k30_⟩
   ·rw [if_neg c2] at H
    have c2b0 : decide ((wrap64 (x3_1 * x3_1)) ≤ x0_1) = false := decide_eq_false c2
    clear c2
    obtain rfl := Option.some.inj H
    go_wp2
    go_ret
    exact ⟨k32_, k30_⟩
end Go.Proofs.Ytidkoannjealfaa.P
namespace Go.Proofs.Ytidkoannjealfaa.P
open Go.RowKit Go.Proofs.YtidkoannjealfaaW.PrintWords Go.Proofs.YtidkoannjealfaaW.PrintLast Go.Proofs.YtidkoannjealfaaW.PrintMore
attribute [local go_sem] max2_int min2_int max_two min_two max_three min_three max_four min_four
set_option linter.unusedVariables false
set_option linter.unusedSimpArgs false
def spec_IsSumOfTwo.f (k : Nat) (a0 : Int) : Option (Bool × Bool) := (spec_sqGood.f a0).bind fun t101 => (if t101 = true then ((spec_sqTwo.f k a0).bind fun t102 => (some (t102, true))) else (some (false, false)))
set_option maxHeartbeats 8000000 in
set_option maxRecDepth 100000 in
theorem spec_IsSumOfTwo.calls (k : Nat) (a0 : Int) (r1 : Bool) (r2 : Bool) (w : World) (h : spec_IsSumOfTwo.f k a0 = some (r1, r2)) :
  Calls Try.prog 11 #[.int .i64 a0] w fun e w' => e = .returned (.tuple #[.bool r1, .bool r2]) ∧ Drawn0 w w' := by
 have H : ((spec_sqGood.f a0).bind fun t101 => (if t101 = true then ((spec_sqTwo.f k a0).bind fun t102 => (some (t102, true))) else (some (false, false)))) = some (r1, r2) := h
 clear h
 obtain ⟨t101, A2, H⟩ := obnd_ H
 (try dsimp only at H)
 by_cases c3 : t101 = true
 ·subst c3
  rw [if_pos rfl] at H
  obtain ⟨t102, A4, H⟩ := obnd_ H
  (try dsimp only at H)
  simp only [Option.some.injEq, Prod.mk.injEq] at H
  obtain ⟨rfl, rfl⟩ := H
  go_enter Try.func11, Try.ntmps11
  go_wp2_with (first | ((with_reducible refine gate_callee (f := 29) rfl ?_); refine goesL_ (some 5) rfl rfl Try.func29 (by kernel_rfl) rfl #[.int .i64 a0] rfl k20_ ?_; (with_reducible refine (spec_sqGood.calls a0 true _ A2.out).mono ?_); rintro e w' ⟨rfl, ⟨nd, rfl⟩⟩; refine ⟨_, rfl, ?_⟩) | ((with_reducible refine gate_callee (f := 33) rfl ?_); refine goesL_ (some 8) rfl rfl Try.func33 (by kernel_rfl) rfl #[.int .i64 a0] rfl k20_ ?_; (with_reducible refine (spec_sqTwo.calls k a0 t102 _ A4.out).mono ?_); rintro e w' ⟨rfl, ⟨nd, rfl⟩⟩; refine ⟨_, rfl, ?_⟩))
  go_ret2
  exact ⟨k32_, k30_⟩
 ·replace c3 := Bool.eq_false_iff.mpr c3
  subst c3
  rw [if_neg (show ¬ (false = true) by decide)] at H
  simp only [Option.some.injEq, Prod.mk.injEq] at H
  obtain ⟨rfl, rfl⟩ := H
  go_enter Try.func11, Try.ntmps11
  go_wp2_with (first | ((with_reducible refine gate_callee (f := 29) rfl ?_); refine goesL_ (some 5) rfl rfl Try.func29 (by kernel_rfl) rfl #[.int .i64 a0] rfl k20_ ?_; (with_reducible refine (spec_sqGood.calls a0 false _ A2.out).mono ?_); rintro e w' ⟨rfl, ⟨nd, rfl⟩⟩; refine ⟨_, rfl, ?_⟩))
  go_ret2
  exact ⟨k32_, k30_⟩
end Go.Proofs.Ytidkoannjealfaa.P
namespace Go.Proofs.Ytidkoannjealfaa.P
open Go.RowKit Go.Proofs.YtidkoannjealfaaW.PrintWords Go.Proofs.YtidkoannjealfaaW.PrintLast Go.Proofs.YtidkoannjealfaaW.PrintMore
attribute [local go_sem] max2_int min2_int max_two min_two max_three min_three max_four min_four
set_option linter.unusedVariables false
set_option linter.unusedSimpArgs false
def impl_IsSumOfThree.l0 : Nat → Int → Option (Bool × Bool)
 | 0, _ => none
 | k + 1, x0 => if (Int.tmod x0 4) = 0 then (impl_IsSumOfThree.l0 k (wrap64 (Int.tdiv x0 4))) else (some (((Int.tmod x0 8) != 7), true))
def impl_IsSumOfThree.f (k : Nat) (a0 : Int) : Option (Bool × Bool) := (impl_isAsked.f a0).bind fun t101 => (if t101 = true then (impl_IsSumOfThree.l0 k a0) else (some (false, false)))
set_option maxHeartbeats 8000000 in
set_option maxRecDepth 100000 in
theorem impl_IsSumOfThree.calls (k : Nat) (a0 : Int) (r1 : Bool) (r2 : Bool) (w : World) (h : impl_IsSumOfThree.f k a0 = some (r1, r2)) :
  Calls Try.prog 12 #[.int .i64 a0] w fun e w' => e = .returned (.tuple #[.bool r1, .bool r2]) ∧ Drawn0 w w' := by
 have H : ((impl_isAsked.f a0).bind fun t101 => (if t101 = true then (impl_IsSumOfThree.l0 k a0) else (some (false, false)))) = some (r1, r2) := h
 clear h
 obtain ⟨t101, A2, H⟩ := obnd_ H
 (try dsimp only at H)
 by_cases c3 : t101 = true
 ·subst c3
  rw [if_pos rfl] at H
  have H' := Aside0.mk H
  clear H
  go_enter Try.func12, Try.ntmps12
  go_wp2_with (first | ((with_reducible refine gate_callee (f := 27) rfl ?_); refine goesL_ (some 5) rfl rfl Try.func27 (by kernel_rfl) rfl #[.int .i64 a0] rfl k20_ ?_; (with_reducible refine (impl_isAsked.calls a0 true _ A2.out).mono ?_); rintro e w' ⟨rfl, ⟨nd, rfl⟩⟩; refine ⟨_, rfl, ?_⟩))
  go_loopg [0] k (fun kq v0 w' => ∃ (x0_1 : Int), v0 = .int .i64 x0_1 ∧ Aside0 (impl_IsSumOfThree.l0 kq x0_1 = some (r1, r2)) ∧ Aside0 (kq ≤ k) ∧ Drawn0 w w')
  case atStart => exact ⟨(a0), k32_, H', ⟨Nat.le_refl _⟩, k30_⟩
  case round =>
   clear H'
   (try clear c3)
   obtain ⟨x0_1, rfl, HA, HK1, ⟨m1, rfl⟩⟩ := hrel
   cases gk with
   | zero => exact absurd HA.out (by simp [impl_IsSumOfThree.l0])
   | succ k1 =>
    have H := HA.out
    clear HA
    simp only [impl_IsSumOfThree.l0] at H
    by_cases c4 : (Int.tmod x0_1 4) = 0
    ·rw [if_pos c4] at H
     have c4b0 : ((Int.tmod x0_1 4) == 0) = true := beq_iff_eq.mpr c4
     have c4b1 : ((Int.tmod x0_1 4) != 0) = false := bne_eq_false_iff_eq.mpr c4
     clear c4
     have H' := Aside0.mk H
     clear H
     go_wp2
     go_roundg k1
     case measure => have := HK1.out; omega
     case rel => exact ⟨(wrap64 (Int.tdiv x0_1 4)), k32_, H', ⟨k34_⟩, k30_⟩
    ·rw [if_neg c4] at H
     have c4b0 : ((Int.tmod x0_1 4) == 0) = false := beq_eq_false_iff_ne.mpr c4
     have c4b1 : ((Int.tmod x0_1 4) != 0) = true := bne_iff_ne.mpr c4
     simp only [Option.some.injEq, Prod.mk.injEq] at H
     obtain ⟨rfl, rfl⟩ := H
     go_wp2
     go_ret2
     exact ⟨k32_, k30_⟩
 ·replace c3 := Bool.eq_false_iff.mpr c3
  subst c3
  rw [if_neg (show ¬ (false = true) by decide)] at H
  simp only [Option.some.injEq, Prod.mk.injEq] at H
  obtain ⟨rfl, rfl⟩ := H
  go_enter Try.func12, Try.ntmps12
  go_wp2_with (first | ((with_reducible refine gate_callee (f := 27) rfl ?_); refine goesL_ (some 5) rfl rfl Try.func27 (by kernel_rfl) rfl #[.int .i64 a0] rfl k20_ ?_; (with_reducible refine (impl_isAsked.calls a0 false _ A2.out).mono ?_); rintro e w' ⟨rfl, ⟨nd, rfl⟩⟩; refine ⟨_, rfl, ?_⟩))
  go_ret2
  exact ⟨k32_, k30_⟩
end Go.Proofs.Ytidkoannjealfaa.P
namespace Go.Proofs.Ytidkoannjealfaa.P
open Go.RowKit Go.Proofs.YtidkoannjealfaaW.PrintWords Go.Proofs.YtidkoannjealfaaW.PrintLast Go.Proofs.YtidkoannjealfaaW.PrintMore
attribute [local go_sem] max2_int min2_int max_two min_two max_three min_three max_four min_four
set_option linter.unusedVariables false
set_option linter.unusedSimpArgs false
def spec_IsSumOfThree.l0 : Nat → Int → Option (Bool × Bool)
 | 0, _ => none
 | k + 1, x0 => if (Int.tmod x0 4) = 0 then (spec_IsSumOfThree.l0 k (wrap64 (Int.tdiv x0 4))) else (some (((Int.tmod x0 8) != 7), true))
def spec_IsSumOfThree.f (k : Nat) (a0 : Int) : Option (Bool × Bool) := (spec_sqGood.f a0).bind fun t101 => (if t101 = true then (spec_IsSumOfThree.l0 k a0) else (some (false, false)))
set_option maxHeartbeats 8000000 in
set_option maxRecDepth 100000 in
theorem spec_IsSumOfThree.calls (k : Nat) (a0 : Int) (r1 : Bool) (r2 : Bool) (w : World) (h : spec_IsSumOfThree.f k a0 = some (r1, r2)) :
  Calls Try.prog 13 #[.int .i64 a0] w fun e w' => e = .returned (.tuple #[.bool r1, .bool r2]) ∧ Drawn0 w w' := by
 have H : ((spec_sqGood.f a0).bind fun t101 => (if t101 = true then (spec_IsSumOfThree.l0 k a0) else (some (false, false)))) = some (r1, r2) := h
 clear h
 obtain ⟨t101, A2, H⟩ := obnd_ H
 (try dsimp only at H)
 by_cases c3 : t101 = true
 ·subst c3
  rw [if_pos rfl] at H
  have H' := Aside0.mk H
  clear H
  go_enter Try.func13, Try.ntmps13
  go_wp2_with (first | ((with_reducible refine gate_callee (f := 29) rfl ?_); refine goesL_ (some 5) rfl rfl Try.func29 (by kernel_rfl) rfl #[.int .i64 a0] rfl k20_ ?_; (with_reducible refine (spec_sqGood.calls a0 true _ A2.out).mono ?_); rintro e w' ⟨rfl, ⟨nd, rfl⟩⟩; refine ⟨_, rfl, ?_⟩))
  go_loopg [0] k (fun kq v0 w' => ∃ (x0_1 : Int), v0 = .int .i64 x0_1 ∧ Aside0 (spec_IsSumOfThree.l0 kq x0_1 = some (r1, r2)) ∧ Aside0 (kq ≤ k) ∧ Drawn0 w w')
  case atStart => exact ⟨(a0), k32_, H', ⟨Nat.le_refl _⟩, k30_⟩
  case round =>
   clear H'
   (try clear c3)
   obtain ⟨x0_1, rfl, HA, HK1, ⟨m1, rfl⟩⟩ := hrel
   cases gk with
   | zero => exact absurd HA.out (by simp [spec_IsSumOfThree.l0])
   | succ k1 =>
    have H := HA.out
    clear HA
    simp only [spec_IsSumOfThree.l0] at H
    by_cases c4 : (Int.tmod x0_1 4) = 0
    ·rw [if_pos c4] at H
     have c4b0 : ((Int.tmod x0_1 4) == 0) = true := beq_iff_eq.mpr c4
     have c4b1 : ((Int.tmod x0_1 4) != 0) = false := bne_eq_false_iff_eq.mpr c4
     clear c4
     have H' := Aside0.mk H
     clear H
     go_wp2
     go_roundg k1
     case measure => have := HK1.out; omega
     case rel => exact ⟨(wrap64 (Int.tdiv x0_1 4)), k32_, H', ⟨k34_⟩, k30_⟩
    ·rw [if_neg c4] at H
     have c4b0 : ((Int.tmod x0_1 4) == 0) = false := beq_eq_false_iff_ne.mpr c4
     have c4b1 : ((Int.tmod x0_1 4) != 0) = true := bne_iff_ne.mpr c4
     simp only [Option.some.injEq, Prod.mk.injEq] at H
     obtain ⟨rfl, rfl⟩ := H
     go_wp2
     go_ret2
     exact ⟨k32_, k30_⟩
 ·replace c3 := Bool.eq_false_iff.mpr c3
  subst c3
  rw [if_neg (show ¬ (false = true) by decide)] at H
  simp only [Option.some.injEq, Prod.mk.injEq] at H
  obtain ⟨rfl, rfl⟩ := H
  go_enter Try.func13, Try.ntmps13
  go_wp2_with (first | ((with_reducible refine gate_callee (f := 29) rfl ?_); refine goesL_ (some 5) rfl rfl Try.func29 (by kernel_rfl) rfl #[.int .i64 a0] rfl k20_ ?_; (with_reducible refine (spec_sqGood.calls a0 false _ A2.out).mono ?_); rintro e w' ⟨rfl, ⟨nd, rfl⟩⟩; refine ⟨_, rfl, ?_⟩))
  go_ret2
  exact ⟨k32_, k30_⟩
end Go.Proofs.Ytidkoannjealfaa.P
namespace Go.Proofs.Ytidkoannjealfaa.P
open Go.RowKit Go.Proofs.YtidkoannjealfaaW.PrintWords Go.Proofs.YtidkoannjealfaaW.PrintLast Go.Proofs.YtidkoannjealfaaW.PrintMore
attribute [local go_sem] max2_int min2_int max_two min_two max_three min_three max_four min_four
set_option linter.unusedVariables false
set_option linter.unusedSimpArgs false
section
open Ieee
theorem cut_le (way : Toward) (neg : Bool) (n drop : Nat) : way.cut neg n drop ≤ n / (1 <<< min drop (n.log2 + 2)) + 1 := by
  unfold Toward.cut
  simp only []
  refine Nat.add_le_add_left ?_ _
  exact Bool.toNat_le _
theorem log2_lt (n : Nat) : n < 2 ^ (n.log2 + 1) := Nat.lt_log2_self
theorem kept_lt (mag : Nat) : mag <<< (52 - mag.log2) / (1 <<< min (mag.log2 - 52) ((mag <<< (52 - mag.log2)).log2 + 2)) < 2 ^ 53 := by
  generalize hL : mag.log2 = L
  have hlt : mag < 2 ^ (L + 1) := hL ▸ log2_lt mag
  by_cases hc : L ≤ 52
  · have : L - 52 = 0 := by omega
    rw [this, Nat.zero_min, Nat.one_shiftLeft, Nat.pow_zero, Nat.div_one, Nat.shiftLeft_eq]
    have h1 : mag * 2 ^ (52 - L) < 2 ^ (L + 1) * 2 ^ (52 - L) := Nat.mul_lt_mul_of_pos_right hlt (Nat.two_pow_pos _)
    rw [← Nat.pow_add, show L + 1 + (52 - L) = 53 by omega] at h1
    exact h1
  · have : 52 - L = 0 := by omega
    rw [this, Nat.shiftLeft_zero, hL, Nat.min_eq_left (by omega), Nat.one_shiftLeft]
    refine Nat.div_lt_of_lt_mul ?_
    rw [← Nat.pow_add, show L - 52 + 53 = L + 1 by omega]
    exact hlt
theorem nearest_le (mag : Nat) (place c : Int) (h0 : 0 ≤ c + 1074) (h1 : place + mag.log2 - 52 ≤ c) (h2 : -1074 ≤ place + mag.log2 - 52) : double.nearest false mag place ≤ (c + 1074).toNat * 2 ^ 52 + 2 ^ 53 := by
  obtain ⟨B, hB⟩ : ∃ B : Nat, B = 2 ^ 52 := ⟨_, rfl⟩
  obtain ⟨K, hK⟩ : ∃ B : Nat, B = 2 ^ 53 := ⟨_, rfl⟩
  obtain ⟨I, hI⟩ : ∃ B : Nat, B = double.infRung := ⟨_, rfl⟩
  obtain ⟨Z, hZ⟩ : ∃ B : Int, B = -1074 := ⟨_, rfl⟩
  have hl : double.leastPlace = Z := hZ ▸ (by decide)
  have hf : double.fractionBits = 52 := rfl
  have hb : double.binade = B := by rw [hB]; rfl
  rw [← hB, ← hK]
  unfold Format.nearest
  by_cases hm : mag = 0
  · rw [if_pos hm]; exact Nat.zero_le _
  rw [if_neg hm]
  simp only [hl, hf, hb, ← hI, Format.word, Bool.false_eq_true, if_false]
  have hmax : max (place + (mag.log2 : Int) - ((52 : Nat) : Int)) Z = place + mag.log2 - 52 := by omega
  rw [hmax]
  refine Nat.le_trans (Nat.min_le_left _ _) ?_
  refine Nat.add_le_add (Nat.mul_le_mul_right _ (by omega)) ?_
  refine Nat.le_trans (cut_le _ _ _ _) ?_
  have e1 : (place - (place + (mag.log2 : Int) - 52)).toNat = 52 - mag.log2 := by omega
  have e2 : (place + (mag.log2 : Int) - 52 - place).toNat = mag.log2 - 52 := by omega
  rw [e1, e2, hK]
  exact Nat.succ_le_of_lt (kept_lt mag)
theorem rootFrom_sq (n : Nat) : ∀ (todo root : Nat), root * root ≤ n → Datum.rootFrom n todo root * Datum.rootFrom n todo root ≤ n
  | 0, root, h => h
  | todo + 1, root, h => by
    unfold Datum.rootFrom
    dsimp only
    refine rootFrom_sq n todo _ ?_
    split
    · assumption
    · exact h
theorem read_le (x c : Nat) (hc : c ≤ 1040) (hx : x ≤ c * 2 ^ 52) : ∃ M P, double.read x = .number false M P ∧ M < 2 ^ 53 ∧ -1074 ≤ P ∧ P ≤ (c : Int) - 1075 + (if c = 0 then 1 else 0) := by
  have hl : double.leastPlace = -1074 := by decide
  have hb : double.binade = 4503599627370496 := by decide
  have hi : double.infRung = 9218868437227405312 := by decide
  have hs : double.signWeight = 9223372036854775808 := by decide
  have hx' : x ≤ c * 4503599627370496 := hx
  have hx2 : x < 9218868437227405312 := by omega
  unfold Format.read
  simp only [hl, hb, hi, hs]
  have e1 : x / 9223372036854775808 = 0 := by omega
  have e2 : x % 9223372036854775808 = x := by omega
  rw [e1, e2]
  have e3 : ((0 % 2 : Nat) == 1) = false := rfl
  rw [e3]
  by_cases h : x < 4503599627370496
  · rw [if_pos h]; refine ⟨x, -1074, rfl, by omega, by omega, ?_⟩
    split <;> omega
  · rw [if_neg h, if_pos hx2]
    refine ⟨_, _, rfl, by omega, by omega, ?_⟩
    have : x / 4503599627370496 ≤ c := by omega
    split <;> omega
theorem toInt_le (M : Nat) (P : Int) (hM : M < 2 ^ 53) (hP : P ≤ -43) : ∃ r : Nat, (Datum.number false M P).toInt .zero = some (r : Int) ∧ r ≤ 1024 := by
  unfold Datum.toInt Datum.integral
  simp only []
  refine ⟨_, rfl, ?_⟩
  have e0 : P.toNat = 0 := by omega
  rw [e0]
  simp only [Nat.shiftLeft_zero]
  unfold Toward.cut
  simp only [Bool.toNat_false, Nat.add_zero, Nat.one_shiftLeft]
  by_cases h : (-P).toNat ≤ M.log2 + 2
  · rw [Nat.min_eq_left h]
    refine Nat.le_of_lt_succ (Nat.div_lt_of_lt_mul ?_)
    have h3 : 2 ^ 43 ≤ 2 ^ (-P).toNat := Nat.pow_le_pow_right (by omega) (by omega)
    have h4 : 2 ^ 43 * (1024 + 1) ≤ 2 ^ (-P).toNat * (1024 + 1) := Nat.mul_le_mul_right _ h3
    exact Nat.lt_of_lt_of_le (by omega) h4
  · rw [Nat.min_eq_right (by omega)]
    rw [Nat.div_eq_of_lt]
    · omega
    · exact Nat.lt_trans (log2_lt M) (Nat.pow_lt_pow_right (by omega) (by omega))
theorem root_ok (M : Nat) (P : Int) (hM : M < 2 ^ 53) (h1 : -1074 ≤ P) (h2 : P ≤ -35) : ∃ mag place, Datum.root 54 (.number false M P) = some (.number false mag place) ∧ (mag = 0 ∨ (place + mag.log2 - 52 ≤ -44 ∧ -1074 ≤ place + mag.log2 - 52)) := by
  unfold Datum.root
  by_cases hm : M = 0
  · simp only [hm, if_true]; exact ⟨_, _, rfl, .inl rfl⟩
  · simp only [hm, if_false, Bool.false_eq_true]
    refine ⟨_, _, rfl, ?_⟩
    have hl : M.log2 ≤ 52 := by
      have := (Nat.log2_lt hm (k := 53)).2 hM
      omega
    generalize hL : M.log2 = L at *
    obtain ⟨e, he⟩ : ∃ e : Nat, e = ((P - ((2 * 54 - L : Nat) : Int)) % 2).toNat := ⟨_, rfl⟩
    rw [← he]
    have he1 : e ≤ 1 := by omega
    generalize hN : M <<< (2 * 54 - L + e) = N
    have hMl : M < 2 ^ (L + 1) := hL ▸ log2_lt M
    have hN2 : N < 2 ^ 110 := by
      rw [← hN, Nat.shiftLeft_eq]
      calc M * 2 ^ (2 * 54 - L + e) < 2 ^ (L + 1) * 2 ^ (2 * 54 - L + e) := Nat.mul_lt_mul_of_pos_right hMl (Nat.two_pow_pos _)
        _ = 2 ^ (109 + e) := by rw [← Nat.pow_add]; congr 1; omega
        _ ≤ 2 ^ 110 := Nat.pow_le_pow_right (by omega) (by omega)
    have hw := rootFrom_sq N (N.log2 / 2 + 1) 0 (by omega)
    generalize Datum.rootFrom N (N.log2 / 2 + 1) 0 = w at *
    have hw2 : w < 2 ^ 55 := by
      refine Nat.lt_of_not_le fun h => ?_
      have := Nat.mul_le_mul h h
      have e5 : (2 : Nat) ^ 55 * 2 ^ 55 = 2 ^ 110 := by rw [← Nat.pow_add]
      omega
    have hb : (w * w != N).toNat ≤ 1 := Bool.toNat_le _
    generalize (w * w != N).toNat = b at *
    by_cases h0 : 2 * w + b = 0
    · exact .inl h0
    right
    have hl2 : (2 * w + b).log2 ≤ 55 := by
      have := (Nat.log2_lt h0 (k := 56)).2 (by omega)
      omega
    generalize (2 * w + b).log2 = l2 at *
    omega
theorem sqrt_small (n : Nat) (hn : n ≤ 100000) : ∃ x, double.sqrt (double.nearest false n 0) = some x ∧ ∃ r : Nat, (double.read x).toInt .zero = some (r : Int) ∧ r ≤ 1024 := by
  have hx : double.nearest false n 0 ≤ 1040 * 2 ^ 52 := by
    by_cases h0 : n = 0
    · subst h0; decide
    have hl : n.log2 ≤ 16 := by
      have := (Nat.log2_lt h0 (k := 17)).2 (by omega)
      omega
    have := nearest_le n 0 (-36) (by omega) (by omega) (by omega)
    have e : ((-36 : Int) + 1074).toNat = 1038 := rfl
    rw [e] at this
    omega
  obtain ⟨M, P, h1, h2, h3, h4⟩ := read_le _ 1040 (by omega) hx
  obtain ⟨mag, place, h5, h6⟩ := root_ok M P h2 h3 (by simpa using h4)
  have hf : double.fractionBits + 2 = 54 := rfl
  refine ⟨double.write (.number false mag place), ?_, ?_⟩
  · unfold Format.sqrt
    rw [h1, hf, h5]; rfl
  have h7 : double.nearest false mag place ≤ 1032 * 2 ^ 52 := by
    rcases h6 with h6 | ⟨h6, h7⟩
    · subst h6; simp [Format.nearest, Format.word]
    · have := nearest_le mag place (-44) (by omega) h6 h7
      have e : ((-44 : Int) + 1074).toNat = 1030 := rfl
      rw [e] at this
      omega
  show ∃ r : Nat, (double.read (double.nearest false mag place)).toInt .zero = some (r : Int) ∧ r ≤ 1024
  obtain ⟨M2, P2, g1, g2, g3, g4⟩ := read_le _ 1032 (by omega) h7
  rw [g1]
  exact toInt_le M2 P2 g2 (by simpa using g4)
end
def rootN : Nat → Nat → Nat
  | 0, _ => 0
  | b + 1, n => if (b + 1) * (b + 1) ≤ n then b + 1 else rootN b n
theorem rootN_sq (n : Nat) : ∀ b, rootN b n * rootN b n ≤ n
  | 0 => Nat.zero_le _
  | b + 1 => by
    unfold rootN
    split
    · assumption
    · exact rootN_sq n b
theorem rootN_lt (n : Nat) : ∀ b, n < (b + 1) * (b + 1) → n < (rootN b n + 1) * (rootN b n + 1)
  | 0, h => h
  | b + 1, h => by
    unfold rootN
    split
    · exact h
    · exact rootN_lt n b (by omega)
theorem root_uniq {n a b : Nat} (h1 : a * a ≤ n) (h2 : n < (a + 1) * (a + 1)) (h3 : b * b ≤ n) (h4 : n < (b + 1) * (b + 1)) : a = b := by
  have h5 : ¬ a + 1 ≤ b := fun h => by have := Nat.mul_le_mul h h; omega
  have h6 : ¬ b + 1 ≤ a := fun h => by have := Nat.mul_le_mul h h; omega
  omega
def impl_rootOf.f (a0 : Int) : Option Int := if 0 ≤ a0 ∧ a0 ≤ 100000 then some ((rootN 317 a0.toNat : Nat) : Int) else none
set_option maxHeartbeats 2000000 in
set_option maxRecDepth 100000 in
theorem impl_rootOf.calls (a0 : Int) (r : Int) (w : World) (h : impl_rootOf.f a0 = some r) :
    Calls Try.prog 28 #[.int .i64 a0] w fun e w' => e = .returned (.int .i64 r) ∧ Drawn0 w w' := by
  unfold impl_rootOf.f at h
  by_cases hc : 0 ≤ a0 ∧ a0 ≤ 100000
  case neg => rw [if_neg hc] at h; exact absurd h (by simp)
  rw [if_pos hc] at h
  obtain rfl := Option.some.inj h
  clear h
  obtain ⟨n, rfl⟩ : ∃ n : Nat, a0 = (n : Int) := ⟨a0.toNat, by omega⟩
  have hn : n ≤ 100000 := by omega
  rw [Int.toNat_natCast]
  obtain ⟨x, hx, s, hs, hsl⟩ := sqrt_small n hn
  have h1 := rootN_sq n 317
  have h2 := rootN_lt n 317 (by omega)
  obtain ⟨r, hr⟩ : ∃ r, r = rootN 317 n := ⟨_, rfl⟩
  rw [← hr] at h1 h2 ⊢
  clear hr
  have HR1 := Aside0.mk h1
  have HR2 := Aside0.mk h2
  obtain ⟨y, hy⟩ : ∃ y, y = floatOfInt .f64 (n : Int) := ⟨_, rfl⟩
  have hx' : FloatKind.f64.format.sqrt y = some x := by
    rw [hy]
    have e1 : decide ((n : Int) < 0) = false := decide_eq_false (by omega)
    have e2 : (n : Int).natAbs = n := Int.natAbs_natCast n
    show Ieee.double.sqrt (Ieee.double.nearest (decide ((n : Int) < 0)) (n : Int).natAbs 0) = some x
    rw [e1, e2]
    exact hx
  have hc5 : ∀ w, (convert 3 49 (.int .i64 (n : Int))).run Try.prog w = .ok (.float .f64 y) w := fun w => by rw [hy]; exact run_convert_int_float w _ _ .i64 .f64 (n : Int) (by rw [Try.underlying3]; rfl) Try.underlying49
  have hc7 : ∀ w, (convert 49 3 (.float .f64 x)).run Try.prog w = .ok (.int .i64 (s : Int)) w := fun w => run_convert_float_int w _ _ .f64 .i64 x (s : Int) (by rw [Try.underlying49]; rfl) Try.underlying3 (by
    unfold floatToIntVal
    have hs' : (FloatKind.f64.decode x).toInt .zero = some (s : Int) := hs
    rw [hs']
    exact if_pos ⟨by show (-9223372036854775808 : Int) ≤ s; omega, by show (s : Int) ≤ 9223372036854775807; omega⟩)
  have hsq : ∀ w, (Extern.MathSqrt.sqrt #[.float .f64 y]).run Try.prog w = .ok (.float .f64 x) w := fun w => by
    have e : Extern.MathSqrt.sqrt #[.float .f64 y] = (match FloatKind.f64.format.sqrt y with
      | some r => pure (.float .f64 r)
      | none => do pure (.float .f64 (← choose (.nanBits .f64 y y)))) := rfl
    rw [e, hx']
    rfl
  clear hx hs hy hx' hc h1 h2
  go_enter Try.func28, Try.ntmps28
  go_wp2_with (first | simp only [hc5] | simp only [hc7] | go_in | (rw [run_callFunc_extern Try.func52 (by kernel_rfl) (by kernel_rfl) (by kernel_rfl) (e := Extern.MathSqrt.sqrt) (by kernel_rfl), hsq]; simp only [Result.andThen]; rw [Oper.upon_value]))
  go_loopg [3] 1025 (fun gg s3 wr => ∃ q : Nat, s3 = .int .i64 (q : Int) ∧ q ≤ 1024 ∧ q ≤ gg ∧ Drawn0 w wr)
  case atStart => exact ⟨s, rfl, hsl, by omega, k30_⟩
  case round =>
    obtain ⟨q, rfl, hq, hqg, mw, rfl⟩ := hrel
    have hm := Nat.mul_le_mul hq hq
    have hm1 : (q : Int) * (q : Int) ≤ 9223372036854775807 := by rw [← Int.natCast_mul]; omega
    have hm2 : -9223372036854775808 ≤ (q : Int) * (q : Int) := by rw [← Int.natCast_mul]; omega
    by_cases hlt : n < q * q
    · have hz : (n : Int) < (q : Int) * (q : Int) := by rw [← Int.natCast_mul]; omega
      have hz0 : decide ((n : Int) < (q : Int) * (q : Int)) = true := decide_eq_true hz
      have hq1 : 1 ≤ q := by
        rcases Nat.eq_zero_or_pos q with h0 | h0
        · subst h0; omega
        · exact h0
      go_wp2
      go_roundg (q - 1)
      case measure => omega
      case rel => exact ⟨q - 1, by (refine congrArg (Value.int .i64) ?_; first | omega | (simp only [i64_w]; omega) | (rw [Int.ofNat_sub hq1]; go_num)), by omega, Nat.le_refl _, k30_⟩
    · have hz : ¬ (n : Int) < (q : Int) * (q : Int) := by rw [← Int.natCast_mul]; omega
      have hz0 : decide ((n : Int) < (q : Int) * (q : Int)) = false := decide_eq_false hz
      have HQ := Aside0.mk (Nat.le_of_not_lt hlt)
      clear hlt hm hqg
      go_wp2
      go_loopg [3] 1025 (fun gg s3 wr => ∃ q : Nat, s3 = .int .i64 (q : Int) ∧ q ≤ 1024 ∧ 1024 - q ≤ gg ∧ Aside0 (q * q ≤ n) ∧ Drawn0 w wr)
      case atStart => exact ⟨q, rfl, hq, by omega, HQ, k30_⟩
      case round =>
        clear hm1 hm2 hz hz0 HQ hq
        obtain ⟨q, rfl, hq, hqg, HQ, mw, rfl⟩ := hrel
        have hm := Nat.mul_le_mul (Nat.succ_le_succ hq) (Nat.succ_le_succ hq)
        have e1 : ((q : Int) + 1) * ((q : Int) + 1) = (((q + 1) * (q + 1) : Nat) : Int) := by push_cast; rfl
        have hm1 : ((q : Int) + 1) * ((q : Int) + 1) ≤ 9223372036854775807 := by rw [e1]; simp only [Nat.succ_eq_add_one] at hm; omega
        have hm2 : -9223372036854775808 ≤ ((q : Int) + 1) * ((q : Int) + 1) := by rw [e1]; omega
        by_cases hlt : (q + 1) * (q + 1) ≤ n
        · have hz : ((q : Int) + 1) * ((q : Int) + 1) ≤ (n : Int) := by rw [e1]; omega
          have hz0 : decide (((q : Int) + 1) * ((q : Int) + 1) ≤ (n : Int)) = true := decide_eq_true hz
          have hq1 : q < 1024 := Nat.lt_of_not_le fun h => by have := Nat.mul_le_mul (Nat.succ_le_succ h) (Nat.succ_le_succ h); simp only [Nat.succ_eq_add_one] at this; omega
          clear e1 hm
          go_wp2
          go_roundg (1024 - (q + 1))
          case measure => omega
          case rel => exact ⟨q + 1, by go_num, by omega, by omega, ⟨hlt⟩, k30_⟩
        · have hz : ¬ ((q : Int) + 1) * ((q : Int) + 1) ≤ (n : Int) := by rw [e1]; omega
          have hz0 : decide (((q : Int) + 1) * ((q : Int) + 1) ≤ (n : Int)) = false := decide_eq_false hz
          have HF := Aside0.mk (root_uniq HQ.out (Nat.lt_of_not_le hlt) HR1.out HR2.out)
          clear e1 hm hlt
          go_wp2
          go_ret
          exact ⟨by rw [HF.out]; rfl, k30_⟩
end Go.Proofs.Ytidkoannjealfaa.P
namespace Go.Proofs.Ytidkoannjealfaa.P
open Go.RowKit Go.Proofs.YtidkoannjealfaaW.PrintWords Go.Proofs.YtidkoannjealfaaW.PrintLast Go.Proofs.YtidkoannjealfaaW.PrintMore
attribute [local go_sem] max2_int min2_int max_two min_two max_three min_three max_four min_four
set_option linter.unusedVariables false
set_option linter.unusedSimpArgs false
mutual
def impl_FourSquares.j0 : Nat → Int → Bool → Option (List Int × Bool)
 | 0, _, _ => none
 | k + 1, x0, x14 => if x14 = true then (some (([] : List Int), false)) else (impl_FourSquares.l0 k x0 0)
def impl_FourSquares.l0 : Nat → Int → Int → Option (List Int × Bool)
 | 0, _, _ => none
 | k + 1, x0, x4 => impl_FourSquares.l1 k x0 x4 x4
def impl_FourSquares.l1 : Nat → Int → Int → Int → Option (List Int × Bool)
 | 0, _, _, _ => none
 | k + 1, x0, x4, x5 => if (wrap64 ((wrap64 (x4 * x4)) + (wrap64 (x5 * x5)))) ≤ x0 then (impl_FourSquares.l2 k x0 x4 x5 x5) else (impl_FourSquares.l0 k x0 (wrap64 (x4 + 1)))
def impl_FourSquares.l2 : Nat → Int → Int → Int → Int → Option (List Int × Bool)
 | 0, _, _, _, _ => none
 | k + 1, x0, x4, x5, x6 => if (wrap64 ((wrap64 ((wrap64 (x4 * x4)) + (wrap64 (x5 * x5)))) + (wrap64 ((wrap64 (2 * x6)) * x6)))) ≤ x0 then ((impl_rootOf.f (wrap64 ((wrap64 ((wrap64 (x0 - (wrap64 (x4 * x4)))) - (wrap64 (x5 * x5)))) - (wrap64 (x6 * x6))))).bind fun t101 => (if (wrap64 (t101 * t101)) = (wrap64 ((wrap64 ((wrap64 (x0 - (wrap64 (x4 * x4)))) - (wrap64 (x5 * x5)))) - (wrap64 (x6 * x6)))) then (some ((([x4, x5, x6, t101] : List Int)), true)) else (impl_FourSquares.l2 k x0 x4 x5 (wrap64 (x6 + 1))))) else (impl_FourSquares.l1 k x0 x4 (wrap64 (x5 + 1)))
end
def impl_FourSquares.f (k : Nat) (a0 : Int) : Option (List Int × Bool) := if a0 < 1 then (impl_FourSquares.j0 k a0 true) else (impl_FourSquares.j0 k a0 (decide (a0 > 5000)))
set_option maxHeartbeats 8000000 in
set_option maxRecDepth 100000 in
theorem impl_FourSquares.calls (k : Nat) (a0 : Int) (r1 : List Int) (r2 : Bool) (w : World) (h : impl_FourSquares.f k a0 = some (r1, r2)) :
  Calls Try.prog 14 #[.int .i64 a0] w fun e w' => ∃ v0_ : Value, e = .returned (.tuple #[v0_, .bool r2]) ∧ Kd.R (Kd.int .i64) 3 w' w.heap.size (fun _ => True) v0_ r1 ∧ Below w.heap.size w w' := by
 have HB := Aside0.mk (Below.refl w.heap.size w)
 have H : (if a0 < 1 then (impl_FourSquares.j0 k a0 true) else (impl_FourSquares.j0 k a0 (decide (a0 > 5000)))) = some (r1, r2) := h
 clear h
 have HC2 := Aside0.mk H
 clear H
 go_enter Try.func14, Try.ntmps14
 go_upto_region 1 with (fail)
 go_cut [14] (fun v14 wc => ∃ (kq : Nat) (x14_1 : Bool), v14 = .bool x14_1 ∧ Aside0 (impl_FourSquares.j0 kq a0 x14_1 = some (r1, r2)) ∧ Aside0 (kq ≤ k) ∧ Aside0 (Below w.heap.size w wc))
 case first =>
  have H := HC2.out
  clear HC2
  by_cases c3 : a0 < 1
  ·rw [if_pos c3] at H
   have c3b0 : decide (a0 < 1) = true := decide_eq_true c3
   clear c3
   (first | rw [c3b0] | rw [c3b1] | (simp only [i64_w, i32_w]; rw [c3b0]) | skip)
   have H' := Aside0.mk H
   clear H
   go_wp2
   go_meet
   case rel => exact ⟨_, (true), k32_, H', ⟨by first | omega | exact Nat.le_refl _⟩, ⟨k23_⟩⟩
  ·rw [if_neg c3] at H
   have c3b0 : decide (a0 < 1) = false := decide_eq_false c3
   clear c3
   (first | rw [c3b0] | rw [c3b1] | (simp only [i64_w, i32_w]; rw [c3b0]) | skip)
   have H' := Aside0.mk H
   clear H
   go_wp2
   go_meet
   case rel => exact ⟨_, (decide (a0 > 5000)), k32_, H', ⟨by first | omega | exact Nat.le_refl _⟩, ⟨k23_⟩⟩
 case rest =>
  clear HC2
  obtain ⟨kq, x14_1, rfl, HA, HJ1, HB⟩ := hcut
  cases kq with
  | zero => exact absurd HA.out (by simp [impl_FourSquares.j0])
  | succ kj1 =>
   have H := HA.out
   clear HA
   simp only [impl_FourSquares.j0] at H
   by_cases c4 : x14_1 = true
   ·subst c4
    rw [if_pos rfl] at H
    simp only [Option.some.injEq, Prod.mk.injEq] at H
    obtain ⟨rfl, rfl⟩ := H
    go_wp2
    go_ret2
    exact ⟨_, k22_, k19_, k23_⟩
   ·replace c4 := Bool.eq_false_iff.mpr c4
    subst c4
    rw [if_neg (show ¬ (false = true) by decide)] at H
    have H' := Aside0.mk H
    clear H
    go_wp2
    go_loopg [4] kj1 (fun kq v4 w' => ∃ (x4_2 : Int), v4 = .int .i64 x4_2 ∧ Aside0 (impl_FourSquares.l0 kq a0 x4_2 = some (r1, r2)) ∧ Aside0 (kq ≤ kj1) ∧ Aside0 (Below w.heap.size w w'))
    case atStart => exact ⟨(0), k32_, H', ⟨Nat.le_refl _⟩, ⟨k23_⟩⟩
    case round =>
     clear H'
     (try clear c4)
     obtain ⟨x4_2, rfl, HA, HK2, HB⟩ := hrel
     cases gk with
     | zero => exact absurd HA.out (by simp [impl_FourSquares.l0])
     | succ k2 =>
      have H := HA.out
      clear HA
      simp only [impl_FourSquares.l0] at H
      have H' := Aside0.mk H
      clear H
      go_wp2
      go_loopg [5] k2 (fun kq v5 w' => ∃ (x5_3 : Int), v5 = .int .i64 x5_3 ∧ Aside0 (impl_FourSquares.l1 kq a0 x4_2 x5_3 = some (r1, r2)) ∧ Aside0 (kq ≤ k2) ∧ Aside0 (Below w.heap.size w w'))
      case atStart => exact ⟨(x4_2), k32_, H', ⟨Nat.le_refl _⟩, ⟨k23_⟩⟩
      case round =>
       clear H'
       (try clear c4)
       obtain ⟨x5_3, rfl, HA, HK3, HB⟩ := hrel
       cases gk with
       | zero => exact absurd HA.out (by simp [impl_FourSquares.l1])
       | succ k3 =>
        have H := HA.out
        clear HA
        simp only [impl_FourSquares.l1] at H
        by_cases c5 : (wrap64 ((wrap64 (x4_2 * x4_2)) + (wrap64 (x5_3 * x5_3)))) ≤ a0
        ·rw [if_pos c5] at H
         have c5b0 : decide ((wrap64 ((wrap64 (x4_2 * x4_2)) + (wrap64 (x5_3 * x5_3)))) ≤ a0) = true := decide_eq_true c5
         clear c5
         have H' := Aside0.mk H
         clear H
         go_wp2
         go_loopg [6] k3 (fun kq v6 w' => ∃ (x6_4 : Int), v6 = .int .i64 x6_4 ∧ Aside0 (impl_FourSquares.l2 kq a0 x4_2 x5_3 x6_4 = some (r1, r2)) ∧ Aside0 (kq ≤ k3) ∧ Aside0 (Below w.heap.size w w'))
         case atStart => exact ⟨(x5_3), k32_, H', ⟨Nat.le_refl _⟩, ⟨k23_⟩⟩
         case round =>
          clear H'
          (try clear c4); (try clear c5); (try clear c5b0)
          obtain ⟨x6_4, rfl, HA, HK4, HB⟩ := hrel
          cases gk with
          | zero => exact absurd HA.out (by simp [impl_FourSquares.l2])
          | succ k4 =>
           have H := HA.out
           clear HA
           simp only [impl_FourSquares.l2] at H
           by_cases c6 : (wrap64 ((wrap64 ((wrap64 (x4_2 * x4_2)) + (wrap64 (x5_3 * x5_3)))) + (wrap64 ((wrap64 (2 * x6_4)) * x6_4)))) ≤ a0
           ·rw [if_pos c6] at H
            have c6b0 : decide ((wrap64 ((wrap64 ((wrap64 (x4_2 * x4_2)) + (wrap64 (x5_3 * x5_3)))) + (wrap64 ((wrap64 (2 * x6_4)) * x6_4)))) ≤ a0) = true := decide_eq_true c6
            clear c6
            obtain ⟨t101, A7, H⟩ := obnd_ H
            (try dsimp only at H)
            by_cases c8 : (wrap64 (t101 * t101)) = (wrap64 ((wrap64 ((wrap64 (a0 - (wrap64 (x4_2 * x4_2)))) - (wrap64 (x5_3 * x5_3)))) - (wrap64 (x6_4 * x6_4))))
            ·rw [if_pos c8] at H
             have c8b0 : ((wrap64 (t101 * t101)) == (wrap64 ((wrap64 ((wrap64 (a0 - (wrap64 (x4_2 * x4_2)))) - (wrap64 (x5_3 * x5_3)))) - (wrap64 (x6_4 * x6_4))))) = true := beq_iff_eq.mpr c8
             have c8b1 : ((wrap64 (t101 * t101)) != (wrap64 ((wrap64 ((wrap64 (a0 - (wrap64 (x4_2 * x4_2)))) - (wrap64 (x5_3 * x5_3)))) - (wrap64 (x6_4 * x6_4))))) = false := bne_eq_false_iff_eq.mpr c8
             clear c8
             obtain ⟨y102, hy_⟩ : ∃ y_ : List Int, y_ = (([x4_2, x5_3, x6_4, t101] : List Int)) := ⟨_, rfl⟩
             replace H : (some (y102, true)) = some (r1, r2) := k0_
             have Ny102 := Aside0.mk hy_
             clear hy_
             simp only [Option.some.injEq, Prod.mk.injEq] at H
             obtain ⟨rfl, rfl⟩ := H
             go_wp2_with (first | ((with_reducible refine gate_callee (f := 28) rfl ?_); refine goesL_ (some 60) rfl rfl Try.func28 (by kernel_rfl) rfl #[.int .i64 (wrap64 ((wrap64 ((wrap64 (a0 - (wrap64 (x4_2 * x4_2)))) - (wrap64 (x5_3 * x5_3)))) - (wrap64 (x6_4 * x6_4))))] rfl k20_ ?_; (with_reducible refine (impl_rootOf.calls (wrap64 ((wrap64 ((wrap64 (a0 - (wrap64 (x4_2 * x4_2)))) - (wrap64 (x5_3 * x5_3)))) - (wrap64 (x6_4 * x6_4)))) t101 _ A7.out).mono ?_); rintro e w' ⟨rfl, ⟨nd, rfl⟩⟩; refine ⟨_, rfl, ?_⟩) | ((with_reducible refine gate_dst (N := 70) rfl ?_); refine Kd.R_lit (Kd.int .i64) _ 3 ?hg (N := 70) ?hd (xs := ([x4_2, x5_3, x6_4, t101] : List Int)) (inner := [.int .i64 x4_2, .int .i64 x5_3, .int .i64 x6_4, .int .i64 t101]) (ok := fun _ => True) (okp := fun _ => True) ?hr ?hp (fun _ hk => hk) trivial (Below.refl _ _) (Nat.le_refl _) (by simp) ?_; (case hd => rfl); (case hg => rfl); (case hr => exact k33_); (case hp => exact (Reps.one (show Kd.M (Kd.int .i64) _ _ _ x4_2 [.int .i64 x4_2] from rfl) (Reps.one (show Kd.M (Kd.int .i64) _ _ _ x5_3 [.int .i64 x5_3] from rfl) (Reps.one (show Kd.M (Kd.int .i64) _ _ _ x6_4 [.int .i64 x6_4] from rfl) (Reps.one (show Kd.M (Kd.int .i64) _ _ _ t101 [.int .i64 t101] from rfl) (Reps.none _ _)))))); intro v103 w9 ho10 hb hg_ hnew_; clear hg_ hnew_; (first | rw [← Ny102.out] at ho10 | (simp only [Int.reduceToNat] at ho10; rw [← Ny102.out] at ho10)); have HO104 := Aside0.mk (Kd.R_lower ho10 (below_size k23_)); replace HB := HB.mw hb; clear hb ho10))
             go_ret2
             exact ⟨_, k22_, by (with_reducible repeat (first | apply Kd.R_alloc | apply Kd.R_drewN | apply Kd.R_drew)); exact HO104.out, k23_⟩
            ·rw [if_neg c8] at H
             have c8b0 : ((wrap64 (t101 * t101)) == (wrap64 ((wrap64 ((wrap64 (a0 - (wrap64 (x4_2 * x4_2)))) - (wrap64 (x5_3 * x5_3)))) - (wrap64 (x6_4 * x6_4))))) = false := beq_eq_false_iff_ne.mpr c8
             have c8b1 : ((wrap64 (t101 * t101)) != (wrap64 ((wrap64 ((wrap64 (a0 - (wrap64 (x4_2 * x4_2)))) - (wrap64 (x5_3 * x5_3)))) - (wrap64 (x6_4 * x6_4))))) = true := bne_iff_ne.mpr c8
             have H' := Aside0.mk H
             clear H
             go_wp2_with (first | ((with_reducible refine gate_callee (f := 28) rfl ?_); refine goesL_ (some 60) rfl rfl Try.func28 (by kernel_rfl) rfl #[.int .i64 (wrap64 ((wrap64 ((wrap64 (a0 - (wrap64 (x4_2 * x4_2)))) - (wrap64 (x5_3 * x5_3)))) - (wrap64 (x6_4 * x6_4))))] rfl k20_ ?_; (with_reducible refine (impl_rootOf.calls (wrap64 ((wrap64 ((wrap64 (a0 - (wrap64 (x4_2 * x4_2)))) - (wrap64 (x5_3 * x5_3)))) - (wrap64 (x6_4 * x6_4)))) t101 _ A7.out).mono ?_); rintro e w' ⟨rfl, ⟨nd, rfl⟩⟩; refine ⟨_, rfl, ?_⟩))
             go_roundg k4
             case measure => have := HJ1.out; have := HK2.out; have := HK3.out; have := HK4.out; omega
             case rel => exact ⟨(wrap64 (x6_4 + 1)), k32_, H', ⟨by have := HJ1.out; have := HK2.out; have := HK3.out; have := HK4.out; omega⟩, ⟨k23_⟩⟩
           ·rw [if_neg c6] at H
            have c6b0 : decide ((wrap64 ((wrap64 ((wrap64 (x4_2 * x4_2)) + (wrap64 (x5_3 * x5_3)))) + (wrap64 ((wrap64 (2 * x6_4)) * x6_4)))) ≤ a0) = false := decide_eq_false c6
            clear c6
            have H' := Aside0.mk H
            clear H
            go_wp2
            go_roundg k4
            case measure => have := HJ1.out; have := HK2.out; have := HK3.out; have := HK4.out; omega
            case rel => exact ⟨(wrap64 (x5_3 + 1)), k32_, H', ⟨by have := HJ1.out; have := HK2.out; have := HK3.out; have := HK4.out; omega⟩, ⟨k23_⟩⟩
        ·rw [if_neg c5] at H
         have c5b0 : decide ((wrap64 ((wrap64 (x4_2 * x4_2)) + (wrap64 (x5_3 * x5_3)))) ≤ a0) = false := decide_eq_false c5
         clear c5
         have H' := Aside0.mk H
         clear H
         go_wp2
         go_roundg k3
         case measure => have := HJ1.out; have := HK2.out; have := HK3.out; omega
         case rel => exact ⟨(wrap64 (x4_2 + 1)), k32_, H', ⟨by have := HJ1.out; have := HK2.out; have := HK3.out; omega⟩, ⟨k23_⟩⟩
end Go.Proofs.Ytidkoannjealfaa.P
namespace Go.Proofs.Ytidkoannjealfaa.P
open Go.RowKit Go.Proofs.YtidkoannjealfaaW.PrintWords Go.Proofs.YtidkoannjealfaaW.PrintLast Go.Proofs.YtidkoannjealfaaW.PrintMore
attribute [local go_sem] max2_int min2_int max_two min_two max_three min_three max_four min_four
set_option linter.unusedVariables false
set_option linter.unusedSimpArgs false
def spec_sqRoot.l0 : Nat → Int → Int → Option (Int)
 | 0, _, _ => none
 | k + 1, x0, x3 => if (wrap64 ((wrap64 (x3 + 1)) * (wrap64 (x3 + 1)))) ≤ x0 then (spec_sqRoot.l0 k x0 (wrap64 (x3 + 1))) else (some x3)
def spec_sqRoot.f (k : Nat) (a0 : Int) : Option (Int) := spec_sqRoot.l0 k a0 0
set_option maxHeartbeats 8000000 in
set_option maxRecDepth 100000 in
theorem spec_sqRoot.calls (k : Nat) (a0 : Int) (r : Int) (w : World) (h : spec_sqRoot.f k a0 = some r) :
  Calls Try.prog 30 #[.int .i64 a0] w fun e w' => e = .returned (.int .i64 r) ∧ Drawn0 w w' := by
 have H : (spec_sqRoot.l0 k a0 0) = some r := h
 clear h
 have H' := Aside0.mk H
 clear H
 go_enter Try.func30, Try.ntmps30
 go_wp2
 go_loopg [3] k (fun kq v3 w' => ∃ (x3_1 : Int), v3 = .int .i64 x3_1 ∧ Aside0 (spec_sqRoot.l0 kq a0 x3_1 = some r) ∧ Aside0 (kq ≤ k) ∧ Drawn0 w w')
 case atStart => exact ⟨(0), k32_, H', ⟨Nat.le_refl _⟩, k30_⟩
 case round =>
  clear H'
  obtain ⟨x3_1, rfl, HA, HK1, ⟨m1, rfl⟩⟩ := hrel
  cases gk with
  | zero => exact absurd HA.out (by simp [spec_sqRoot.l0])
  | succ k1 =>
   have H := HA.out
   clear HA
   simp only [spec_sqRoot.l0] at H
   by_cases c2 : (wrap64 ((wrap64 (x3_1 + 1)) * (wrap64 (x3_1 + 1)))) ≤ a0
   ·rw [if_pos c2] at H
    have c2b0 : decide ((wrap64 ((wrap64 (x3_1 + 1)) * (wrap64 (x3_1 + 1)))) ≤ a0) = true := decide_eq_true c2
    clear c2
    have H' := Aside0.mk H
    clear H
    go_wp2
    go_roundg k1
    case measure => have := HK1.out; omega
    case rel => exact ⟨(wrap64 (x3_1 + 1)), k32_, H', ⟨k34_⟩, k30_⟩
   ·rw [if_neg c2] at H
    have c2b0 : decide ((wrap64 ((wrap64 (x3_1 + 1)) * (wrap64 (x3_1 + 1)))) ≤ a0) = false := decide_eq_false c2
    clear c2
    obtain rfl := Option.some.inj H
    go_wp2
    go_ret
    exact ⟨k32_, k30_⟩
end Go.Proofs.Ytidkoannjealfaa.P
namespace Go.Proofs.Ytidkoannjealfaa.P
open Go.RowKit Go.Proofs.YtidkoannjealfaaW.PrintWords Go.Proofs.YtidkoannjealfaaW.PrintLast Go.Proofs.YtidkoannjealfaaW.PrintMore
attribute [local go_sem] max2_int min2_int max_two min_two max_three min_three max_four min_four
set_option linter.unusedVariables false
set_option linter.unusedSimpArgs false
mutual
def spec_FourSquares.l0 : Nat → Int → Int → Option (List Int × Bool)
 | 0, _, _ => none
 | k + 1, x0, x4 => if (wrap64 ((wrap64 (4 * x4)) * x4)) ≤ x0 then (spec_FourSquares.l1 k x0 x4 x4) else (some (([] : List Int), false))
def spec_FourSquares.l1 : Nat → Int → Int → Int → Option (List Int × Bool)
 | 0, _, _, _ => none
 | k + 1, x0, x4, x5 => if (wrap64 ((wrap64 (x4 * x4)) + (wrap64 ((wrap64 (3 * x5)) * x5)))) ≤ x0 then (spec_FourSquares.l2 k x0 x4 x5 x5) else (spec_FourSquares.l0 k x0 (wrap64 (x4 + 1)))
def spec_FourSquares.l2 : Nat → Int → Int → Int → Int → Option (List Int × Bool)
 | 0, _, _, _, _ => none
 | k + 1, x0, x4, x5, x6 => if (wrap64 ((wrap64 ((wrap64 (x4 * x4)) + (wrap64 (x5 * x5)))) + (wrap64 ((wrap64 (2 * x6)) * x6)))) ≤ x0 then ((spec_sqRoot.f k (wrap64 ((wrap64 ((wrap64 (x0 - (wrap64 (x4 * x4)))) - (wrap64 (x5 * x5)))) - (wrap64 (x6 * x6))))).bind fun t102 => (if (wrap64 (t102 * t102)) = (wrap64 ((wrap64 ((wrap64 (x0 - (wrap64 (x4 * x4)))) - (wrap64 (x5 * x5)))) - (wrap64 (x6 * x6)))) then (some ((([x4, x5, x6, t102] : List Int)), true)) else (spec_FourSquares.l2 k x0 x4 x5 (wrap64 (x6 + 1))))) else (spec_FourSquares.l1 k x0 x4 (wrap64 (x5 + 1)))
end
def spec_FourSquares.f (k : Nat) (a0 : Int) : Option (List Int × Bool) := (spec_l1In.f a0 1 5000).bind fun t101 => (if t101 = true then (spec_FourSquares.l0 k a0 0) else (some (([] : List Int), false)))
set_option maxHeartbeats 8000000 in
set_option maxRecDepth 100000 in
theorem spec_FourSquares.calls (k : Nat) (a0 : Int) (r1 : List Int) (r2 : Bool) (w : World) (h : spec_FourSquares.f k a0 = some (r1, r2)) :
  Calls Try.prog 15 #[.int .i64 a0] w fun e w' => ∃ v0_ : Value, e = .returned (.tuple #[v0_, .bool r2]) ∧ Kd.R (Kd.int .i64) 3 w' w.heap.size (fun _ => True) v0_ r1 ∧ Below w.heap.size w w' := by
 have HB := Aside0.mk (Below.refl w.heap.size w)
 have H : ((spec_l1In.f a0 1 5000).bind fun t101 => (if t101 = true then (spec_FourSquares.l0 k a0 0) else (some (([] : List Int), false)))) = some (r1, r2) := h
 clear h
 obtain ⟨t101, A2, H⟩ := obnd_ H
 (try dsimp only at H)
 by_cases c3 : t101 = true
 ·subst c3
  rw [if_pos rfl] at H
  have H' := Aside0.mk H
  clear H
  go_enter Try.func15, Try.ntmps15
  go_wp2_with (first | ((with_reducible refine gate_callee (f := 34) rfl ?_); refine goesL_ (some 10) rfl rfl Try.func34 (by kernel_rfl) rfl #[.int .i64 a0, .int .i64 1, .int .i64 5000] rfl k20_ ?_; (with_reducible refine (spec_l1In.calls a0 1 5000 true _ A2.out).mono ?_); rintro e w' ⟨rfl, ⟨nd, rfl⟩⟩; refine ⟨_, rfl, ?_⟩))
  go_loopg [4] k (fun kq v4 w' => ∃ (x4_1 : Int), v4 = .int .i64 x4_1 ∧ Aside0 (spec_FourSquares.l0 kq a0 x4_1 = some (r1, r2)) ∧ Aside0 (kq ≤ k) ∧ Aside0 (Below w.heap.size w w'))
  case atStart => exact ⟨(0), k32_, H', ⟨Nat.le_refl _⟩, ⟨k23_⟩⟩
  case round =>
   clear H'
   (try clear c3)
   obtain ⟨x4_1, rfl, HA, HK1, HB⟩ := hrel
   cases gk with
   | zero => exact absurd HA.out (by simp [spec_FourSquares.l0])
   | succ k1 =>
    have H := HA.out
    clear HA
    simp only [spec_FourSquares.l0] at H
    by_cases c4 : (wrap64 ((wrap64 (4 * x4_1)) * x4_1)) ≤ a0
    ·rw [if_pos c4] at H
     have c4b0 : decide ((wrap64 ((wrap64 (4 * x4_1)) * x4_1)) ≤ a0) = true := decide_eq_true c4
     clear c4
     have H' := Aside0.mk H
     clear H
     go_wp2
     go_loopg [5] k1 (fun kq v5 w' => ∃ (x5_2 : Int), v5 = .int .i64 x5_2 ∧ Aside0 (spec_FourSquares.l1 kq a0 x4_1 x5_2 = some (r1, r2)) ∧ Aside0 (kq ≤ k1) ∧ Aside0 (Below w.heap.size w w'))
     case atStart => exact ⟨(x4_1), k32_, H', ⟨Nat.le_refl _⟩, ⟨k23_⟩⟩
     case round =>
      clear H'
      skip
      obtain ⟨x5_2, rfl, HA, HK2, HB⟩ := hrel
      cases gk with
      | zero => exact absurd HA.out (by simp [spec_FourSquares.l1])
      | succ k2 =>
       have H := HA.out
       clear HA
       simp only [spec_FourSquares.l1] at H
       by_cases c5 : (wrap64 ((wrap64 (x4_1 * x4_1)) + (wrap64 ((wrap64 (3 * x5_2)) * x5_2)))) ≤ a0
       ·rw [if_pos c5] at H
        have c5b0 : decide ((wrap64 ((wrap64 (x4_1 * x4_1)) + (wrap64 ((wrap64 (3 * x5_2)) * x5_2)))) ≤ a0) = true := decide_eq_true c5
        clear c5
        have H' := Aside0.mk H
        clear H
        go_wp2
        go_loopg [6] k2 (fun kq v6 w' => ∃ (x6_3 : Int), v6 = .int .i64 x6_3 ∧ Aside0 (spec_FourSquares.l2 kq a0 x4_1 x5_2 x6_3 = some (r1, r2)) ∧ Aside0 (kq ≤ k2) ∧ Aside0 (Below w.heap.size w w'))
        case atStart => exact ⟨(x5_2), k32_, H', ⟨Nat.le_refl _⟩, ⟨k23_⟩⟩
        case round =>
         clear H'
         skip
         obtain ⟨x6_3, rfl, HA, HK3, HB⟩ := hrel
         cases gk with
         | zero => exact absurd HA.out (by simp [spec_FourSquares.l2])
         | succ k3 =>
          have H := HA.out
          clear HA
          simp only [spec_FourSquares.l2] at H
          by_cases c6 : (wrap64 ((wrap64 ((wrap64 (x4_1 * x4_1)) + (wrap64 (x5_2 * x5_2)))) + (wrap64 ((wrap64 (2 * x6_3)) * x6_3)))) ≤ a0
          ·rw [if_pos c6] at H
           have c6b0 : decide ((wrap64 ((wrap64 ((wrap64 (x4_1 * x4_1)) + (wrap64 (x5_2 * x5_2)))) + (wrap64 ((wrap64 (2 * x6_3)) * x6_3)))) ≤ a0) = true := decide_eq_true c6
           clear c6
           obtain ⟨t102, A7, H⟩ := obnd_ H
           (try dsimp only at H)
           by_cases c8 : (wrap64 (t102 * t102)) = (wrap64 ((wrap64 ((wrap64 (a0 - (wrap64 (x4_1 * x4_1)))) - (wrap64 (x5_2 * x5_2)))) - (wrap64 (x6_3 * x6_3))))
           ·rw [if_pos c8] at H
            have c8b0 : ((wrap64 (t102 * t102)) == (wrap64 ((wrap64 ((wrap64 (a0 - (wrap64 (x4_1 * x4_1)))) - (wrap64 (x5_2 * x5_2)))) - (wrap64 (x6_3 * x6_3))))) = true := beq_iff_eq.mpr c8
            have c8b1 : ((wrap64 (t102 * t102)) != (wrap64 ((wrap64 ((wrap64 (a0 - (wrap64 (x4_1 * x4_1)))) - (wrap64 (x5_2 * x5_2)))) - (wrap64 (x6_3 * x6_3))))) = false := bne_eq_false_iff_eq.mpr c8
            clear c8
            obtain ⟨y103, hy_⟩ : ∃ y_ : List Int, y_ = (([x4_1, x5_2, x6_3, t102] : List Int)) := ⟨_, rfl⟩
            replace H : (some (y103, true)) = some (r1, r2) := k0_
            have Ny103 := Aside0.mk hy_
            clear hy_
            simp only [Option.some.injEq, Prod.mk.injEq] at H
            obtain ⟨rfl, rfl⟩ := H
            go_wp2_with (first | ((with_reducible refine gate_callee (f := 30) rfl ?_); refine goesL_ (some 64) rfl rfl Try.func30 (by kernel_rfl) rfl #[.int .i64 (wrap64 ((wrap64 ((wrap64 (a0 - (wrap64 (x4_1 * x4_1)))) - (wrap64 (x5_2 * x5_2)))) - (wrap64 (x6_3 * x6_3))))] rfl k20_ ?_; (with_reducible refine (spec_sqRoot.calls k3 (wrap64 ((wrap64 ((wrap64 (a0 - (wrap64 (x4_1 * x4_1)))) - (wrap64 (x5_2 * x5_2)))) - (wrap64 (x6_3 * x6_3)))) t102 _ A7.out).mono ?_); rintro e w' ⟨rfl, ⟨nd, rfl⟩⟩; refine ⟨_, rfl, ?_⟩) | ((with_reducible refine gate_dst (N := 74) rfl ?_); refine Kd.R_lit (Kd.int .i64) _ 3 ?hg (N := 74) ?hd (xs := ([x4_1, x5_2, x6_3, t102] : List Int)) (inner := [.int .i64 x4_1, .int .i64 x5_2, .int .i64 x6_3, .int .i64 t102]) (ok := fun _ => True) (okp := fun _ => True) ?hr ?hp (fun _ hk => hk) trivial (Below.refl _ _) (Nat.le_refl _) (by simp) ?_; (case hd => rfl); (case hg => rfl); (case hr => exact k33_); (case hp => exact (Reps.one (show Kd.M (Kd.int .i64) _ _ _ x4_1 [.int .i64 x4_1] from rfl) (Reps.one (show Kd.M (Kd.int .i64) _ _ _ x5_2 [.int .i64 x5_2] from rfl) (Reps.one (show Kd.M (Kd.int .i64) _ _ _ x6_3 [.int .i64 x6_3] from rfl) (Reps.one (show Kd.M (Kd.int .i64) _ _ _ t102 [.int .i64 t102] from rfl) (Reps.none _ _)))))); intro v104 w9 ho10 hb hg_ hnew_; clear hg_ hnew_; (first | rw [← Ny103.out] at ho10 | (simp only [Int.reduceToNat] at ho10; rw [← Ny103.out] at ho10)); have HO105 := Aside0.mk (Kd.R_lower ho10 (below_size k23_)); replace HB := HB.mw hb; clear hb ho10))
            go_ret2
            exact ⟨_, k22_, by (with_reducible repeat (first | apply Kd.R_alloc | apply Kd.R_drewN | apply Kd.R_drew)); exact HO105.out, k23_⟩
           ·rw [if_neg c8] at H
            have c8b0 : ((wrap64 (t102 * t102)) == (wrap64 ((wrap64 ((wrap64 (a0 - (wrap64 (x4_1 * x4_1)))) - (wrap64 (x5_2 * x5_2)))) - (wrap64 (x6_3 * x6_3))))) = false := beq_eq_false_iff_ne.mpr c8
            have c8b1 : ((wrap64 (t102 * t102)) != (wrap64 ((wrap64 ((wrap64 (a0 - (wrap64 (x4_1 * x4_1)))) - (wrap64 (x5_2 * x5_2)))) - (wrap64 (x6_3 * x6_3))))) = true := bne_iff_ne.mpr c8
            have H' := Aside0.mk H
            clear H
            go_wp2_with (first | ((with_reducible refine gate_callee (f := 30) rfl ?_); refine goesL_ (some 64) rfl rfl Try.func30 (by kernel_rfl) rfl #[.int .i64 (wrap64 ((wrap64 ((wrap64 (a0 - (wrap64 (x4_1 * x4_1)))) - (wrap64 (x5_2 * x5_2)))) - (wrap64 (x6_3 * x6_3))))] rfl k20_ ?_; (with_reducible refine (spec_sqRoot.calls k3 (wrap64 ((wrap64 ((wrap64 (a0 - (wrap64 (x4_1 * x4_1)))) - (wrap64 (x5_2 * x5_2)))) - (wrap64 (x6_3 * x6_3)))) t102 _ A7.out).mono ?_); rintro e w' ⟨rfl, ⟨nd, rfl⟩⟩; refine ⟨_, rfl, ?_⟩))
            go_roundg k3
            case measure => have := HK1.out; have := HK2.out; have := HK3.out; omega
            case rel => exact ⟨(wrap64 (x6_3 + 1)), k32_, H', ⟨by have := HK1.out; have := HK2.out; have := HK3.out; omega⟩, ⟨k23_⟩⟩
          ·rw [if_neg c6] at H
           have c6b0 : decide ((wrap64 ((wrap64 ((wrap64 (x4_1 * x4_1)) + (wrap64 (x5_2 * x5_2)))) + (wrap64 ((wrap64 (2 * x6_3)) * x6_3)))) ≤ a0) = false := decide_eq_false c6
           clear c6
           have H' := Aside0.mk H
           clear H
           go_wp2
           go_roundg k3
           case measure => have := HK1.out; have := HK2.out; have := HK3.out; omega
           case rel => exact ⟨(wrap64 (x5_2 + 1)), k32_, H', ⟨by have := HK1.out; have := HK2.out; have := HK3.out; omega⟩, ⟨k23_⟩⟩
       ·rw [if_neg c5] at H
        have c5b0 : decide ((wrap64 ((wrap64 (x4_1 * x4_1)) + (wrap64 ((wrap64 (3 * x5_2)) * x5_2)))) ≤ a0) = false := decide_eq_false c5
        clear c5
        have H' := Aside0.mk H
        clear H
        go_wp2
        go_roundg k2
        case measure => have := HK1.out; have := HK2.out; omega
        case rel => exact ⟨(wrap64 (x4_1 + 1)), k32_, H', ⟨by have := HK1.out; have := HK2.out; omega⟩, ⟨k23_⟩⟩
    ·rw [if_neg c4] at H
     have c4b0 : decide ((wrap64 ((wrap64 (4 * x4_1)) * x4_1)) ≤ a0) = false := decide_eq_false c4
     clear c4
     simp only [Option.some.injEq, Prod.mk.injEq] at H
     obtain ⟨rfl, rfl⟩ := H
     go_wp2
     go_ret2
     exact ⟨_, k22_, k19_, k23_⟩
 ·replace c3 := Bool.eq_false_iff.mpr c3
  subst c3
  rw [if_neg (show ¬ (false = true) by decide)] at H
  simp only [Option.some.injEq, Prod.mk.injEq] at H
  obtain ⟨rfl, rfl⟩ := H
  go_enter Try.func15, Try.ntmps15
  go_wp2_with (first | ((with_reducible refine gate_callee (f := 34) rfl ?_); refine goesL_ (some 10) rfl rfl Try.func34 (by kernel_rfl) rfl #[.int .i64 a0, .int .i64 1, .int .i64 5000] rfl k20_ ?_; (with_reducible refine (spec_l1In.calls a0 1 5000 false _ A2.out).mono ?_); rintro e w' ⟨rfl, ⟨nd, rfl⟩⟩; refine ⟨_, rfl, ?_⟩))
  go_ret2
  exact ⟨_, k22_, k19_, k23_⟩
end Go.Proofs.Ytidkoannjealfaa.P
namespace Go.Proofs.Ytidkoannjealfaa.P
open Go.RowKit Go.Proofs.YtidkoannjealfaaW.PrintWords Go.Proofs.YtidkoannjealfaaW.PrintLast Go.Proofs.YtidkoannjealfaaW.PrintMore
attribute [local go_sem] max2_int min2_int max_two min_two max_three min_three max_four min_four
set_option linter.unusedVariables false
set_option linter.unusedSimpArgs false
def lays189_ren : Go.Shelf.Ren := ⟨fun | 189 => 44 | 125 => 55 | 257 => 54 | 128 => 67 | 129 => 68 | 294 => 58 | 295 => 59 | 296 => 60 | 297 => 61 | 298 => 62 | 299 => 63 | 216 => 64 | 300 => 65 | 301 => 66 | 328 => 69 | 329 => 70 | 330 => 71 | 331 => 72 | 332 => 73 | 215 => 74 | 343 => 75 | n => n, fun | 28 => 32 | 3 => 3 | 46 => 59 | 0 => 0 | 51 => 70 | 53 => 45 | 4 => 4 | 183 => 63 | 182 => 62 | 131 => 28 | 5 => 5 | 9 => 9 | 218 => 72 | 222 => 76 | 228 => 78 | 229 => 79 | n => n, fun | n => n⟩
theorem lays189 : Go.Proofs.Lays.n189 Try.prog lays189_ren := {
  mixed := by kernel_rfl
  f125 := Try.func55.trans (congrArg some (by kernel_rfl))
  f128 := Try.func67.trans (congrArg some (by kernel_rfl))
  f129 := Try.func68.trans (congrArg some (by kernel_rfl))
  f189 := Try.func44.trans (congrArg some (by kernel_rfl))
  f215 := Try.func74.trans (congrArg some (by kernel_rfl))
  f216 := Try.func64.trans (congrArg some (by kernel_rfl))
  f257 := Try.func54.trans (congrArg some (by kernel_rfl))
  f294 := Try.func58.trans (congrArg some (by kernel_rfl))
  f295 := Try.func59.trans (congrArg some (by kernel_rfl))
  f296 := Try.func60.trans (congrArg some (by kernel_rfl))
  f297 := Try.func61.trans (congrArg some (by kernel_rfl))
  f298 := Try.func62.trans (congrArg some (by kernel_rfl))
  f299 := Try.func63.trans (congrArg some (by kernel_rfl))
  f300 := Try.func65.trans (congrArg some (by kernel_rfl))
  f301 := Try.func66.trans (congrArg some (by kernel_rfl))
  f328 := Try.func69.trans (congrArg some (by kernel_rfl))
  f329 := Try.func70.trans (congrArg some (by kernel_rfl))
  f330 := Try.func71.trans (congrArg some (by kernel_rfl))
  f331 := Try.func72.trans (congrArg some (by kernel_rfl))
  f332 := Try.func73.trans (congrArg some (by kernel_rfl))
  f343 := Try.func75.trans (congrArg some (by kernel_rfl))
  t0 := Try.underlying0
  a0 := Try.isAgg0
  z0 := Try.sizeOf0
  v0 := Try.zeroValue0
  t3 := Try.underlying3
  a3 := Try.isAgg3
  z3 := Try.sizeOf3
  v3 := Try.zeroValue3
  t4 := Try.underlying4
  a4 := Try.isAgg4
  z4 := Try.sizeOf4
  v4 := Try.zeroValue4
  t5 := Try.underlying5
  a5 := Try.isAgg5
  z5 := Try.sizeOf5
  v5 := Try.zeroValue5
  t9 := Try.underlying9
  a9 := Try.isAgg9
  z9 := Try.sizeOf9
  v9 := Try.zeroValue9
  t28 := Try.underlying32
  a28 := Try.isAgg32
  z28 := Try.sizeOf32
  v28 := Try.zeroValue32
  t46 := Try.underlying59
  a46 := Try.isAgg59
  z46 := Try.sizeOf59
  v46 := Try.zeroValue59
  t51 := Try.underlying70
  a51 := Try.isAgg70
  z51 := Try.sizeOf70
  v51 := Try.zeroValue70
  t53 := Try.underlying45
  a53 := Try.isAgg45
  z53 := Try.sizeOf45
  v53 := Try.zeroValue45
  t131 := Try.underlying28
  a131 := Try.isAgg28
  z131 := Try.sizeOf28
  v131 := Try.zeroValue28
  t182 := Try.underlying62
  a182 := Try.isAgg62
  z182 := Try.sizeOf62
  v182 := Try.zeroValue62
  t183 := Try.underlying63
  a183 := Try.isAgg63
  z183 := Try.sizeOf63
  v183 := Try.zeroValue63
  t218 := Try.underlying72
  a218 := Try.isAgg72
  z218 := Try.sizeOf72
  v218 := Try.zeroValue72
  t222 := Try.underlying76
  a222 := Try.isAgg76
  z222 := Try.sizeOf76
  v222 := Try.zeroValue76
  t228 := Try.underlying78
  a228 := Try.isAgg78
  z228 := Try.sizeOf78
  v228 := Try.zeroValue78
  t229 := Try.underlying79
  a229 := Try.isAgg79
  z229 := Try.sizeOf79
  v229 := Try.zeroValue79 }
def sortI (l : List Int) : List Int := l.mergeSort fun x y => decide (x ≤ y)
theorem sortI_len (l : List Int) : (sortI l).length = l.length := List.length_mergeSort _
theorem sorted_heap {w : World} {g n : Nat} {os : Array Obj} {cur : Array Value} {e : TypeId} {fr : Nat × Nat} (d : Array Int) (hb : w.heap[g]? = some (.cells cur e fr)) :
    (Go.Sort.grow (Go.Sort.putRow (Value.int .i64) (Go.Sort.ahead w n) g 0 d) os).heap[g]? = some (.cells (Go.Sort.putCells (Value.int .i64) 0 d cur) e fr) := by
  have hg : g < w.heap.size := (Array.getElem?_eq_some_iff.1 hb).1
  have h1 : (Go.Sort.putRow (Value.int .i64) (Go.Sort.ahead w n) g 0 d).heap[g]? = some (.cells (Go.Sort.putCells (Value.int .i64) 0 d cur) e fr) := by
    simp [Go.Sort.putRow, Go.Sort.mapBlock, Go.Sort.ahead, Array.getElem?_modify, hb, Go.Sort.onCells]
  have h2 : g < (Go.Sort.putRow (Value.int .i64) (Go.Sort.ahead w n) g 0 d).heap.size := (Array.getElem?_eq_some_iff.1 h1).1
  show ((Go.Sort.putRow (Value.int .i64) (Go.Sort.ahead w n) g 0 d).heap ++ os)[g]? = _
  rw [Array.getElem?_append_left h2]
  exact h1
theorem sorted_grown {w : World} {g n : Nat} {os : Array Obj} (d : Array Int) : w.grownBy (Go.Sort.grow (Go.Sort.putRow (Value.int .i64) (Go.Sort.ahead w n) g 0 d) os) (some g) := by
  refine ⟨rfl, rfl, rfl, by simp [Go.Sort.grow, Go.Sort.putRow, Go.Sort.mapBlock, Go.Sort.ahead], fun k hk hne => ?_⟩
  have h1 : k < (Go.Sort.putRow (Value.int .i64) (Go.Sort.ahead w n) g 0 d).heap.size := by simpa [Go.Sort.putRow, Go.Sort.mapBlock, Go.Sort.ahead] using hk
  have : g ≠ k := fun e => hne (by rw [e])
  show ((Go.Sort.putRow (Value.int .i64) (Go.Sort.ahead w n) g 0 d).heap ++ os)[k]? = _
  rw [Array.getElem?_append_left h1]
  simp [Go.Sort.putRow, Go.Sort.mapBlock, Go.Sort.ahead, Array.getElem?_modify, this]
theorem sorted_take (cur : Array Value) (ts : List Int) (h : ts.length ≤ cur.size) : (Go.Sort.putCells (Value.int .i64) 0 ts.toArray cur).toList.take ts.length = ts.map (Value.int .i64) := by
  apply List.ext_getElem?
  intro j
  by_cases hj : j < ts.length
  · rw [List.getElem?_take_of_lt hj, Array.getElem?_toList]
    simp [Go.Sort.putCells, hj, show j < cur.size by omega]
  · rw [List.getElem?_take_eq_none (by omega), List.getElem?_eq_none (by simp; omega)]
set_option maxHeartbeats 2000000 in
theorem sortI_calls (A : Option Addr) (c base : Nat) (ok : Nat → Prop) (xs : List Int) (w : World) (hR : Kd.R (Kd.int .i64) 3 w base ok (.slice A xs.length c) xs) (h0 : 0 < xs.length) (hsz : xs.length < 4611686018427387904) :
    Calls Try.prog 44 #[.slice A xs.length c] w fun e w' => e = .returned (.tuple #[]) ∧ Kd.R (Kd.int .i64) 3 w' base ok (.slice A xs.length c) (sortI xs) ∧ w.grownBy w' (Value.slice A xs.length c).ownBlock := by
  obtain ⟨hok, inner, hown, hr⟩ := hR
  rcases hown.2 with ⟨hv, _⟩ | ⟨g, cap, cur, hv, hg, hh, hnc, hcm, hcs, ht⟩
  · injection hv with _ hn _; omega
  obtain ⟨rfl, -, rfl⟩ := Value.slice.inj hv
  have hlen : inner.length = xs.length := by have := hr.1; rw [this]; show xs.length * 1 = _; omega
  have hin : ∀ j (hj : j < xs.length), inner[j]? = some (.int .i64 xs[j]) := by
    intro j hj
    have h1 := hr.2 j xs[j] (List.getElem?_eq_getElem hj)
    have h2 : (inner.drop (j * 1)).take 1 = [.int .i64 xs[j]] := h1
    have h3 := congrArg (fun l => l[0]?) h2
    simpa using h3
  have hcur : ∀ j (hj : j < xs.length), cur[j]? = some (.int .i64 xs[j]) := by
    intro j hj
    rw [← hin j hj, ← ht, List.getElem?_take_of_lt (by show j < xs.length * 1; omega), Array.getElem?_toList]
  have hH : Go.Sort.Holds (Value.int .i64) w g 0 xs.toArray := by
    intro j hj
    have hj' : j < xs.length := by simpa using hj
    rw [Nat.zero_add]
    refine ⟨?_, blk_frozen hh j⟩
    rw [blk_cell hh j, hcur j hj']
    simp [hj']
  refine (Any.slices_Sort_int lays189 g 0 c xs w hH (Array.getElem?_eq_some_iff.1 hh).1 hsz).mono ?_
  rintro e w' ⟨rfl, n, os, rfl⟩
  refine ⟨rfl, ⟨hok, (sortI xs).map (Value.int .i64), ⟨?_, .inr ⟨g, c, _, ?_, hg, sorted_heap _ hh, ?_, hcm, ?_, ?_⟩⟩, ?_, ?_⟩, sorted_grown _⟩
  · show _ = (sortI xs).length * 1; simp
  · rw [sortI_len]
  · rw [sortI_len]; exact hnc
  · rw [← hcs]; simp [Go.Sort.putCells]
  · show List.take ((sortI xs).length * 1) _ = _
    rw [Nat.mul_one]
    refine sorted_take cur (sortI xs) ?_
    rw [sortI_len, hcs]
    show xs.length ≤ c * 1
    omega
  · show _ = (sortI xs).length * 1; simp
  · intro j p hp
    show ((List.map (Value.int .i64) (sortI xs)).drop (j * 1)).take 1 = [.int .i64 p]
    obtain ⟨hj, rfl⟩ := List.getElem?_eq_some_iff.1 hp
    rw [Nat.mul_one, List.drop_eq_getElem_cons (by simpa using hj)]
    simp
section
variable {P : Program} {ops : Array Oper} {rest : List Oper} {o : Oper} {a : Act} {Q : Exit → Act → World → Prop}
theorem app_keep {w0 W : World} (base : Nat) (hgd : o.guard = none) (s x : Operand) (t e : TypeId) (z : Value) (bytes : Nat)
    (ho : o.op = .call { callee := .builtin .append, args := #[s, x], argTypes := #[t, t] })
    (ht : P.underlying t = some (.slice e)) (hinfo : (P.info? e).map (fun i => (i.zero, i.size, i.bytes)) = some (some z, 1, bytes)) (hz : z.cells.size = 1) (hb0 : 0 < bytes)
    (v : Value) (xs : List Int) (p : Int) (ok : Nat → Prop) (hs : a.eval s = v) (hx : a.eval x = .slice (some ⟨W.heap.size, 0, none⟩) 1 1) (hfresh : ∀ k, W.heap.size ≤ k → ok k)
    (HO : (Kd.int .i64).R e W base ok v xs) (hne : 0 < xs.length) (HB : Below base w0 W) (hbase : base ≤ W.heap.size) (hl : (xs.length + 1) * bytes ≤ 140737488355328)
    (h : ∀ v1 w1, (Kd.int .i64).R e w1 base ok v1 (xs ++ [p]) → Below base w0 w1 → W.grownBy w1 v.ownBlock → W.grownBy w1 v1.ownBlock → (v1.ownBlock = v.ownBlock ∨ ∃ b, v1.ownBlock = some b ∧ W.heap.size ≤ b) → wpList P ops Q rest (a.put o.dst v1) w1) :
    wpList P ops Q (o :: rest) a (W.alloc (.cells [Value.int .i64 p].toArray e)) := by
  obtain ⟨h0, inner, hown, hr⟩ := HO
  obtain ⟨i0, hi, hzz⟩ := Option.map_eq_some_iff.1 hinfo
  simp only [Prod.mk.injEq] at hzz
  obtain ⟨hz0, hz1, hz2⟩ := hzz
  have hlen : xs.length + 1 ≤ 140737488355328 := Nat.le_trans (Nat.le_mul_of_pos_right _ hb0) hl
  have hnews : ∀ j u, [Value.int .i64 p][j]? = some u → (W.alloc (.cells [Value.int .i64 p].toArray e)).cell? ((⟨W.heap.size, 0, none⟩ : Addr).add j) = some u := cell_one_new W _ e
  have h1 : ∀ u ∈ [Value.int .i64 p], u.oneCell' = true := fun u hu => by rw [List.mem_singleton.1 hu]; rfl
  have h63 : xs.length + 1 ≤ maxLen := by simp only [maxLen]; omega
  refine wpList_plain hgd fun K hK => ?_
  obtain ⟨v', w', hrun, h2, h3, h4, h5⟩ := run_append_own_at (P := P) (W.alloc (.cells [Value.int .i64 p].toArray e)) base t o.type e i0 z 1 bytes ht hi hz0 hz1 hz2 hz (by omega) v xs.length inner (hown.alloc _) ⟨W.heap.size, 0, none⟩ 1 1 [.int .i64 p] rfl hnews h1 h63 hl (by simp; omega)
  have hg2 : (W.alloc (.cells [Value.int .i64 p].toArray e)).grownBy w' v'.ownBlock := by
    rcases (hown.alloc (.cells [Value.int .i64 p].toArray e)).2 with ⟨_, hn⟩ | ⟨g, cap, cur, hv, hbg, hgc, hnc, hcm, hcs, htake⟩
    · omega
    by_cases hroom : xs.length + 1 ≤ cap
    · have hr2 := run_append_room (P := P) (W.alloc (.cells [Value.int .i64 p].toArray e)) t o.type e i0 ht hi g xs.length cap cur hgc ⟨W.heap.size, 0, none⟩ 1 1 [.int .i64 p] (by rw [hz1]; rfl) hnews h1 hroom (by rw [hz1, hcs]; show xs.length * 1 + 1 ≤ cap * 1; omega)
      rw [← hv, hrun] at hr2
      simp only [Result.ok.injEq] at hr2
      have e1 : v'.ownBlock = v.ownBlock := by rw [hr2.1, hv]; rfl
      rw [e1]; exact h3
    · have holds : ∀ j u, inner[j]? = some u → (W.alloc (.cells [Value.int .i64 p].toArray e)).cell? ((⟨g, 0, none⟩ : Addr).add j) = some u := (hown.alloc _).cells (g := g) (by rw [hv]; rfl)
      have hr2 := run_append_grow (P := P) (W.alloc (.cells [Value.int .i64 p].toArray e)) t o.type e i0 z ht hi hz0 ⟨g, 0, none⟩ xs.length cap inner (by rw [hz1]; exact hown.1) holds ⟨W.heap.size, 0, none⟩ 1 1 [.int .i64 p] (by rw [hz1]; rfl) hnews (by omega) (by omega) (growslice_fits (by omega) (by rw [hz2]; exact hl))
      rw [← hv, hrun] at hr2
      simp only [Result.ok.injEq] at hr2
      obtain ⟨-, rfl⟩ := hr2
      exact ⟨rfl, rfl, rfl, by simp, fun k hk _ => by first | exact heap_alloc_old _ _ hk | exact Go.heap_alloc_old _ _ k hk⟩
  unfold Oper.wp execOp
  simp only [ho, resolve, invoke, builtin, Sem.run_bind, Sem.run_pure, Result.andThen_ok, List.map_toArray, List.map_cons, List.map_nil, hs, hx, hrun]
  have hg' : W.grownBy w' v.ownBlock := World.grownBy.trans (World.grownBy_alloc W _ _) h3
  have hat' : v'.ownBlock = v.ownBlock ∨ ∃ b, v'.ownBlock = some b ∧ W.heap.size ≤ b := by
    rcases h5 with h5 | h5
    · exact .inl h5
    · exact .inr ⟨_, h5, by simp⟩
  exact hK _ _ (h v' w' (Kd.R_appended h0 hr (show (Kd.int .i64).M W base (fun _ => False) p [.int .i64 p] from rfl) (fun _ hk => hk.elim) hfresh h2 hg' hat') ((HB.alloc hbase _).grown h3 (by simp; omega) (own_base hown)) hg' (World.grownBy.trans (World.grownBy_alloc W _ _) hg2) hat')
end
def Ahead (e base : Nat) (W : World) (A : Option Addr) (v : Value) (x ys : List Int) : Prop :=
  ys.length ≤ x.length ∧ ((∃ c, v = .slice A x.length c ∧ ys = x.take ys.length) ∨ ∃ c, (Kd.int .i64).R e W base (fun _ => True) (.slice A ys.length c) ys ∧ v.ownBlock ≠ (Value.slice A 0 0).ownBlock)
theorem Ahead.reads {e base : Nat} {W : World} {A : Option Addr} {v : Value} {x ys : List Int} (h : Ahead e base W A v x ys) {ok : Nat → Prop} (hR : (Kd.int .i64).R e W base ok v x) : Kd.C (Kd.int .i64) W A ys.length ys := by
  obtain ⟨hl, ⟨c, rfl, h2⟩ | ⟨c, h2, _⟩⟩ := h
  · have h3 := Kd.C_take (m := ys.length) (Kd.R_reads' hR).2.2 hl
    rwa [← h2] at h3
  · exact (Kd.R_reads' h2).2.2
theorem Ahead.below {e base : Nat} {W W1 : World} {A : Option Addr} {v : Value} {x ys : List Int} (h : Ahead e base W A v x ys) (hb : Below W.heap.size W W1) : Ahead e base W1 A v x ys := by
  obtain ⟨hl, h2 | ⟨c, h2, h3⟩⟩ := h
  · exact ⟨hl, .inl h2⟩
  · exact ⟨hl, .inr ⟨c, Kd.R_below h2 hb, h3⟩⟩
theorem Ahead.step {e base : Nat} {W w1 : World} {A : Option Addr} {v v1 : Value} {x ys : List Int} {p : Int} (h : Ahead e base W A v x ys) (hR : (Kd.int .i64).R e W base (fun _ => True) v x) (hR1 : (Kd.int .i64).R e w1 base (fun _ => True) v1 (x ++ [p])) (hg : W.grownBy w1 v.ownBlock) (hg2 : W.grownBy w1 v1.ownBlock) (hat : v1.ownBlock = v.ownBlock ∨ ∃ b, v1.ownBlock = some b ∧ W.heap.size ≤ b) (hne : 0 < x.length) : Ahead e base w1 A v1 (x ++ [p]) ys := by
  obtain ⟨hl, ⟨c, rfl, h2⟩ | ⟨c, h2, h3⟩⟩ := h
  · refine ⟨by rw [List.length_append]; omega, ?_⟩
    obtain ⟨g, cap, eG, -, hgl, -⟩ := Kd.R_form hR hne
    obtain ⟨rfl, -, rfl⟩ := Value.slice.inj eG
    rcases hat with e1 | ⟨b, e1, hb⟩
    · obtain ⟨g1, cap1, eG1, -, -, -⟩ := Kd.R_form hR1 (by simp)
      subst eG1
      have e2 : g1 = g := by simpa [Value.ownBlock] using e1
      subst e2
      exact .inl ⟨cap1, rfl, by rw [List.take_append_of_le_length hl]; exact h2⟩
    · have hne1 : v1.ownBlock ≠ (Value.slice (some ⟨g, 0, none⟩) ys.length c).ownBlock := by
        rw [e1]
        intro he
        have : b = g := by simpa [Value.ownBlock] using he
        omega
      have h4 := Kd.R_take hR hl
      rw [← h2] at h4
      exact .inr ⟨c, Kd.R_grown1 h4 rfl hg2 hne1, hne1⟩
  · have e0 : (Value.slice A ys.length c).ownBlock = (Value.slice A 0 0).ownBlock := by cases A <;> rfl
    refine ⟨by rw [List.length_append]; omega, .inr ⟨c, Kd.R_grown1 h2 rfl hg (by rw [e0]; exact h3), ?_⟩⟩
    rcases hat with e1 | ⟨b, e1, hb⟩
    · rw [e1]; exact h3
    · rw [e1]
      intro he
      have := Kd.R_lt h2 b (e0.trans he.symm)
      omega
end Go.Proofs.Ytidkoannjealfaa.P
namespace Go.Proofs.Ytidkoannjealfaa.P
open Go.RowKit Go.Proofs.YtidkoannjealfaaW.PrintWords Go.Proofs.YtidkoannjealfaaW.PrintLast Go.Proofs.YtidkoannjealfaaW.PrintMore
attribute [local go_sem] max2_int min2_int max_two min_two max_three min_three max_four min_four
set_option linter.unusedVariables false
set_option linter.unusedSimpArgs false
mutual
def impl_divisors.l0 : Nat → List Int → List (List Int) → Int → Int → Option (List Int)
 | 0, _, _, _, _ => none
 | k + 1, x3, x12, x13, x14 => if x14 < x13 then (if 0 ≤ x14 then (if x14 < (x12.length : Int) then (if 1 < ((rd_Ints x12 x14).length : Int) then (impl_divisors.l1 k x3 (rd_Ints x12 x14) (x3.length : Int) 1 x12 x13 x14 (rd (rd_Ints x12 x14) 1) 0) else (none)) else (none)) else (none)) else (if 0 < x3.length ∧ x3.length < 4611686018427387904 then some (sortI x3) else none)
def impl_divisors.l1 : Nat → List Int → List Int → Int → Int → List (List Int) → Int → Int → Int → Int → Option (List Int)
 | 0, _, _, _, _, _, _, _, _, _ => none
 | k + 1, x3, x5, x6, x7, x12, x13, x14, x22, x23 => if x23 < x22 then (if 0 < (x5.length : Int) then (if 0 ≤ x6 then (if x6 ≤ (x3.length : Int) then ((some (x3.take (x6 : Int).toNat : List Int)).bind fun y110 => (impl_divisors.l2 k x3 x5 x6 (wrap64 (x7 * (rd x5 0))) x12 x13 x14 x22 x23 y110 (y110.length : Int) 0)) else (none)) else (none)) else (none)) else (impl_divisors.l0 k x3 x12 x13 (wrap64 (x14 + 1)))
def impl_divisors.l2 : Nat → List Int → List Int → Int → Int → List (List Int) → Int → Int → Int → Int → List Int → Int → Int → Option (List Int)
 | 0, _, _, _, _, _, _, _, _, _, _, _, _ => none
 | k + 1, x3, x5, x6, x7, x12, x13, x14, x22, x23, x32, x33, x34 => if x34 < x33 then (if 0 ≤ x34 then (if x34 < (x32.length : Int) then (if x3.length < 17592186044416 then (impl_divisors.l2 k (x3 ++ [wrap64 ((rd x32 x34) * x7)]) x5 x6 x7 x12 x13 x14 x22 x23 x32 x33 (wrap64 (x34 + 1))) else (none)) else (none)) else (none)) else (impl_divisors.l1 k x3 x5 x6 x7 x12 x13 x14 x22 (wrap64 (x23 + 1)))
end
def impl_divisors.f (k : Nat) (a0 : Int) : Option (List Int) := (impl_factors.f k a0).bind fun t104 => (impl_divisors.l0 k (([1] : List Int)) t104 (t104.length : Int) 0)
set_option maxHeartbeats 8000000 in
set_option maxRecDepth 100000 in
theorem impl_divisors.calls (k : Nat) (a0 : Int) (r : List Int) (w : World) (h : impl_divisors.f k a0 = some r) :
  Calls Try.prog 31 #[.int .i64 a0] w fun e w' => ∃ v0_ : Value, e = .returned (v0_) ∧ Kd.R (Kd.int .i64) 3 w' w.heap.size (fun _ => True) v0_ r ∧ Below w.heap.size w w' := by
 have HB := Aside0.mk (Below.refl w.heap.size w)
 have H : ((impl_factors.f k a0).bind fun t104 => (impl_divisors.l0 k (([1] : List Int)) t104 (t104.length : Int) 0)) = some r := h
 clear h
 obtain ⟨y101, hy_⟩ : ∃ y_ : List Int, y_ = (([1] : List Int)) := ⟨_, rfl⟩
 replace H : ((impl_factors.f k a0).bind fun t104 => (impl_divisors.l0 k y101 t104 (t104.length : Int) 0)) = some r := k0_
 have Ny101 := Aside0.mk hy_
 clear hy_
 obtain ⟨t104, A2, H⟩ := obnd_ H
 (try dsimp only at H)
 have H' := Aside0.mk H
 clear H
 go_enter Try.func31, Try.ntmps31
 go_wp2_with (first | ((with_reducible refine gate_dst (N := 10) rfl ?_); refine Kd.R_lit (Kd.int .i64) _ 3 ?hg (N := 10) ?hd (xs := ([1] : List Int)) (inner := [.int .i64 1]) (ok := fun _ => True) (okp := fun _ => True) ?hr ?hp (fun _ hk => hk) trivial (Below.refl _ _) (Nat.le_refl _) (by simp) ?_; (case hd => rfl); (case hg => rfl); (case hr => exact k33_); (case hp => exact (Reps.one (show Kd.M (Kd.int .i64) _ _ _ 1 [.int .i64 1] from rfl) (Reps.none _ _))); intro v102 w3 ho4 hb hg_ hnew_; clear hg_ hnew_; (first | rw [← Ny101.out] at ho4 | (simp only [Int.reduceToNat] at ho4; rw [← Ny101.out] at ho4)); have HO103 := Aside0.mk (Kd.R_lower ho4 (below_size k23_)); replace HB := HB.mw hb; clear hb ho4) | ((with_reducible refine gate_callee (f := 43) rfl ?_); refine goesL_ (some 12) rfl rfl Try.func43 (by kernel_rfl) rfl #[.int .i64 a0] rfl k20_ ?_; (with_reducible refine (impl_factors.calls k a0 t104 _ A2.out).mono ?_); rintro e w5 ⟨v105, rfl, ho0, hb⟩; refine ⟨_, rfl, ?_⟩; have HO106 := Aside0.mk (Kd.S_lower (Kd.S_new' ho0 (Kd.R_lt (by apply_rules only [HO103.out, Kd.R_alloc, Kd.R_drewN, Kd.R_drew]))) (below_size k23_)); replace HO103 := HO103.mw hb; replace HB := HB.mw hb; (try clear hb ho0); obtain ⟨Ao6, co6, eo6⟩ := Kd.S_slice HO106.out; subst eo6))
 go_loopg [3, 14] k (fun kq v3 v14 w' => ∃ (x3_1 : List Int) (x14_1 : Int), v14 = .int .i64 x14_1 ∧ Aside0 (impl_divisors.l0 kq x3_1 t104 (t104.length : Int) x14_1 = some r) ∧ Aside0 (kq ≤ k) ∧ Aside0 (Kd.R (Kd.int .i64) 3 w' w.heap.size (fun _ => True) v3 x3_1) ∧ Aside0 (Kd.S (Kd.slice 3 (Kd.int .i64)) 32 w' w.heap.size (fun k_ => some k_ ≠ (v3 : Value).ownBlock) (.slice Ao6 t104.length co6) t104) ∧ Aside0 (Below w.heap.size w w'))
 case atStart => exact ⟨(y101), (0), k32_, H', ⟨Nat.le_refl _⟩, ⟨by apply_rules only [HO103.out, Kd.R_alloc, Kd.R_drewN, Kd.R_drew]⟩, ⟨by (with_reducible repeat (first | apply Kd.S_alloc | apply Kd.S_drewN | apply Kd.S_drew)); exact Kd.S_mono HO106.out (fun _ hk => hk.2)⟩, ⟨k23_⟩⟩
 case round =>
  clear H'
  obtain ⟨x3_1, x14_1, rfl, HA, HK1, HO_3, HO_12, HB⟩ := hrel
  cases gk with
  | zero => exact absurd HA.out (by simp [impl_divisors.l0])
  | succ k1 =>
   have H := HA.out
   clear HA
   simp only [impl_divisors.l0] at H
   by_cases c7 : x14_1 < (t104.length : Int)
   ·rw [if_pos c7] at H
    have c7b0 : decide (x14_1 < (t104.length : Int)) = true := decide_eq_true c7
    clear c7
    by_cases c8 : 0 ≤ x14_1
    ·rw [if_pos c8] at H
     have c8b0 : decide (0 ≤ x14_1) = true := decide_eq_true c8
     clear c8
     by_cases c9 : x14_1 < (t104.length : Int)
     ·rw [if_pos c9] at H
      have c9b0 : decide (x14_1 < (t104.length : Int)) = true := decide_eq_true c9
      clear c9
      by_cases c10 : 1 < ((rd_Ints t104 x14_1).length : Int)
      ·rw [if_pos c10] at H
       have c10b0 : decide (1 < ((rd_Ints t104 x14_1).length : Int)) = true := decide_eq_true c10
       have c10b1 : decide (1 < (rd_Ints t104 x14_1).length) = true := decide_eq_true (by omega)
       clear c10
       have H' := Aside0.mk H
       clear H
       have p107 : 0 ≤ (x14_1 : Int) := of_decide_eq_true k31_
       have q107 : x14_1 < (t104.length : Int) := of_decide_eq_true k31_
       obtain ⟨ad107, A107_0, c107_0, e107, hx107_0, hl107_0, hi107_0⟩ := at_Ints (Kd.S_reads' HO_12.out).2.2 x14_1 p107 q107
       cases e107
       obtain ⟨ce107, hce107, hMe107, hcc107⟩ := Kd.S_get HO_12.out [] x14_1 p107 (by first | exact q107 | exact of_decide_eq_true k31_ | (have e_ := (Kd.S_reads' HO_12.out).1; omega))
       obtain ⟨ve107_0, rfl, ge107_0⟩ := hMe107
       have hv107_0 := hcc107 0 _ rfl
       rw [Nat.add_zero, show ((Kd.slice 3 (Kd.int .i64))).sz = 1 from rfl, Nat.mul_one] at hv107_0
       replace hv107_0 := Option.some.inj (hv107_0.symm.trans hx107_0)
       rw [hv107_0] at ge107_0
       have HL107_0 := Aside0.mk (show Kd.R (Kd.int .i64) 3 _ _ _ _ (rd_Ints t104 x14_1) from ge107_0)
       clear hv107_0 ge107_0
       clear hcc107 hce107
       have HR107_0 := Aside0.mk hi107_0
       have HC107_0 := Aside0.mk hl107_0
       clear hi107_0 hl107_0
       replace p107 := eq_true p107
       replace q107 := eq_true q107
       obtain ⟨Ao11, co11, eo11⟩ := Kd.R_slice HO_3.out
       subst eo11
       have p108 : 0 ≤ (1 : Int) := (by omega)
       have q108 : 1 < ((rd_Ints t104 x14_1).length : Int) := of_decide_eq_true k31_
       obtain ⟨ad108, e108, hx108_0⟩ := Kd.at_int (by repeat (first | (with_reducible exact HR107_0.out) | (with_reducible refine Kd.C_alloc ?_ _) | (with_reducible refine Kd.C_drewN ?_ _) | (with_reducible refine Kd.C_drew ?_) | exact HR107_0.out)) 1 p108 q108
       cases e108
       (try simp only [show (1 : Int).toNat = 1 from rfl, Nat.reduceMul, Nat.reduceEqDiff, Go.Addr.add, ↓reduceIte] at hx108_0)
       have qi108 : (1 < (rd_Ints t104 x14_1).length) = True := eq_true (by omega)
       (try rw [show ((1 : Int)).toNat = 1 from rfl] at hx108_0)
       replace p108 := eq_true p108
       replace q108 := eq_true q108
       go_wp2
       go_loopg [3, 7, 23] k1 (fun kq v3 v7 v23 w' => ∃ (x3_2 : List Int) (x7_2 : Int) (x23_2 : Int), v7 = .int .i64 x7_2 ∧ v23 = .int .i64 x23_2 ∧ Aside0 (impl_divisors.l1 kq x3_2 (rd_Ints t104 x14_1) (x3_1.length : Int) x7_2 t104 (t104.length : Int) x14_1 (rd (rd_Ints t104 x14_1) 1) x23_2 = some r) ∧ Aside0 (kq ≤ k1) ∧ Aside0 (Kd.R (Kd.int .i64) 3 w' w.heap.size (fun _ => True) v3 x3_2) ∧ Aside0 (Kd.S (Kd.slice 3 (Kd.int .i64)) 32 w' w.heap.size (fun k_ => some k_ ≠ (v3 : Value).ownBlock) (.slice (some ad107) t104.length co6) t104) ∧ Aside0 (Below w.heap.size w w') ∧ Aside0 (Kd.R (Kd.int .i64) 3 w' w.heap.size (fun k_ => some k_ ≠ (v3 : Value).ownBlock) (.slice (some ad108) (rd_Ints t104 x14_1).length c107_0) (rd_Ints t104 x14_1)))
       case atStart => exact ⟨(x3_1), (1), (0), k32_, k32_, H', ⟨Nat.le_refl _⟩, ⟨by apply_rules only [HO_3.out, Kd.R_alloc, Kd.R_drewN, Kd.R_drew]⟩, ⟨by apply_rules only [HO_12.out, Kd.S_alloc, Kd.S_drewN, Kd.S_drew]⟩, ⟨k23_⟩, ⟨by (with_reducible repeat (first | apply Kd.R_alloc | apply Kd.R_drewN | apply Kd.R_drew)); exact Kd.R_mono HL107_0.out (fun _ hk => by first | exact hk | exact hk.2 | exact hk.1 | exact hk.1.1 | exact hk.1.2 | exact hk.1.1.1 | exact hk.1.1.2)⟩⟩
       case round =>
        clear H'
        skip
        obtain ⟨x3_2, x7_2, x23_2, rfl, rfl, HA, HK2, HO_3, HO_12, HB, HF_⟩ := hrel
        cases gk with
        | zero => exact absurd HA.out (by simp [impl_divisors.l1])
        | succ k2 =>
         have H := HA.out
         clear HA
         simp only [impl_divisors.l1] at H
         by_cases c12 : x23_2 < (rd (rd_Ints t104 x14_1) 1)
         ·rw [if_pos c12] at H
          have c12b0 : decide (x23_2 < (rd (rd_Ints t104 x14_1) 1)) = true := decide_eq_true c12
          clear c12
          by_cases c13 : 0 < ((rd_Ints t104 x14_1).length : Int)
          ·rw [if_pos c13] at H
           have c13b0 : decide (0 < ((rd_Ints t104 x14_1).length : Int)) = true := decide_eq_true c13
           have c13b1 : decide (0 < (rd_Ints t104 x14_1).length) = true := decide_eq_true (by omega)
           clear c13
           by_cases c14 : 0 ≤ (x3_1.length : Int)
           ·rw [if_pos c14] at H
            have c14b0 := eq_true c14
            have c14b1 : decide (0 ≤ (x3_1.length : Int)) = true := decide_eq_true c14
            clear c14
            by_cases c15 : (x3_1.length : Int) ≤ (x3_2.length : Int)
            ·rw [if_pos c15] at H
             have c15b0 := eq_true c15
             have c15b1 : decide ((x3_1.length : Int) ≤ (x3_2.length : Int)) = true := decide_eq_true c15
             clear c15
             obtain ⟨y110, hy_⟩ : ∃ y_ : List Int, y_ = (x3_2.take ((x3_1.length : Int) : Int).toNat) := ⟨_, rfl⟩
             replace H : (impl_divisors.l2 k2 x3_2 (rd_Ints t104 x14_1) (x3_1.length : Int) (wrap64 (x7_2 * (rd (rd_Ints t104 x14_1) 0))) t104 (t104.length : Int) x14_1 (rd (rd_Ints t104 x14_1) 1) x23_2 y110 (y110.length : Int) 0) = some r := k0_
             have Ny110 := Aside0.mk hy_
             clear hy_
             have H' := Aside0.mk H
             clear H
             have p109 : 0 ≤ (0 : Int) := (by omega)
             have q109 : 0 < ((rd_Ints t104 x14_1).length : Int) := of_decide_eq_true k31_
             obtain ⟨ad109, e109, hx109_0⟩ := Kd.at_int (Kd.R_reads' HF_.out).2.2 0 p109 q109
             obtain rfl : ad108 = ad109 := (by injection e109)
             have qi109 : (0 < (rd_Ints t104 x14_1).length) = True := eq_true (by omega)
             (try rw [show ((0 : Int)).toNat = 0 from rfl] at hx109_0)
             (try rw [Addr.add_zero'] at hx109_0)
             skip
             replace p109 := eq_true p109
             replace q109 := eq_true q109
             obtain ⟨Ao17, co17, eo17⟩ := Kd.R_slice HO_3.out
             subst eo17
             have q16 : ((x3_1.length : Int) : Int) ≤ ((x3_2.length : Int) : Int) := of_decide_eq_true k31_
             obtain ⟨i016, hi016, _, hsz16, _⟩ := info_parts info3
             have hroom16 : x3_2.length ≤ co17 := (Kd.R_reads' HO_3.out).2.1
             have hC16 : Kd.C (Kd.int .i64) _ Ao17 x3_2.length x3_2 := (Kd.R_reads' HO_3.out).2.2
             have hcut16 := cut_to (P := Try.prog) 32 3 .i64 Try.underlying32 hi016 Ao17 x3_2.length co17 (x3_1.length : Int) (of_decide_eq_true k31_) q16 hroom16
             have hr16 := Kd.C_take (m := ((x3_1.length : Int) : Int).toNat) hC16 (by omega)
             have hy16 : y110.length = ((x3_1.length : Int) : Int).toNat := (by rw [Ny110.out, List.length_take]; omega)
             rw [← Ny110.out] at hr16
             rw [← hy16] at hcut16
             have HR113 := Aside0.mk hr16
             have HC113 := Aside0.mk (show y110.length ≤ co17 from by omega)
             clear hr16 hC16 hroom16 hi016 hsz16
             have KY16 := Aside0.mk hy16
             clear hy16
             have KL16 := Aside0.mk (show ((x3_1.length : Int) : Int).toNat ≤ x3_2.length from by omega)
             have HAH_ := Aside0.mk (show Ahead 3 w.heap.size _ Ao17 (.slice Ao17 x3_2.length co17) x3_2 y110 from ⟨by have := KY16.out; have := KL16.out; omega, .inl ⟨_, rfl, by rw [KY16.out]; exact Ny110.out⟩⟩ : Ahead 3 w.heap.size wr Ao17 (.slice Ao17 x3_2.length co17) x3_2 y110)
             replace q16 := eq_true q16
             go_wp2
             go_loopg [3, 34] k2 (fun kq v3 v34 w' => ∃ (x3_3 : List Int) (x34_3 : Int), v34 = .int .i64 x34_3 ∧ Aside0 (impl_divisors.l2 kq x3_3 (rd_Ints t104 x14_1) (x3_1.length : Int) (wrap64 (x7_2 * (rd (rd_Ints t104 x14_1) 0))) t104 (t104.length : Int) x14_1 (rd (rd_Ints t104 x14_1) 1) x23_2 y110 (y110.length : Int) x34_3 = some r) ∧ Aside0 (kq ≤ k2) ∧ Aside0 (Kd.R (Kd.int .i64) 3 w' w.heap.size (fun _ => True) v3 x3_3) ∧ Aside0 (Kd.S (Kd.slice 3 (Kd.int .i64)) 32 w' w.heap.size (fun k_ => some k_ ≠ (v3 : Value).ownBlock) (.slice (some ad107) t104.length co6) t104) ∧ Aside0 (Below w.heap.size w w') ∧ Aside0 (Kd.R (Kd.int .i64) 3 w' w.heap.size (fun k_ => some k_ ≠ (v3 : Value).ownBlock) (.slice (some ad108) (rd_Ints t104 x14_1).length c107_0) (rd_Ints t104 x14_1)) ∧ Aside0 (Ahead 3 w.heap.size w' Ao17 v3 x3_3 y110))
             case atStart => exact ⟨(x3_2), (0), k32_, H', ⟨Nat.le_refl _⟩, ⟨by apply_rules only [HO_3.out, Kd.R_alloc, Kd.R_drewN, Kd.R_drew]⟩, ⟨by apply_rules only [HO_12.out, Kd.S_alloc, Kd.S_drewN, Kd.S_drew]⟩, ⟨k23_⟩, ⟨by apply_rules only [HF_.out, Kd.R_alloc, Kd.R_drewN, Kd.R_drew]⟩, ⟨by (first | exact HAH_.out | (refine Ahead.below HAH_.out ?_; apply_rules only [Below.refl, below_alloc, pw_below_drewN, below_drew1]))⟩⟩
             case round =>
              clear H'
              (try clear c7); (try clear c7b0); (try clear c8); (try clear c8b0); (try clear c9); (try clear c9b0); (try clear c10); (try clear c10b0); (try clear c10b1); (try clear c12); (try clear c12b0); (try clear c13); (try clear c13b0); (try clear c13b1); (try clear c14); (try clear c14b0); (try clear c14b1); (try clear c15); (try clear c15b0); (try clear c15b1); (try clear q16); (try clear hx107_0); (try clear hx108_0); (try clear hx109_0); (try clear p107); (try clear p108); (try clear p109); (try clear q107); (try clear q108); (try clear q109)
              clear HO_3 HO_12 HF_ HAH_
              obtain ⟨x3_3, x34_3, rfl, HA, HK3, HO_3, HO_12, HB, HFB_, HAB_⟩ := hrel
              cases gk with
              | zero => exact absurd HA.out (by simp [impl_divisors.l2])
              | succ k3 =>
               have H := HA.out
               clear HA
               simp only [impl_divisors.l2] at H
               by_cases c18 : x34_3 < (y110.length : Int)
               ·rw [if_pos c18] at H
                have c18b0 : decide (x34_3 < (y110.length : Int)) = true := decide_eq_true c18
                clear c18
                by_cases c19 : 0 ≤ x34_3
                ·rw [if_pos c19] at H
                 have c19b0 : decide (0 ≤ x34_3) = true := decide_eq_true c19
                 clear c19
                 by_cases c20 : x34_3 < (y110.length : Int)
                 ·rw [if_pos c20] at H
                  have c20b0 : decide (x34_3 < (y110.length : Int)) = true := decide_eq_true c20
                  clear c20
                  by_cases c21 : x3_3.length < 17592186044416
                  ·rw [if_pos c21] at H
                   have LMc21 := Aside0.mk c21
                   clear c21
                   obtain ⟨y115, hy_⟩ : ∃ y_ : List Int, y_ = (x3_3 ++ [wrap64 ((rd y110 x34_3) * (wrap64 (x7_2 * (rd (rd_Ints t104 x14_1) 0))))]) := ⟨_, rfl⟩
                   replace H : (impl_divisors.l2 k3 y115 (rd_Ints t104 x14_1) (x3_1.length : Int) (wrap64 (x7_2 * (rd (rd_Ints t104 x14_1) 0))) t104 (t104.length : Int) x14_1 (rd (rd_Ints t104 x14_1) 1) x23_2 y110 (y110.length : Int) (wrap64 (x34_3 + 1))) = some r := k0_
                   have Ny115 := Aside0.mk hy_
                   clear hy_
                   have H' := Aside0.mk H
                   clear H
                   have p114 : 0 ≤ (x34_3 : Int) := of_decide_eq_true k31_
                   have q114 : x34_3 < (y110.length : Int) := of_decide_eq_true k31_
                   obtain ⟨ad114, e114, hx114_0⟩ := Kd.at_int (HAB_.out.reads HO_3.out) x34_3 p114 q114
                   cases e114
                   have HN3 := Aside0.mk (show 0 < x3_3.length by have := HAB_.out.1; have := of_decide_eq_true k31_ (p := x34_3 < (y110.length : Int)); omega)
                   replace p114 := eq_true p114
                   replace q114 := eq_true q114
                   go_wp2_with (first | ((with_reducible refine gate_builtin (b := .append) (xs := #[.tmp 38, .tmp 42]) rfl ?_); at_builtin; refine app_keep (w0 := w) w.heap.size rfl (.tmp 38) (.tmp 42) 32 3 (.int .i64 0) 8 rfl Try.underlying32 info3 rfl (by omega) u3 x3_3 (wrap64 ((rd y110 x34_3) * (wrap64 (x7_2 * (rd (rd_Ints t104 x14_1) 0))))) (fun _ => True) rfl rfl (fun _ _ => trivial) ?aO HN3.out ?aB ?aS ?aL ?_; (case aB => exact k23_); (case aO => exact (by apply_rules only [HO_3.out, Kd.R_alloc, Kd.R_drewN, Kd.R_drew])); (case aS => exact (below_size k23_)); (case aL => have := LMc21.out; omega); intro v116 w22 ho hb hg hg2 hat; replace HAB_ := Aside0.mk (Ahead.step (by first | exact HAB_.out | (refine Ahead.below HAB_.out ?_; apply_rules only [Below.refl, below_alloc, pw_below_drewN, below_drew1])) (by apply_rules only [HO_3.out, Kd.R_alloc, Kd.R_drewN, Kd.R_drew]) ho hg hg2 hat HN3.out); replace HFB_ := Aside0.mk (Kd.R_after (ok := (fun _ => True)) (by (with_reducible repeat (first | apply Kd.R_alloc | apply Kd.R_drewN | apply Kd.R_drew)); exact Kd.R_mono HFB_.out (fun _ hk => ⟨trivial, hk⟩)) hg hat); rw [← Ny115.out] at ho; replace HAB_ : Aside0 (Ahead 3 w.heap.size w22 _ v116 y115 y110) := by { have h_ := HAB_; rw [← Ny115.out] at h_; exact h_ }; replace HO_12 := Aside0.mk (Kd.S_after (ok := (fun _ => True)) (by (with_reducible repeat (first | apply Kd.S_alloc | apply Kd.S_drewN | apply Kd.S_drew)); exact Kd.S_mono HO_12.out (fun _ hk => ⟨trivial, hk⟩)) hg hat); replace HB := Aside0.mk (hb); have HO117 := Aside0.mk (ho); clear HO_3; clear ho hb hg hg2 hat))
                   go_roundg k3
                   case measure => have := HK1.out; have := HK2.out; have := HK3.out; omega
                   case rel => exact ⟨(y115), (wrap64 (x34_3 + 1)), k32_, H', ⟨by have := HK1.out; have := HK2.out; have := HK3.out; omega⟩, ⟨by apply_rules only [HO117.out, Kd.R_alloc, Kd.R_drewN, Kd.R_drew]⟩, ⟨by (with_reducible repeat (first | apply Kd.S_alloc | apply Kd.S_drewN | apply Kd.S_drew)); exact Kd.S_mono HO_12.out (fun _ hk => hk.2)⟩, ⟨k23_⟩, ⟨by (with_reducible repeat (first | apply Kd.R_alloc | apply Kd.R_drewN | apply Kd.R_drew)); exact Kd.R_mono HFB_.out (fun _ hk => by first | exact hk | exact hk.2)⟩, ⟨by (first | exact HAB_.out | (refine Ahead.below HAB_.out ?_; apply_rules only [Below.refl, below_alloc, pw_below_drewN, below_drew1]))⟩⟩
                  ·rw [if_neg c21] at H
                   exact absurd H (by simp)
                 ·rw [if_neg c20] at H
                  exact absurd H (by simp)
                ·rw [if_neg c19] at H
                 exact absurd H (by simp)
               ·rw [if_neg c18] at H
                have c18b0 : decide (x34_3 < (y110.length : Int)) = false := decide_eq_false c18
                clear c18
                have H' := Aside0.mk H
                clear H
                go_wp2
                go_roundg k3
                case measure => have := HK1.out; have := HK2.out; have := HK3.out; omega
                case rel => exact ⟨(x3_3), ((wrap64 (x7_2 * (rd (rd_Ints t104 x14_1) 0)))), (wrap64 (x23_2 + 1)), k32_, k32_, H', ⟨by have := HK1.out; have := HK2.out; have := HK3.out; omega⟩, ⟨by apply_rules only [HO_3.out, Kd.R_alloc, Kd.R_drewN, Kd.R_drew]⟩, ⟨by apply_rules only [HO_12.out, Kd.S_alloc, Kd.S_drewN, Kd.S_drew]⟩, ⟨k23_⟩, ⟨by apply_rules only [HFB_.out, Kd.R_alloc, Kd.R_drewN, Kd.R_drew]⟩⟩
            ·rw [if_neg c15] at H
             exact absurd H (by simp)
           ·rw [if_neg c14] at H
            exact absurd H (by simp)
          ·rw [if_neg c13] at H
           exact absurd H (by simp)
         ·rw [if_neg c12] at H
          have c12b0 : decide (x23_2 < (rd (rd_Ints t104 x14_1) 1)) = false := decide_eq_false c12
          clear c12
          have H' := Aside0.mk H
          clear H
          go_wp2
          go_roundg k2
          case measure => have := HK1.out; have := HK2.out; omega
          case rel => exact ⟨(x3_2), (wrap64 (x14_1 + 1)), k32_, H', ⟨by have := HK1.out; have := HK2.out; omega⟩, ⟨by apply_rules only [HO_3.out, Kd.R_alloc, Kd.R_drewN, Kd.R_drew]⟩, ⟨by apply_rules only [HO_12.out, Kd.S_alloc, Kd.S_drewN, Kd.S_drew]⟩, ⟨k23_⟩⟩
      ·rw [if_neg c10] at H
       exact absurd H (by simp)
     ·rw [if_neg c9] at H
      exact absurd H (by simp)
    ·rw [if_neg c8] at H
     exact absurd H (by simp)
   ·rw [if_neg c7] at H
    have c7b0 : decide (x14_1 < (t104.length : Int)) = false := decide_eq_false c7
    clear c7
    by_cases c23 : 0 < x3_1.length ∧ x3_1.length < 4611686018427387904
    ·rw [if_pos c23] at H
     obtain rfl := Option.some.inj H
     have HC23 := Aside0.mk c23
     clear c23 H
     obtain ⟨Ao24, co24, eo24⟩ := Kd.R_slice HO_3.out
     subst eo24
     go_wp2_with ((with_reducible refine gate_callee (f := 44) rfl ?_); refine goesL_ (some 48) rfl rfl Try.func44 (by kernel_rfl) rfl #[.slice Ao24 x3_1.length co24] rfl (by (try simp only [List.map_toArray, List.map_cons, List.map_nil]); first | done | rfl) ?_; (refine (sortI_calls Ao24 co24 _ (fun _ => True) x3_1 _ (by first | exact HO_3.out | (apply_rules only [HO_3.out, Kd.R_alloc, Kd.R_drewN, Kd.R_drew])) HC23.out.1 HC23.out.2).mono ?_); rintro e w' ⟨rfl, hR_, hg_⟩; refine ⟨_, rfl, ?_⟩; have HRS := Aside0.mk hR_; have HBS := Aside0.mk (Below.grown (by first | exact HB.out | (apply_rules only [HB.out, below_alloc, pw_below_drewN, below_drew1])) hg_ (below_size (by first | exact HB.out | (apply_rules only [HB.out, below_alloc, pw_below_drewN, below_drew1]))) (Kd.R_base HO_3.out)); clear hR_ hg_)
     go_ret
     exact ⟨_, rfl, HRS.out, HBS.out⟩
    ·rw [if_neg c23] at H
     exact absurd H (by simp)
end Go.Proofs.Ytidkoannjealfaa.P
namespace Go.Proofs.Ytidkoannjealfaa.P
open Go.RowKit Go.Proofs.YtidkoannjealfaaW.PrintWords Go.Proofs.YtidkoannjealfaaW.PrintLast Go.Proofs.YtidkoannjealfaaW.PrintMore
attribute [local go_sem] max2_int min2_int max_two min_two max_three min_three max_four min_four
set_option linter.unusedVariables false
set_option linter.unusedSimpArgs false
def impl_CountAsFour.l0 : Nat → Int → List Int → Int → Int → Option (Int × Bool)
 | 0, _, _, _, _ => none
 | k + 1, x4, x11, x12, x13 => if x13 < x12 then (if 0 ≤ x13 then (if x13 < (x11.length : Int) then (if (Int.tmod (rd x11 x13) 4) = 0 then (impl_CountAsFour.l0 k x4 x11 x12 (wrap64 (x13 + 1))) else (impl_CountAsFour.l0 k (wrap64 (x4 + (wrap64 (8 * (rd x11 x13))))) x11 x12 (wrap64 (x13 + 1)))) else (none)) else (none)) else (some (x4, true))
def impl_CountAsFour.f (k : Nat) (a0 : Int) : Option (Int × Bool) := (impl_isAsked.f a0).bind fun t101 => (if t101 = true then ((impl_divisors.f k a0).bind fun t102 => (impl_CountAsFour.l0 k 0 t102 (t102.length : Int) 0)) else (some (0, false)))
set_option maxHeartbeats 8000000 in
set_option maxRecDepth 100000 in
theorem impl_CountAsFour.calls (k : Nat) (a0 : Int) (r1 : Int) (r2 : Bool) (w : World) (h : impl_CountAsFour.f k a0 = some (r1, r2)) :
  Calls Try.prog 16 #[.int .i64 a0] w fun e w' => e = .returned (.tuple #[.int .i64 r1, .bool r2]) ∧ Below w.heap.size w w' := by
 have HB := Aside0.mk (Below.refl w.heap.size w)
 have H : ((impl_isAsked.f a0).bind fun t101 => (if t101 = true then ((impl_divisors.f k a0).bind fun t102 => (impl_CountAsFour.l0 k 0 t102 (t102.length : Int) 0)) else (some (0, false)))) = some (r1, r2) := h
 clear h
 obtain ⟨t101, A2, H⟩ := obnd_ H
 (try dsimp only at H)
 by_cases c3 : t101 = true
 ·subst c3
  rw [if_pos rfl] at H
  obtain ⟨t102, A4, H⟩ := obnd_ H
  (try dsimp only at H)
  have H' := Aside0.mk H
  clear H
  go_enter Try.func16, Try.ntmps16
  go_wp2_with (first | ((with_reducible refine gate_callee (f := 27) rfl ?_); refine goesL_ (some 8) rfl rfl Try.func27 (by kernel_rfl) rfl #[.int .i64 a0] rfl k20_ ?_; (with_reducible refine (impl_isAsked.calls a0 true _ A2.out).mono ?_); rintro e w' ⟨rfl, ⟨nd, rfl⟩⟩; refine ⟨_, rfl, ?_⟩) | ((with_reducible refine gate_callee (f := 31) rfl ?_); refine goesL_ (some 11) rfl rfl Try.func31 (by kernel_rfl) rfl #[.int .i64 a0] rfl k20_ ?_; (with_reducible refine (impl_divisors.calls k a0 t102 _ A4.out).mono ?_); rintro e w5 ⟨v103, rfl, ho0, hb⟩; refine ⟨_, rfl, ?_⟩; have HO104 := Aside0.mk (Kd.R_lower ho0 (below_size k23_)); replace HB := HB.mw hb; (try clear hb ho0); obtain ⟨Ao6, co6, eo6⟩ := Kd.R_slice HO104.out; subst eo6))
  go_loopg [4, 13] k (fun kq v4 v13 w' => ∃ (x4_1 : Int) (x13_1 : Int), v4 = .int .i64 x4_1 ∧ v13 = .int .i64 x13_1 ∧ Aside0 (impl_CountAsFour.l0 kq x4_1 t102 (t102.length : Int) x13_1 = some (r1, r2)) ∧ Aside0 (kq ≤ k) ∧ Aside0 (Kd.R (Kd.int .i64) 3 w' w.heap.size (fun _ => True) (.slice Ao6 t102.length co6) t102) ∧ Aside0 (Below w.heap.size w w'))
  case atStart => exact ⟨(0), (0), k32_, k32_, H', ⟨Nat.le_refl _⟩, ⟨by apply_rules only [HO104.out, Kd.R_alloc, Kd.R_drewN, Kd.R_drew]⟩, ⟨k23_⟩⟩
  case round =>
   clear H'
   (try clear c3)
   obtain ⟨x4_1, x13_1, rfl, rfl, HA, HK1, HO_11, HB⟩ := hrel
   cases gk with
   | zero => exact absurd HA.out (by simp [impl_CountAsFour.l0])
   | succ k1 =>
    have H := HA.out
    clear HA
    simp only [impl_CountAsFour.l0] at H
    by_cases c7 : x13_1 < (t102.length : Int)
    ·rw [if_pos c7] at H
     have c7b0 : decide (x13_1 < (t102.length : Int)) = true := decide_eq_true c7
     clear c7
     by_cases c8 : 0 ≤ x13_1
     ·rw [if_pos c8] at H
      have c8b0 : decide (0 ≤ x13_1) = true := decide_eq_true c8
      clear c8
      by_cases c9 : x13_1 < (t102.length : Int)
      ·rw [if_pos c9] at H
       have c9b0 : decide (x13_1 < (t102.length : Int)) = true := decide_eq_true c9
       clear c9
       by_cases c10 : (Int.tmod (rd t102 x13_1) 4) = 0
       ·rw [if_pos c10] at H
        have c10b0 : ((Int.tmod (rd t102 x13_1) 4) == 0) = true := beq_iff_eq.mpr c10
        have c10b1 : ((Int.tmod (rd t102 x13_1) 4) != 0) = false := bne_eq_false_iff_eq.mpr c10
        clear c10
        have H' := Aside0.mk H
        clear H
        have p105 : 0 ≤ (x13_1 : Int) := of_decide_eq_true k31_
        have q105 : x13_1 < (t102.length : Int) := of_decide_eq_true k31_
        obtain ⟨ad105, e105, hx105_0⟩ := Kd.at_int (Kd.R_reads' HO_11.out).2.2 x13_1 p105 q105
        cases e105
        replace p105 := eq_true p105
        replace q105 := eq_true q105
        go_wp2
        go_roundg k1
        case measure => have := HK1.out; omega
        case rel => exact ⟨(x4_1), (wrap64 (x13_1 + 1)), k32_, k32_, H', ⟨k34_⟩, ⟨by apply_rules only [HO_11.out, Kd.R_alloc, Kd.R_drewN, Kd.R_drew]⟩, ⟨k23_⟩⟩
       ·rw [if_neg c10] at H
        have c10b0 : ((Int.tmod (rd t102 x13_1) 4) == 0) = false := beq_eq_false_iff_ne.mpr c10
        have c10b1 : ((Int.tmod (rd t102 x13_1) 4) != 0) = true := bne_iff_ne.mpr c10
        have H' := Aside0.mk H
        clear H
        have p105 : 0 ≤ (x13_1 : Int) := of_decide_eq_true k31_
        have q105 : x13_1 < (t102.length : Int) := of_decide_eq_true k31_
        obtain ⟨ad105, e105, hx105_0⟩ := Kd.at_int (Kd.R_reads' HO_11.out).2.2 x13_1 p105 q105
        cases e105
        replace p105 := eq_true p105
        replace q105 := eq_true q105
        go_wp2
        go_roundg k1
        case measure => have := HK1.out; omega
        case rel => exact ⟨(wrap64 (x4_1 + (wrap64 (8 * (rd t102 x13_1))))), (wrap64 (x13_1 + 1)), k32_, k32_, H', ⟨k34_⟩, ⟨by apply_rules only [HO_11.out, Kd.R_alloc, Kd.R_drewN, Kd.R_drew]⟩, ⟨k23_⟩⟩
      ·rw [if_neg c9] at H
       exact absurd H (by simp)
     ·rw [if_neg c8] at H
      exact absurd H (by simp)
    ·rw [if_neg c7] at H
     have c7b0 : decide (x13_1 < (t102.length : Int)) = false := decide_eq_false c7
     clear c7
     simp only [Option.some.injEq, Prod.mk.injEq] at H
     obtain ⟨rfl, rfl⟩ := H
     go_wp2
     go_ret2
     exact ⟨k22_, k23_⟩
 ·replace c3 := Bool.eq_false_iff.mpr c3
  subst c3
  rw [if_neg (show ¬ (false = true) by decide)] at H
  simp only [Option.some.injEq, Prod.mk.injEq] at H
  obtain ⟨rfl, rfl⟩ := H
  go_enter Try.func16, Try.ntmps16
  go_wp2_with (first | ((with_reducible refine gate_callee (f := 27) rfl ?_); refine goesL_ (some 8) rfl rfl Try.func27 (by kernel_rfl) rfl #[.int .i64 a0] rfl k20_ ?_; (with_reducible refine (impl_isAsked.calls a0 false _ A2.out).mono ?_); rintro e w' ⟨rfl, ⟨nd, rfl⟩⟩; refine ⟨_, rfl, ?_⟩))
  go_ret2
  exact ⟨k22_, k23_⟩
end Go.Proofs.Ytidkoannjealfaa.P
namespace Go.Proofs.Ytidkoannjealfaa.P
open Go.RowKit Go.Proofs.YtidkoannjealfaaW.PrintWords Go.Proofs.YtidkoannjealfaaW.PrintLast Go.Proofs.YtidkoannjealfaaW.PrintMore
attribute [local go_sem] max2_int min2_int max_two min_two max_three min_three max_four min_four
set_option linter.unusedVariables false
set_option linter.unusedSimpArgs false
def spec_CountAsFour.l0 : Nat → Int → Int → Int → Option (Int × Bool)
 | 0, _, _, _ => none
 | k + 1, x0, x4, x5 => if x5 ≤ x0 then (if x5 = 0 then (none) else (if (Int.tmod x0 x5) = 0 then (if (Int.tmod x5 4) = 0 then (spec_CountAsFour.l0 k x0 x4 (wrap64 (x5 + 1))) else (spec_CountAsFour.l0 k x0 (wrap64 (x4 + (wrap64 (8 * x5)))) (wrap64 (x5 + 1)))) else (spec_CountAsFour.l0 k x0 x4 (wrap64 (x5 + 1))))) else (some (x4, true))
def spec_CountAsFour.f (k : Nat) (a0 : Int) : Option (Int × Bool) := (spec_sqGood.f a0).bind fun t101 => (if t101 = true then (spec_CountAsFour.l0 k a0 0 1) else (some (0, false)))
set_option maxHeartbeats 8000000 in
set_option maxRecDepth 100000 in
theorem spec_CountAsFour.calls (k : Nat) (a0 : Int) (r1 : Int) (r2 : Bool) (w : World) (h : spec_CountAsFour.f k a0 = some (r1, r2)) :
  Calls Try.prog 17 #[.int .i64 a0] w fun e w' => e = .returned (.tuple #[.int .i64 r1, .bool r2]) ∧ Drawn0 w w' := by
 have H : ((spec_sqGood.f a0).bind fun t101 => (if t101 = true then (spec_CountAsFour.l0 k a0 0 1) else (some (0, false)))) = some (r1, r2) := h
 clear h
 obtain ⟨t101, A2, H⟩ := obnd_ H
 (try dsimp only at H)
 by_cases c3 : t101 = true
 ·subst c3
  rw [if_pos rfl] at H
  have H' := Aside0.mk H
  clear H
  go_enter Try.func17, Try.ntmps17
  go_wp2_with (first | ((with_reducible refine gate_callee (f := 29) rfl ?_); refine goesL_ (some 7) rfl rfl Try.func29 (by kernel_rfl) rfl #[.int .i64 a0] rfl k20_ ?_; (with_reducible refine (spec_sqGood.calls a0 true _ A2.out).mono ?_); rintro e w' ⟨rfl, ⟨nd, rfl⟩⟩; refine ⟨_, rfl, ?_⟩))
  go_loopg [4, 5] k (fun kq v4 v5 w' => ∃ (x4_1 : Int) (x5_1 : Int), v4 = .int .i64 x4_1 ∧ v5 = .int .i64 x5_1 ∧ Aside0 (spec_CountAsFour.l0 kq a0 x4_1 x5_1 = some (r1, r2)) ∧ Aside0 (kq ≤ k) ∧ Drawn0 w w')
  case atStart => exact ⟨(0), (1), k32_, k32_, H', ⟨Nat.le_refl _⟩, k30_⟩
  case round =>
   clear H'
   (try clear c3)
   obtain ⟨x4_1, x5_1, rfl, rfl, HA, HK1, ⟨m1, rfl⟩⟩ := hrel
   cases gk with
   | zero => exact absurd HA.out (by simp [spec_CountAsFour.l0])
   | succ k1 =>
    have H := HA.out
    clear HA
    simp only [spec_CountAsFour.l0] at H
    by_cases c4 : x5_1 ≤ a0
    ·rw [if_pos c4] at H
     have c4b0 : decide (x5_1 ≤ a0) = true := decide_eq_true c4
     clear c4
     by_cases c5 : x5_1 = 0
     ·rw [if_pos c5] at H
      exact absurd H (by simp)
     ·rw [if_neg c5] at H
      have c5b0 : (x5_1 == 0) = false := beq_eq_false_iff_ne.mpr c5
      have c5b1 : (x5_1 != 0) = true := bne_iff_ne.mpr c5
      by_cases c6 : (Int.tmod a0 x5_1) = 0
      ·rw [if_pos c6] at H
       have c6b0 : ((Int.tmod a0 x5_1) == 0) = true := beq_iff_eq.mpr c6
       have c6b1 : ((Int.tmod a0 x5_1) != 0) = false := bne_eq_false_iff_eq.mpr c6
       clear c6
       by_cases c7 : (Int.tmod x5_1 4) = 0
       ·rw [if_pos c7] at H
        have c7b0 : ((Int.tmod x5_1 4) == 0) = true := beq_iff_eq.mpr c7
        have c7b1 : ((Int.tmod x5_1 4) != 0) = false := bne_eq_false_iff_eq.mpr c7
        clear c7
        have H' := Aside0.mk H
        clear H
        go_wp2
        go_roundg k1
        case measure => have := HK1.out; omega
        case rel => exact ⟨(x4_1), (wrap64 (x5_1 + 1)), k32_, k32_, H', ⟨k34_⟩, k30_⟩
       ·rw [if_neg c7] at H
        have c7b0 : ((Int.tmod x5_1 4) == 0) = false := beq_eq_false_iff_ne.mpr c7
        have c7b1 : ((Int.tmod x5_1 4) != 0) = true := bne_iff_ne.mpr c7
        have H' := Aside0.mk H
        clear H
        go_wp2
        go_roundg k1
        case measure => have := HK1.out; omega
        case rel => exact ⟨(wrap64 (x4_1 + (wrap64 (8 * x5_1)))), (wrap64 (x5_1 + 1)), k32_, k32_, H', ⟨k34_⟩, k30_⟩
      ·rw [if_neg c6] at H
       have c6b0 : ((Int.tmod a0 x5_1) == 0) = false := beq_eq_false_iff_ne.mpr c6
       have c6b1 : ((Int.tmod a0 x5_1) != 0) = true := bne_iff_ne.mpr c6
       have H' := Aside0.mk H
       clear H
       go_wp2
       go_roundg k1
       case measure => have := HK1.out; omega
       case rel => exact ⟨(x4_1), (wrap64 (x5_1 + 1)), k32_, k32_, H', ⟨k34_⟩, k30_⟩
    ·rw [if_neg c4] at H
     have c4b0 : decide (x5_1 ≤ a0) = false := decide_eq_false c4
     clear c4
     simp only [Option.some.injEq, Prod.mk.injEq] at H
     obtain ⟨rfl, rfl⟩ := H
     go_wp2
     go_ret2
     exact ⟨k32_, k30_⟩
 ·replace c3 := Bool.eq_false_iff.mpr c3
  subst c3
  rw [if_neg (show ¬ (false = true) by decide)] at H
  simp only [Option.some.injEq, Prod.mk.injEq] at H
  obtain ⟨rfl, rfl⟩ := H
  go_enter Try.func17, Try.ntmps17
  go_wp2_with (first | ((with_reducible refine gate_callee (f := 29) rfl ?_); refine goesL_ (some 7) rfl rfl Try.func29 (by kernel_rfl) rfl #[.int .i64 a0] rfl k20_ ?_; (with_reducible refine (spec_sqGood.calls a0 false _ A2.out).mono ?_); rintro e w' ⟨rfl, ⟨nd, rfl⟩⟩; refine ⟨_, rfl, ?_⟩))
  go_ret2
  exact ⟨k32_, k30_⟩
end Go.Proofs.Ytidkoannjealfaa.P
namespace Go.Proofs.Ytidkoannjealfaa.P
open Go.RowKit Go.Proofs.YtidkoannjealfaaW.PrintWords Go.Proofs.YtidkoannjealfaaW.PrintLast Go.Proofs.YtidkoannjealfaaW.PrintMore
attribute [local go_sem] max2_int min2_int max_two min_two max_three min_three max_four min_four
set_option linter.unusedVariables false
set_option linter.unusedSimpArgs false
def impl_CountInCircle.l0 : Nat → Int → Int → Int → Option (Int × Bool)
 | 0, _, _, _ => none
 | k + 1, x0, x4, x5 => if (wrap64 (x5 * x5)) ≤ x0 then ((impl_rootOf.f (wrap64 (x0 - (wrap64 (x5 * x5))))).bind fun t103 => (impl_CountInCircle.l0 k x0 (wrap64 (x4 + (wrap64 ((wrap64 (2 * t103)) + 1)))) (wrap64 (x5 + 1)))) else (some (x4, true))
def impl_CountInCircle.f (k : Nat) (a0 : Int) : Option (Int × Bool) := (impl_isAsked.f a0).bind fun t101 => (if t101 = true then ((impl_rootOf.f a0).bind fun t102 => (impl_CountInCircle.l0 k a0 0 (wrap64 (-t102)))) else (some (0, false)))
set_option maxHeartbeats 8000000 in
set_option maxRecDepth 100000 in
theorem impl_CountInCircle.calls (k : Nat) (a0 : Int) (r1 : Int) (r2 : Bool) (w : World) (h : impl_CountInCircle.f k a0 = some (r1, r2)) :
  Calls Try.prog 18 #[.int .i64 a0] w fun e w' => e = .returned (.tuple #[.int .i64 r1, .bool r2]) ∧ Drawn0 w w' := by
 have H : ((impl_isAsked.f a0).bind fun t101 => (if t101 = true then ((impl_rootOf.f a0).bind fun t102 => (impl_CountInCircle.l0 k a0 0 (wrap64 (-t102)))) else (some (0, false)))) = some (r1, r2) := h
 clear h
 obtain ⟨t101, A2, H⟩ := obnd_ H
 (try dsimp only at H)
 by_cases c3 : t101 = true
 ·subst c3
  rw [if_pos rfl] at H
  obtain ⟨t102, A4, H⟩ := obnd_ H
  (try dsimp only at H)
  have H' := Aside0.mk H
  clear H
  go_enter Try.func18, Try.ntmps18
  go_wp2_with (first | ((with_reducible refine gate_callee (f := 27) rfl ?_); refine goesL_ (some 7) rfl rfl Try.func27 (by kernel_rfl) rfl #[.int .i64 a0] rfl k20_ ?_; (with_reducible refine (impl_isAsked.calls a0 true _ A2.out).mono ?_); rintro e w' ⟨rfl, ⟨nd, rfl⟩⟩; refine ⟨_, rfl, ?_⟩) | ((with_reducible refine gate_callee (f := 28) rfl ?_); refine goesL_ (some 10) rfl rfl Try.func28 (by kernel_rfl) rfl #[.int .i64 a0] rfl k20_ ?_; (with_reducible refine (impl_rootOf.calls a0 t102 _ A4.out).mono ?_); rintro e w' ⟨rfl, ⟨nd, rfl⟩⟩; refine ⟨_, rfl, ?_⟩))
  go_loopg [4, 5] k (fun kq v4 v5 w' => ∃ (x4_1 : Int) (x5_1 : Int), v4 = .int .i64 x4_1 ∧ v5 = .int .i64 x5_1 ∧ Aside0 (impl_CountInCircle.l0 kq a0 x4_1 x5_1 = some (r1, r2)) ∧ Aside0 (kq ≤ k) ∧ Drawn0 w w')
  case atStart => exact ⟨(0), (wrap64 (-t102)), k32_, k32_, H', ⟨Nat.le_refl _⟩, k30_⟩
  case round =>
   clear H'
   (try clear c3)
   obtain ⟨x4_1, x5_1, rfl, rfl, HA, HK1, ⟨m1, rfl⟩⟩ := hrel
   cases gk with
   | zero => exact absurd HA.out (by simp [impl_CountInCircle.l0])
   | succ k1 =>
    have H := HA.out
    clear HA
    simp only [impl_CountInCircle.l0] at H
    by_cases c5 : (wrap64 (x5_1 * x5_1)) ≤ a0
    ·rw [if_pos c5] at H
     have c5b0 : decide ((wrap64 (x5_1 * x5_1)) ≤ a0) = true := decide_eq_true c5
     clear c5
     obtain ⟨t103, A6, H⟩ := obnd_ H
     (try dsimp only at H)
     have H' := Aside0.mk H
     clear H
     go_wp2_with (first | ((with_reducible refine gate_callee (f := 28) rfl ?_); refine goesL_ (some 25) rfl rfl Try.func28 (by kernel_rfl) rfl #[.int .i64 (wrap64 (a0 - (wrap64 (x5_1 * x5_1))))] rfl k20_ ?_; (with_reducible refine (impl_rootOf.calls (wrap64 (a0 - (wrap64 (x5_1 * x5_1)))) t103 _ A6.out).mono ?_); rintro e w' ⟨rfl, ⟨nd, rfl⟩⟩; refine ⟨_, rfl, ?_⟩))
     go_roundg k1
     case measure => have := HK1.out; omega
     case rel => exact ⟨(wrap64 (x4_1 + (wrap64 ((wrap64 (2 * t103)) + 1)))), (wrap64 (x5_1 + 1)), k32_, k32_, H', ⟨k34_⟩, k30_⟩
    ·rw [if_neg c5] at H
     have c5b0 : decide ((wrap64 (x5_1 * x5_1)) ≤ a0) = false := decide_eq_false c5
     clear c5
     simp only [Option.some.injEq, Prod.mk.injEq] at H
     obtain ⟨rfl, rfl⟩ := H
     go_wp2
     go_ret2
     exact ⟨k32_, k30_⟩
 ·replace c3 := Bool.eq_false_iff.mpr c3
  subst c3
  rw [if_neg (show ¬ (false = true) by decide)] at H
  simp only [Option.some.injEq, Prod.mk.injEq] at H
  obtain ⟨rfl, rfl⟩ := H
  go_enter Try.func18, Try.ntmps18
  go_wp2_with (first | ((with_reducible refine gate_callee (f := 27) rfl ?_); refine goesL_ (some 7) rfl rfl Try.func27 (by kernel_rfl) rfl #[.int .i64 a0] rfl k20_ ?_; (with_reducible refine (impl_isAsked.calls a0 false _ A2.out).mono ?_); rintro e w' ⟨rfl, ⟨nd, rfl⟩⟩; refine ⟨_, rfl, ?_⟩))
  go_ret2
  exact ⟨k32_, k30_⟩
end Go.Proofs.Ytidkoannjealfaa.P
namespace Go.Proofs.Ytidkoannjealfaa.P
open Go.RowKit Go.Proofs.YtidkoannjealfaaW.PrintWords Go.Proofs.YtidkoannjealfaaW.PrintLast Go.Proofs.YtidkoannjealfaaW.PrintMore
attribute [local go_sem] max2_int min2_int max_two min_two max_three min_three max_four min_four
set_option linter.unusedVariables false
set_option linter.unusedSimpArgs false
def spec_CountInCircle.l0 : Nat → Int → Int → Int → Int → Option (Int × Bool)
 | 0, _, _, _, _ => none
 | k + 1, x0, x4, x5, x6 => if x6 ≤ x5 then ((spec_sqRoot.f k (wrap64 (x0 - (wrap64 (x6 * x6))))).bind fun t103 => (spec_CountInCircle.l0 k x0 (wrap64 (x4 + (wrap64 ((wrap64 (2 * t103)) + 1)))) x5 (wrap64 (x6 + 1)))) else (some (x4, true))
def spec_CountInCircle.f (k : Nat) (a0 : Int) : Option (Int × Bool) := (spec_sqGood.f a0).bind fun t101 => (if t101 = true then ((spec_sqRoot.f k a0).bind fun t102 => (spec_CountInCircle.l0 k a0 0 t102 (wrap64 (-t102)))) else (some (0, false)))
set_option maxHeartbeats 8000000 in
set_option maxRecDepth 100000 in
theorem spec_CountInCircle.calls (k : Nat) (a0 : Int) (r1 : Int) (r2 : Bool) (w : World) (h : spec_CountInCircle.f k a0 = some (r1, r2)) :
  Calls Try.prog 19 #[.int .i64 a0] w fun e w' => e = .returned (.tuple #[.int .i64 r1, .bool r2]) ∧ Drawn0 w w' := by
 have H : ((spec_sqGood.f a0).bind fun t101 => (if t101 = true then ((spec_sqRoot.f k a0).bind fun t102 => (spec_CountInCircle.l0 k a0 0 t102 (wrap64 (-t102)))) else (some (0, false)))) = some (r1, r2) := h
 clear h
 obtain ⟨t101, A2, H⟩ := obnd_ H
 (try dsimp only at H)
 by_cases c3 : t101 = true
 ·subst c3
  rw [if_pos rfl] at H
  obtain ⟨t102, A4, H⟩ := obnd_ H
  (try dsimp only at H)
  have H' := Aside0.mk H
  clear H
  go_enter Try.func19, Try.ntmps19
  go_wp2_with (first | ((with_reducible refine gate_callee (f := 29) rfl ?_); refine goesL_ (some 8) rfl rfl Try.func29 (by kernel_rfl) rfl #[.int .i64 a0] rfl k20_ ?_; (with_reducible refine (spec_sqGood.calls a0 true _ A2.out).mono ?_); rintro e w' ⟨rfl, ⟨nd, rfl⟩⟩; refine ⟨_, rfl, ?_⟩) | ((with_reducible refine gate_callee (f := 30) rfl ?_); refine goesL_ (some 11) rfl rfl Try.func30 (by kernel_rfl) rfl #[.int .i64 a0] rfl k20_ ?_; (with_reducible refine (spec_sqRoot.calls k a0 t102 _ A4.out).mono ?_); rintro e w' ⟨rfl, ⟨nd, rfl⟩⟩; refine ⟨_, rfl, ?_⟩))
  go_loopg [4, 6] k (fun kq v4 v6 w' => ∃ (x4_1 : Int) (x6_1 : Int), v4 = .int .i64 x4_1 ∧ v6 = .int .i64 x6_1 ∧ Aside0 (spec_CountInCircle.l0 kq a0 x4_1 t102 x6_1 = some (r1, r2)) ∧ Aside0 (kq ≤ k) ∧ Drawn0 w w')
  case atStart => exact ⟨(0), (wrap64 (-t102)), k32_, k32_, H', ⟨Nat.le_refl _⟩, k30_⟩
  case round =>
   clear H'
   (try clear c3)
   obtain ⟨x4_1, x6_1, rfl, rfl, HA, HK1, ⟨m1, rfl⟩⟩ := hrel
   cases gk with
   | zero => exact absurd HA.out (by simp [spec_CountInCircle.l0])
   | succ k1 =>
    have H := HA.out
    clear HA
    simp only [spec_CountInCircle.l0] at H
    by_cases c5 : x6_1 ≤ t102
    ·rw [if_pos c5] at H
     have c5b0 : decide (x6_1 ≤ t102) = true := decide_eq_true c5
     clear c5
     obtain ⟨t103, A6, H⟩ := obnd_ H
     (try dsimp only at H)
     have H' := Aside0.mk H
     clear H
     go_wp2_with (first | ((with_reducible refine gate_callee (f := 30) rfl ?_); refine goesL_ (some 25) rfl rfl Try.func30 (by kernel_rfl) rfl #[.int .i64 (wrap64 (a0 - (wrap64 (x6_1 * x6_1))))] rfl k20_ ?_; (with_reducible refine (spec_sqRoot.calls k1 (wrap64 (a0 - (wrap64 (x6_1 * x6_1)))) t103 _ A6.out).mono ?_); rintro e w' ⟨rfl, ⟨nd, rfl⟩⟩; refine ⟨_, rfl, ?_⟩))
     go_roundg k1
     case measure => have := HK1.out; omega
     case rel => exact ⟨(wrap64 (x4_1 + (wrap64 ((wrap64 (2 * t103)) + 1)))), (wrap64 (x6_1 + 1)), k32_, k32_, H', ⟨k34_⟩, k30_⟩
    ·rw [if_neg c5] at H
     have c5b0 : decide (x6_1 ≤ t102) = false := decide_eq_false c5
     clear c5
     simp only [Option.some.injEq, Prod.mk.injEq] at H
     obtain ⟨rfl, rfl⟩ := H
     go_wp2
     go_ret2
     exact ⟨k32_, k30_⟩
 ·replace c3 := Bool.eq_false_iff.mpr c3
  subst c3
  rw [if_neg (show ¬ (false = true) by decide)] at H
  simp only [Option.some.injEq, Prod.mk.injEq] at H
  obtain ⟨rfl, rfl⟩ := H
  go_enter Try.func19, Try.ntmps19
  go_wp2_with (first | ((with_reducible refine gate_callee (f := 29) rfl ?_); refine goesL_ (some 8) rfl rfl Try.func29 (by kernel_rfl) rfl #[.int .i64 a0] rfl k20_ ?_; (with_reducible refine (spec_sqGood.calls a0 false _ A2.out).mono ?_); rintro e w' ⟨rfl, ⟨nd, rfl⟩⟩; refine ⟨_, rfl, ?_⟩))
  go_ret2
  exact ⟨k32_, k30_⟩
end Go.Proofs.Ytidkoannjealfaa.P
namespace Go.Proofs.Ytidkoannjealfaa.P
open Go.RowKit Go.Proofs.YtidkoannjealfaaW.PrintWords Go.Proofs.YtidkoannjealfaaW.PrintLast Go.Proofs.YtidkoannjealfaaW.PrintMore
attribute [local go_sem] max2_int min2_int max_two min_two max_three min_three max_four min_four
set_option linter.unusedVariables false
set_option linter.unusedSimpArgs false
def laws_tSame.l0 : Nat → List Int → List Int → Int → Int → Option (Bool)
 | 0, _, _, _, _ => none
 | k + 1, x0, x1, x12, x13 => if x13 < x12 then (if 0 ≤ x13 then (if x13 < (x0.length : Int) then (if x13 < (x1.length : Int) then (if (rd x0 x13) = (rd x1 x13) then (laws_tSame.l0 k x0 x1 x12 (wrap64 (x13 + 1))) else (some false)) else (none)) else (none)) else (none)) else (some true)
def laws_tSame.f (k : Nat) (l0 : List Int) (l1 : List Int) : Option (Bool) := if (l0.length : Int) = (l1.length : Int) then (laws_tSame.l0 k l0 l1 (l0.length : Int) 0) else (some false)
set_option maxHeartbeats 8000000 in
set_option maxRecDepth 100000 in
theorem laws_tSame.calls (k : Nat) (A0 : Option Addr) (c0 : Nat) (l0 : List Int) (A1 : Option Addr) (c1 : Nat) (l1 : List Int) (r : Bool) (w : World) (hr0 : Kd.C (Kd.int .i64) w A0 l0.length l0) (hc0 : l0.length ≤ c0) (hr1 : Kd.C (Kd.int .i64) w A1 l1.length l1) (hc1 : l1.length ≤ c1) (h : laws_tSame.f k l0 l1 = some r) :
  Calls Try.prog 21 #[.slice A0 l0.length c0, .slice A1 l1.length c1] w fun e w' => e = .returned (.bool r) ∧ Drawn0 w w' := by
 have HR0 := Aside0.mk hr0
 have HC0 := Aside0.mk hc0
 clear hr0 hc0
 have HR1 := Aside0.mk hr1
 have HC1 := Aside0.mk hc1
 clear hr1 hc1
 have H : (if (l0.length : Int) = (l1.length : Int) then (laws_tSame.l0 k l0 l1 (l0.length : Int) 0) else (some false)) = some r := h
 clear h
 by_cases c3 : (l0.length : Int) = (l1.length : Int)
 ·rw [if_pos c3] at H
  have c3b0 : ((l0.length : Int) == (l1.length : Int)) = true := beq_iff_eq.mpr c3
  have c3b1 : ((l0.length : Int) != (l1.length : Int)) = false := bne_eq_false_iff_eq.mpr c3
  have c3b2 : (l0.length == l1.length) = true := by first | simpa using c3 | (simp at c3 ⊢; omega)
  clear c3
  have H' := Aside0.mk H
  clear H
  go_enter Try.func21, Try.ntmps21
  go_wp2
  repeat (go_quiet (fail); try go_wp2)
  go_loopg [13] k (fun kq v13 w' => ∃ (x13_1 : Int), v13 = .int .i64 x13_1 ∧ Aside0 (laws_tSame.l0 kq l0 l1 (l0.length : Int) x13_1 = some r) ∧ Aside0 (kq ≤ k) ∧ Drawn0 w w')
  case atStart => exact ⟨(0), k32_, H', ⟨Nat.le_refl _⟩, k30_⟩
  case round =>
   clear H'
   (try clear c3); (try clear c3b0); (try clear c3b1); (try clear c3b2)
   obtain ⟨x13_1, rfl, HA, HK1, ⟨m1, rfl⟩⟩ := hrel
   cases gk with
   | zero => exact absurd HA.out (by simp [laws_tSame.l0])
   | succ k1 =>
    have H := HA.out
    clear HA
    simp only [laws_tSame.l0] at H
    by_cases c4 : x13_1 < (l0.length : Int)
    ·rw [if_pos c4] at H
     have c4b0 : decide (x13_1 < (l0.length : Int)) = true := decide_eq_true c4
     clear c4
     by_cases c5 : 0 ≤ x13_1
     ·rw [if_pos c5] at H
      have c5b0 : decide (0 ≤ x13_1) = true := decide_eq_true c5
      clear c5
      by_cases c6 : x13_1 < (l0.length : Int)
      ·rw [if_pos c6] at H
       have c6b0 : decide (x13_1 < (l0.length : Int)) = true := decide_eq_true c6
       clear c6
       by_cases c7 : x13_1 < (l1.length : Int)
       ·rw [if_pos c7] at H
        have c7b0 : decide (x13_1 < (l1.length : Int)) = true := decide_eq_true c7
        clear c7
        by_cases c8 : (rd l0 x13_1) = (rd l1 x13_1)
        ·rw [if_pos c8] at H
         have c8b0 : ((rd l0 x13_1) == (rd l1 x13_1)) = true := beq_iff_eq.mpr c8
         have c8b1 : ((rd l0 x13_1) != (rd l1 x13_1)) = false := bne_eq_false_iff_eq.mpr c8
         clear c8
         have H' := Aside0.mk H
         clear H
         have p101 : 0 ≤ (x13_1 : Int) := of_decide_eq_true k31_
         have q101 : x13_1 < (l0.length : Int) := of_decide_eq_true k31_
         obtain ⟨ad101, e101, hx101_0⟩ := Kd.at_int HR0.out x13_1 p101 q101
         cases e101
         replace p101 := eq_true p101
         replace q101 := eq_true q101
         have p102 : 0 ≤ (x13_1 : Int) := of_decide_eq_true k31_
         have q102 : x13_1 < (l1.length : Int) := of_decide_eq_true k31_
         obtain ⟨ad102, e102, hx102_0⟩ := Kd.at_int HR1.out x13_1 p102 q102
         cases e102
         replace p102 := eq_true p102
         replace q102 := eq_true q102
         go_wp2
         repeat (go_quiet (fail); try go_wp2)
         go_roundg k1
         case measure => have := HK1.out; omega
         case rel => exact ⟨(wrap64 (x13_1 + 1)), k32_, H', ⟨k34_⟩, k30_⟩
        ·rw [if_neg c8] at H
         have c8b0 : ((rd l0 x13_1) == (rd l1 x13_1)) = false := beq_eq_false_iff_ne.mpr c8
         have c8b1 : ((rd l0 x13_1) != (rd l1 x13_1)) = true := bne_iff_ne.mpr c8
         obtain rfl := Option.some.inj H
         have p101 : 0 ≤ (x13_1 : Int) := of_decide_eq_true k31_
         have q101 : x13_1 < (l0.length : Int) := of_decide_eq_true k31_
         obtain ⟨ad101, e101, hx101_0⟩ := Kd.at_int HR0.out x13_1 p101 q101
         cases e101
         replace p101 := eq_true p101
         replace q101 := eq_true q101
         have p102 : 0 ≤ (x13_1 : Int) := of_decide_eq_true k31_
         have q102 : x13_1 < (l1.length : Int) := of_decide_eq_true k31_
         obtain ⟨ad102, e102, hx102_0⟩ := Kd.at_int HR1.out x13_1 p102 q102
         cases e102
         replace p102 := eq_true p102
         replace q102 := eq_true q102
         go_wp2
         repeat (go_quiet (fail); try go_wp2)
         go_ret
         exact ⟨k32_, k30_⟩
       ·rw [if_neg c7] at H
        exact absurd H (by simp)
      ·rw [if_neg c6] at H
       exact absurd H (by simp)
     ·rw [if_neg c5] at H
      exact absurd H (by simp)
    ·rw [if_neg c4] at H
     have c4b0 : decide (x13_1 < (l0.length : Int)) = false := decide_eq_false c4
     clear c4
     obtain rfl := Option.some.inj H
     go_wp2
     repeat (go_quiet (fail); try go_wp2)
     go_ret
     exact ⟨k32_, k30_⟩
 ·rw [if_neg c3] at H
  have c3b0 : ((l0.length : Int) == (l1.length : Int)) = false := beq_eq_false_iff_ne.mpr c3
  have c3b1 : ((l0.length : Int) != (l1.length : Int)) = true := bne_iff_ne.mpr c3
  have c3b2 : (l0.length == l1.length) = false := by first | simpa using c3 | (simp at c3 ⊢; omega)
  obtain rfl := Option.some.inj H
  go_enter Try.func21, Try.ntmps21
  go_wp2
  repeat (go_quiet (fail); try go_wp2)
  go_ret
  exact ⟨k32_, k30_⟩
end Go.Proofs.Ytidkoannjealfaa.P
namespace Go.Proofs.Ytidkoannjealfaa.P
open Go.RowKit Go.Proofs.YtidkoannjealfaaW.PrintWords Go.Proofs.YtidkoannjealfaaW.PrintLast Go.Proofs.YtidkoannjealfaaW.PrintMore
attribute [local go_sem] max2_int min2_int max_two min_two max_three min_three max_four min_four
set_option linter.unusedVariables false
set_option linter.unusedSimpArgs false
def laws_tRows.l0 : Nat → List (List Int) → List (List Int) → Int → Int → Option (Bool)
 | 0, _, _, _, _ => none
 | k + 1, x0, x1, x12, x13 => if x13 < x12 then (if 0 ≤ x13 then (if x13 < (x0.length : Int) then (if x13 < (x1.length : Int) then ((laws_tSame.f k (rd_Ints x0 x13) (rd_Ints x1 x13)).bind fun t103 => (if t103 = true then (laws_tRows.l0 k x0 x1 x12 (wrap64 (x13 + 1))) else (some false))) else (none)) else (none)) else (none)) else (some true)
def laws_tRows.f (k : Nat) (l0 : List (List Int)) (l1 : List (List Int)) : Option (Bool) := if (l0.length : Int) = (l1.length : Int) then (laws_tRows.l0 k l0 l1 (l0.length : Int) 0) else (some false)
set_option maxHeartbeats 8000000 in
set_option maxRecDepth 100000 in
theorem laws_tRows.calls (k : Nat) (A0 : Option Addr) (c0 : Nat) (l0 : List (List Int)) (A1 : Option Addr) (c1 : Nat) (l1 : List (List Int)) (r : Bool) (w : World) (hr0 : Kd.C (Kd.slice 3 (Kd.int .i64)) w A0 l0.length l0) (hc0 : l0.length ≤ c0) (hr1 : Kd.C (Kd.slice 3 (Kd.int .i64)) w A1 l1.length l1) (hc1 : l1.length ≤ c1) (h : laws_tRows.f k l0 l1 = some r) :
  Calls Try.prog 20 #[.slice A0 l0.length c0, .slice A1 l1.length c1] w fun e w' => e = .returned (.bool r) ∧ Drawn0 w w' := by
 have HR0 := Aside0.mk hr0
 have HC0 := Aside0.mk hc0
 clear hr0 hc0
 have HR1 := Aside0.mk hr1
 have HC1 := Aside0.mk hc1
 clear hr1 hc1
 have H : (if (l0.length : Int) = (l1.length : Int) then (laws_tRows.l0 k l0 l1 (l0.length : Int) 0) else (some false)) = some r := h
 clear h
 by_cases c3 : (l0.length : Int) = (l1.length : Int)
 ·rw [if_pos c3] at H
  have c3b0 : ((l0.length : Int) == (l1.length : Int)) = true := beq_iff_eq.mpr c3
  have c3b1 : ((l0.length : Int) != (l1.length : Int)) = false := bne_eq_false_iff_eq.mpr c3
  have c3b2 : (l0.length == l1.length) = true := by first | simpa using c3 | (simp at c3 ⊢; omega)
  clear c3
  have H' := Aside0.mk H
  clear H
  go_enter Try.func20, Try.ntmps20
  go_wp2
  repeat (go_quiet (fail); try go_wp2)
  go_loopg [13] k (fun kq v13 w' => ∃ (x13_1 : Int), v13 = .int .i64 x13_1 ∧ Aside0 (laws_tRows.l0 kq l0 l1 (l0.length : Int) x13_1 = some r) ∧ Aside0 (kq ≤ k) ∧ Drawn0 w w')
  case atStart => exact ⟨(0), k32_, H', ⟨Nat.le_refl _⟩, k30_⟩
  case round =>
   clear H'
   (try clear c3); (try clear c3b0); (try clear c3b1); (try clear c3b2)
   obtain ⟨x13_1, rfl, HA, HK1, ⟨m1, rfl⟩⟩ := hrel
   cases gk with
   | zero => exact absurd HA.out (by simp [laws_tRows.l0])
   | succ k1 =>
    have H := HA.out
    clear HA
    simp only [laws_tRows.l0] at H
    by_cases c4 : x13_1 < (l0.length : Int)
    ·rw [if_pos c4] at H
     have c4b0 : decide (x13_1 < (l0.length : Int)) = true := decide_eq_true c4
     clear c4
     by_cases c5 : 0 ≤ x13_1
     ·rw [if_pos c5] at H
      have c5b0 : decide (0 ≤ x13_1) = true := decide_eq_true c5
      clear c5
      by_cases c6 : x13_1 < (l0.length : Int)
      ·rw [if_pos c6] at H
       have c6b0 : decide (x13_1 < (l0.length : Int)) = true := decide_eq_true c6
       clear c6
       by_cases c7 : x13_1 < (l1.length : Int)
       ·rw [if_pos c7] at H
        have c7b0 : decide (x13_1 < (l1.length : Int)) = true := decide_eq_true c7
        clear c7
        obtain ⟨t103, A8, H⟩ := obnd_ H
        (try dsimp only at H)
        by_cases c9 : t103 = true
        ·subst c9
         rw [if_pos rfl] at H
         have H' := Aside0.mk H
         clear H
         have p101 : 0 ≤ (x13_1 : Int) := of_decide_eq_true k31_
         have q101 : x13_1 < (l0.length : Int) := of_decide_eq_true k31_
         obtain ⟨ad101, A101_0, c101_0, e101, hx101_0, hl101_0, hi101_0⟩ := at_Ints HR0.out x13_1 p101 q101
         cases e101
         have HR101_0 := Aside0.mk hi101_0
         have HC101_0 := Aside0.mk hl101_0
         clear hi101_0 hl101_0
         replace p101 := eq_true p101
         replace q101 := eq_true q101
         have p102 : 0 ≤ (x13_1 : Int) := of_decide_eq_true k31_
         have q102 : x13_1 < (l1.length : Int) := of_decide_eq_true k31_
         obtain ⟨ad102, A102_0, c102_0, e102, hx102_0, hl102_0, hi102_0⟩ := at_Ints HR1.out x13_1 p102 q102
         cases e102
         have HR102_0 := Aside0.mk hi102_0
         have HC102_0 := Aside0.mk hl102_0
         clear hi102_0 hl102_0
         replace p102 := eq_true p102
         replace q102 := eq_true q102
         go_wp2_with (first | (go_at_call 21; (with_reducible refine (laws_tSame.calls k1 _ _ (rd_Ints l0 x13_1) _ _ (rd_Ints l1 x13_1) true _ ?side1 ?side2 ?side3 ?side4 A8.out).mono ?_); (case side1 => exact k13_); (case side2 => exact HC101_0.out); (case side3 => exact k14_); (case side4 => exact HC102_0.out); rintro e w' ⟨rfl, ⟨nd, rfl⟩⟩; (try first | exact ⟨rfl, _, World.drewN_drewN _ _ _⟩ | exact ⟨rfl, _, Eq.trans (World.drewN_drewN _ _ _) (congrArg (World.drewN _) (Nat.add_assoc _ _ _))⟩)))
         repeat (go_quiet (first | (go_at_call 21; (with_reducible refine (laws_tSame.calls k1 _ _ (rd_Ints l0 x13_1) _ _ (rd_Ints l1 x13_1) true _ ?side1 ?side2 ?side3 ?side4 A8.out).mono ?_); (case side1 => exact k13_); (case side2 => exact HC101_0.out); (case side3 => exact k14_); (case side4 => exact HC102_0.out); rintro e w' ⟨rfl, ⟨nd, rfl⟩⟩; (try first | exact ⟨rfl, _, World.drewN_drewN _ _ _⟩ | exact ⟨rfl, _, Eq.trans (World.drewN_drewN _ _ _) (congrArg (World.drewN _) (Nat.add_assoc _ _ _))⟩))); try go_wp2_with (first | (go_at_call 21; (with_reducible refine (laws_tSame.calls k1 _ _ (rd_Ints l0 x13_1) _ _ (rd_Ints l1 x13_1) true _ ?side1 ?side2 ?side3 ?side4 A8.out).mono ?_); (case side1 => exact k13_); (case side2 => exact HC101_0.out); (case side3 => exact k14_); (case side4 => exact HC102_0.out); rintro e w' ⟨rfl, ⟨nd, rfl⟩⟩; (try first | exact ⟨rfl, _, World.drewN_drewN _ _ _⟩ | exact ⟨rfl, _, Eq.trans (World.drewN_drewN _ _ _) (congrArg (World.drewN _) (Nat.add_assoc _ _ _))⟩))))
         go_roundg k1
         case measure => have := HK1.out; omega
         case rel => exact ⟨(wrap64 (x13_1 + 1)), k32_, H', ⟨k34_⟩, k30_⟩
        ·replace c9 := Bool.eq_false_iff.mpr c9
         subst c9
         rw [if_neg (show ¬ (false = true) by decide)] at H
         obtain rfl := Option.some.inj H
         have p101 : 0 ≤ (x13_1 : Int) := of_decide_eq_true k31_
         have q101 : x13_1 < (l0.length : Int) := of_decide_eq_true k31_
         obtain ⟨ad101, A101_0, c101_0, e101, hx101_0, hl101_0, hi101_0⟩ := at_Ints HR0.out x13_1 p101 q101
         cases e101
         have HR101_0 := Aside0.mk hi101_0
         have HC101_0 := Aside0.mk hl101_0
         clear hi101_0 hl101_0
         replace p101 := eq_true p101
         replace q101 := eq_true q101
         have p102 : 0 ≤ (x13_1 : Int) := of_decide_eq_true k31_
         have q102 : x13_1 < (l1.length : Int) := of_decide_eq_true k31_
         obtain ⟨ad102, A102_0, c102_0, e102, hx102_0, hl102_0, hi102_0⟩ := at_Ints HR1.out x13_1 p102 q102
         cases e102
         have HR102_0 := Aside0.mk hi102_0
         have HC102_0 := Aside0.mk hl102_0
         clear hi102_0 hl102_0
         replace p102 := eq_true p102
         replace q102 := eq_true q102
         go_wp2_with (first | (go_at_call 21; (with_reducible refine (laws_tSame.calls k1 _ _ (rd_Ints l0 x13_1) _ _ (rd_Ints l1 x13_1) false _ ?side1 ?side2 ?side3 ?side4 A8.out).mono ?_); (case side1 => exact k13_); (case side2 => exact HC101_0.out); (case side3 => exact k14_); (case side4 => exact HC102_0.out); rintro e w' ⟨rfl, ⟨nd, rfl⟩⟩; (try first | exact ⟨rfl, _, World.drewN_drewN _ _ _⟩ | exact ⟨rfl, _, Eq.trans (World.drewN_drewN _ _ _) (congrArg (World.drewN _) (Nat.add_assoc _ _ _))⟩)))
         repeat (go_quiet (first | (go_at_call 21; (with_reducible refine (laws_tSame.calls k1 _ _ (rd_Ints l0 x13_1) _ _ (rd_Ints l1 x13_1) false _ ?side1 ?side2 ?side3 ?side4 A8.out).mono ?_); (case side1 => exact k13_); (case side2 => exact HC101_0.out); (case side3 => exact k14_); (case side4 => exact HC102_0.out); rintro e w' ⟨rfl, ⟨nd, rfl⟩⟩; (try first | exact ⟨rfl, _, World.drewN_drewN _ _ _⟩ | exact ⟨rfl, _, Eq.trans (World.drewN_drewN _ _ _) (congrArg (World.drewN _) (Nat.add_assoc _ _ _))⟩))); try go_wp2_with (first | (go_at_call 21; (with_reducible refine (laws_tSame.calls k1 _ _ (rd_Ints l0 x13_1) _ _ (rd_Ints l1 x13_1) false _ ?side1 ?side2 ?side3 ?side4 A8.out).mono ?_); (case side1 => exact k13_); (case side2 => exact HC101_0.out); (case side3 => exact k14_); (case side4 => exact HC102_0.out); rintro e w' ⟨rfl, ⟨nd, rfl⟩⟩; (try first | exact ⟨rfl, _, World.drewN_drewN _ _ _⟩ | exact ⟨rfl, _, Eq.trans (World.drewN_drewN _ _ _) (congrArg (World.drewN _) (Nat.add_assoc _ _ _))⟩))))
         go_ret
         exact ⟨k32_, k30_⟩
       ·rw [if_neg c7] at H
        exact absurd H (by simp)
      ·rw [if_neg c6] at H
       exact absurd H (by simp)
     ·rw [if_neg c5] at H
      exact absurd H (by simp)
    ·rw [if_neg c4] at H
     have c4b0 : decide (x13_1 < (l0.length : Int)) = false := decide_eq_false c4
     clear c4
     obtain rfl := Option.some.inj H
     go_wp2
     repeat (go_quiet (fail); try go_wp2)
     go_ret
     exact ⟨k32_, k30_⟩
 ·rw [if_neg c3] at H
  have c3b0 : ((l0.length : Int) == (l1.length : Int)) = false := beq_eq_false_iff_ne.mpr c3
  have c3b1 : ((l0.length : Int) != (l1.length : Int)) = true := bne_iff_ne.mpr c3
  have c3b2 : (l0.length == l1.length) = false := by first | simpa using c3 | (simp at c3 ⊢; omega)
  obtain rfl := Option.some.inj H
  go_enter Try.func20, Try.ntmps20
  go_wp2
  repeat (go_quiet (fail); try go_wp2)
  go_ret
  exact ⟨k32_, k30_⟩
end Go.Proofs.Ytidkoannjealfaa.P
namespace Go.Proofs.Ytidkoannjealfaa.P
open Go.RowKit Go.Proofs.YtidkoannjealfaaW.PrintWords Go.Proofs.YtidkoannjealfaaW.PrintLast Go.Proofs.YtidkoannjealfaaW.PrintMore
attribute [local go_sem] max2_int min2_int max_two min_two max_three min_three max_four min_four
set_option linter.unusedVariables false
set_option linter.unusedSimpArgs false
def IsS47 (w0 W : World) (g : Nat) (f0 : List Int) (f1 : Int) (f2 : Int) : Prop := ∃ A0 c0, W.heap[g]? = some (.cells #[.slice A0 f0.length c0, .int .i64 f1, .int .u64 f2] 47 (0, 0)) ∧ w0.heap.size ≤ g ∧ Kd.C (Kd.int .u8) w0 A0 f0.length f0
theorem IsS47.grown {w0 W : World} {g : Nat} {f0 : List Int} {f1 : Int} {f2 : Int} {W1 : World} {row : Option Nat} (h : IsS47 w0 W g f0 f1 f2) (hw : W.grownBy W1 row) (hne : some g ≠ row) : IsS47 w0 W1 g f0 f1 f2 := by
 obtain ⟨A0, c0, hb, hg, hr0⟩ := h
 exact ⟨A0, c0, blk_grown hb hw hne, hg, hr0⟩
theorem IsS47.own_neN {w0 W : World} {g : Nat} {f0 : List Int} {f1 : Int} {f2 : Int} {α : Type} {d : Kd α} {e : Nat} {base : Nat} {ok : Nat → Prop} {v : Value} {xs : List α} (h : IsS47 w0 W g f0 f1 f2) (ho : Kd.N d e W base ok v xs) (ht : e ≠ 47) : some g ≠ v.ownBlock := by
 obtain ⟨A0, c0, hb, hg, hr0⟩ := h
 exact Kd.N_ne ho hb ht
theorem IsS47.fresh {w0 W : World} {g : Nat} {f0 : List Int} {f1 : Int} {f2 : Int} (h : IsS47 w0 W g f0 f1 f2) : ∀ k, W.heap.size ≤ k → k ≠ g := by
 obtain ⟨A0, c0, hb, hg, hr0⟩ := h
 exact Kd.freshB hb
theorem IsS47.kept {w0 W : World} {g : Nat} {f0 : List Int} {f1 : Int} {f2 : Int} {W1 : World} {S : Nat → Prop} (h : IsS47 w0 W g f0 f1 f2) (hk : Kept W W1 S) (hne : ¬ S g) : IsS47 w0 W1 g f0 f1 f2 := by
 obtain ⟨A0, c0, hb, hg, hr0⟩ := h
 exact ⟨A0, c0, blk_kept hb hk hne, hg, hr0⟩
theorem IsS47.below {w0 W : World} {g : Nat} {f0 : List Int} {f1 : Int} {f2 : Int} {W1 : World} (h : IsS47 w0 W g f0 f1 f2) (hw : Below W.heap.size W W1) : IsS47 w0 W1 g f0 f1 f2 := h.grown (grown_of_below hw none) (by simp)
theorem IsS47.alloc {w0 W : World} {g : Nat} {f0 : List Int} {f1 : Int} {f2 : Int} (h : IsS47 w0 W g f0 f1 f2) (o : Obj) : IsS47 w0 (W.alloc o) g f0 f1 f2 := h.below (below_alloc (Below.refl _ _) o)
theorem IsS47.drewN {w0 W : World} {g : Nat} {f0 : List Int} {f1 : Int} {f2 : Int} (h : IsS47 w0 W g f0 f1 f2) (m : Nat) : IsS47 w0 (W.drewN m) g f0 f1 f2 := h
theorem IsS47.drew {w0 W : World} {g : Nat} {f0 : List Int} {f1 : Int} {f2 : Int} (h : IsS47 w0 W g f0 f1 f2) : IsS47 w0 W.drew g f0 f1 f2 := h
theorem IsS47.at_ {w0 W : World} {g : Nat} {f0 : List Int} {f1 : Int} {f2 : Int} {w' : World} {m : Nat} (hq : W.drewN m = w') (h : IsS47 w0 W g f0 f1 f2) : IsS47 w0 w' g f0 f1 f2 := by subst hq; exact IsS47.drewN h m
theorem IsS47.apart {w0 W : World} {g : Nat} {f0 : List Int} {f1 : Int} {f2 : Int} {α : Type} {d : Kd α} {e : Nat} {base : Nat} {ok : Nat → Prop} {v : Value} {xs : List α} (h : IsS47 w0 W g f0 f1 f2) (ho : d.R e W base ok v xs) (ht : ∀ q, q ∈ e :: d.E → q ≠ 47) : d.R e W base (fun k => ok k ∧ k ≠ g) v xs := by
 obtain ⟨A0, c0, hb, hg, hr0⟩ := h
 exact Kd.R_types ho hb ht
theorem IsS47.own_ne {w0 W : World} {g : Nat} {f0 : List Int} {f1 : Int} {f2 : Int} {α : Type} {d : Kd α} {e : Nat} {base : Nat} {ok : Nat → Prop} {v : Value} {xs : List α} (h : IsS47 w0 W g f0 f1 f2) (ho : d.R e W base ok v xs) (ht : e ≠ 47) : some g ≠ v.ownBlock := by
 obtain ⟨A0, c0, hb, hg, hr0⟩ := h
 exact Kd.R_ne ho hb ht
theorem IsS47.apartQ {w0 W : World} {g : Nat} {f0 : List Int} {f1 : Int} {f2 : Int} {α : Type} {d : Kd α} {e : Nat} {base : Nat} {ok : Nat → Prop} {v : Value} {xs : List α} (h : IsS47 w0 W g f0 f1 f2) (ho : d.Q e W base ok v xs) (ht : ∀ q, q ∈ e :: d.E → q ≠ 47) : d.Q e W base (fun k => ok k ∧ k ≠ g) v xs := by
 obtain ⟨A0, c0, hb, hg, hr0⟩ := h
 exact Kd.Q_types ho hb ht
theorem IsS47.own_neQ {w0 W : World} {g : Nat} {f0 : List Int} {f1 : Int} {f2 : Int} {α : Type} {d : Kd α} {e : Nat} {base : Nat} {ok : Nat → Prop} {v : Value} {xs : List α} (h : IsS47 w0 W g f0 f1 f2) (ho : d.Q e W base ok v xs) (ht : e ≠ 47) : some g ≠ v.ownBlock := by
 obtain ⟨A0, c0, hb, hg, hr0⟩ := h
 exact Kd.Q_ne ho hb ht
theorem IsS47.apartS {w0 W : World} {g : Nat} {f0 : List Int} {f1 : Int} {f2 : Int} {α : Type} {d : Kd α} {e : Nat} {base : Nat} {ok : Nat → Prop} {v : Value} {xs : List α} (h : IsS47 w0 W g f0 f1 f2) (ho : d.S e W base ok v xs) (ht : ∀ q, q ∈ e :: d.E → q ≠ 47) : d.S e W base (fun k => ok k ∧ k ≠ g) v xs := by
 obtain ⟨A0, c0, hb, hg, hr0⟩ := h
 exact Kd.S_types ho hb ht
theorem IsS47.own_neS {w0 W : World} {g : Nat} {f0 : List Int} {f1 : Int} {f2 : Int} {α : Type} {d : Kd α} {e : Nat} {base : Nat} {ok : Nat → Prop} {v : Value} {xs : List α} (h : IsS47 w0 W g f0 f1 f2) (ho : d.S e W base ok v xs) (ht : e ≠ 47) : some g ≠ v.ownBlock := by
 obtain ⟨A0, c0, hb, hg, hr0⟩ := h
 exact Kd.S_ne ho hb ht
theorem IsS47.lt {w0 W : World} {g : Nat} {f0 : List Int} {f1 : Int} {f2 : Int} (h : IsS47 w0 W g f0 f1 f2) : g < W.heap.size := by
 obtain ⟨A0, c0, hb, hg, hr0⟩ := h
 exact blk_lt hb
theorem IsS47.ge {w0 W : World} {g : Nat} {f0 : List Int} {f1 : Int} {f2 : Int} (h : IsS47 w0 W g f0 f1 f2) : w0.heap.size ≤ g := by
 obtain ⟨A0, c0, hb, hg, hr0⟩ := h
 exact hg
theorem IsS47.ne_blk {w0 W : World} {g : Nat} {f0 : List Int} {f1 : Int} {f2 : Int} {a : Nat} {cs : Array Value} {t : TypeId} {fr : Nat × Nat} (h : IsS47 w0 W g f0 f1 f2) (hb2 : W.heap[a]? = some (.cells cs t fr)) (ht : t ≠ 47) : g ≠ a := by
 obtain ⟨A0, c0, hb, hg, hr0⟩ := h
 rintro rfl
 rw [hb] at hb2
 injection hb2 with hb2
 injection hb2 with _ ht2
 exact ht ht2.symm
theorem IsS47.far {w0 W : World} {g : Nat} {f0 : List Int} {f1 : Int} {f2 : Int} {p : Addr} (h : IsS47 w0 W g f0 f1 f2) (hne : g ≠ p.block) (u : Value) : IsS47 w0 (W.setCell p u) g f0 f1 f2 := by
 obtain ⟨A0, c0, hb, hg, hr0⟩ := h
 exact ⟨A0, c0, blk_far hb hne u, hg, hr0⟩
theorem cellS47_0 {W : World} {g : Nat} {A0 : Option Addr} {c0 : Nat} {f0 : List Int} {f1 : Int} {f2 : Int} (h : W.heap[g]? = some (.cells #[.slice A0 f0.length c0, .int .i64 f1, .int .u64 f2] 47 (0, 0))) : W.cell? ⟨g, 0, none⟩ = some (.slice A0 f0.length c0) := (blk_cell h 0).trans rfl
theorem cellS47_1 {W : World} {g : Nat} {A0 : Option Addr} {c0 : Nat} {f0 : List Int} {f1 : Int} {f2 : Int} (h : W.heap[g]? = some (.cells #[.slice A0 f0.length c0, .int .i64 f1, .int .u64 f2] 47 (0, 0))) : W.cell? ⟨g, 1, none⟩ = some (.int .i64 f1) := (blk_cell h 1).trans rfl
theorem IsS47.set_1 {w0 W : World} {g : Nat} {f0 : List Int} {f1 : Int} {f2 : Int} (h : IsS47 w0 W g f0 f1 f2) (x : Int) : IsS47 w0 (W.setCell ⟨g, 1, none⟩ (.int .i64 x)) g f0 x f2 := by
 obtain ⟨A0, c0, hb, hg, hr0⟩ := h
 exact ⟨A0, c0, by simpa using blk_set hb 1 (.int .i64 x), hg, hr0⟩
theorem cellS47_2 {W : World} {g : Nat} {A0 : Option Addr} {c0 : Nat} {f0 : List Int} {f1 : Int} {f2 : Int} (h : W.heap[g]? = some (.cells #[.slice A0 f0.length c0, .int .i64 f1, .int .u64 f2] 47 (0, 0))) : W.cell? ⟨g, 2, none⟩ = some (.int .u64 f2) := (blk_cell h 2).trans rfl
theorem IsS47.set_2 {w0 W : World} {g : Nat} {f0 : List Int} {f1 : Int} {f2 : Int} (h : IsS47 w0 W g f0 f1 f2) (x : Int) : IsS47 w0 (W.setCell ⟨g, 2, none⟩ (.int .u64 x)) g f0 f1 x := by
 obtain ⟨A0, c0, hb, hg, hr0⟩ := h
 exact ⟨A0, c0, by simpa using blk_set hb 2 (.int .u64 x), hg, hr0⟩
theorem IsS47.new (w0 W : World) (A0 : Option Addr) (c0 : Nat) (f0 : List Int) (f1 : Int) (f2 : Int) (hB : Below w0.heap.size w0 W) (hr0 : Kd.C (Kd.int .u8) w0 A0 f0.length f0) : IsS47 w0 (W.alloc (.cells #[.slice A0 f0.length c0, .int .i64 f1, .int .u64 f2] 47)) W.heap.size f0 f1 f2 := ⟨A0, c0, by simpa using heap_alloc_new W _, hB.size, hr0⟩
def spec_l1Cur_next.f (s0_0 : List Int) (s0_1 : Int) (s0_2 : Int) : Option (Int × Int × Int) := if s0_1 < (s0_0.length : Int) then (if 0 ≤ s0_1 then (if (wrap64 (s0_1 + 1)) ≤ (s0_0.length : Int) then (some (wrap64 (rd s0_0 s0_1), wrap64 (s0_1 + 1), IntKind.u64.wrap ((IntKind.u64.wrap ((IntKind.u64.wrap (s0_2 * 6364136223846793005)) + (IntKind.u64.wrap (wrap64 (rd s0_0 s0_1))))) + 1442695040888963407))) else (some (wrap64 (Go.bits .and .u64 ((IntKind.u64.wrap ((IntKind.u64.wrap ((IntKind.u64.wrap (s0_2 * 6364136223846793005)) + (IntKind.u64.wrap (wrap64 (rd s0_0 s0_1))))) + 1442695040888963407)) / 1099511627776) 255), wrap64 (s0_1 + 1), IntKind.u64.wrap ((IntKind.u64.wrap ((IntKind.u64.wrap (s0_2 * 6364136223846793005)) + (IntKind.u64.wrap (wrap64 (rd s0_0 s0_1))))) + 1442695040888963407)))) else (none)) else (if (wrap64 (s0_1 + 1)) ≤ (s0_0.length : Int) then (some (0, wrap64 (s0_1 + 1), IntKind.u64.wrap ((IntKind.u64.wrap ((IntKind.u64.wrap (s0_2 * 6364136223846793005)) + 0)) + 1442695040888963407))) else (some (wrap64 (Go.bits .and .u64 ((IntKind.u64.wrap ((IntKind.u64.wrap ((IntKind.u64.wrap (s0_2 * 6364136223846793005)) + 0)) + 1442695040888963407)) / 1099511627776) 255), wrap64 (s0_1 + 1), IntKind.u64.wrap ((IntKind.u64.wrap ((IntKind.u64.wrap (s0_2 * 6364136223846793005)) + 0)) + 1442695040888963407))))
set_option maxHeartbeats 8000000 in
set_option maxRecDepth 100000 in
theorem spec_l1Cur_next.calls (g : Nat) (s0_0 : List Int) (s0_1 : Int) (s0_2 : Int) (r1 : Int) (r2 : Int) (r3 : Int) (w0 w : World) (hI : IsS47 w0 w g s0_0 s0_1 s0_2) (hB : Below w0.heap.size w0 w) (h : spec_l1Cur_next.f s0_0 s0_1 s0_2 = some (r1, r2, r3)) :
  Calls Try.prog 57 #[.pointer (some ⟨g, 0, none⟩)] w fun e w' => e = .returned (.int .i64 r1) ∧ IsS47 w0 w' g s0_0 r2 r3 ∧ Below w0.heap.size w0 w' ∧ KeepBut w w' g none := by
 have HI0 := Aside0.mk hI
 have HK := Aside0.mk (KeepBut.refl w g none)
 have HL := Aside0.mk hB.size
 clear hI
 have HW0 := Aside0.mk hB.size
 have HB := Aside0.mk hB
 clear hB
 have H : (if s0_1 < (s0_0.length : Int) then (if 0 ≤ s0_1 then (if (wrap64 (s0_1 + 1)) ≤ (s0_0.length : Int) then (some (wrap64 (rd s0_0 s0_1), wrap64 (s0_1 + 1), IntKind.u64.wrap ((IntKind.u64.wrap ((IntKind.u64.wrap (s0_2 * 6364136223846793005)) + (IntKind.u64.wrap (wrap64 (rd s0_0 s0_1))))) + 1442695040888963407))) else (some (wrap64 (Go.bits .and .u64 ((IntKind.u64.wrap ((IntKind.u64.wrap ((IntKind.u64.wrap (s0_2 * 6364136223846793005)) + (IntKind.u64.wrap (wrap64 (rd s0_0 s0_1))))) + 1442695040888963407)) / 1099511627776) 255), wrap64 (s0_1 + 1), IntKind.u64.wrap ((IntKind.u64.wrap ((IntKind.u64.wrap (s0_2 * 6364136223846793005)) + (IntKind.u64.wrap (wrap64 (rd s0_0 s0_1))))) + 1442695040888963407)))) else (none)) else (if (wrap64 (s0_1 + 1)) ≤ (s0_0.length : Int) then (some (0, wrap64 (s0_1 + 1), IntKind.u64.wrap ((IntKind.u64.wrap ((IntKind.u64.wrap (s0_2 * 6364136223846793005)) + 0)) + 1442695040888963407))) else (some (wrap64 (Go.bits .and .u64 ((IntKind.u64.wrap ((IntKind.u64.wrap ((IntKind.u64.wrap (s0_2 * 6364136223846793005)) + 0)) + 1442695040888963407)) / 1099511627776) 255), wrap64 (s0_1 + 1), IntKind.u64.wrap ((IntKind.u64.wrap ((IntKind.u64.wrap (s0_2 * 6364136223846793005)) + 0)) + 1442695040888963407))))) = some (r1, r2, r3) := h
 clear h
 by_cases c2 : s0_1 < (s0_0.length : Int)
 ·rw [if_pos c2] at H
  have c2b0 : decide (s0_1 < (s0_0.length : Int)) = true := decide_eq_true c2
  clear c2
  by_cases c3 : 0 ≤ s0_1
  ·rw [if_pos c3] at H
   have c3b0 : decide (0 ≤ s0_1) = true := decide_eq_true c3
   clear c3
   by_cases c4 : (wrap64 (s0_1 + 1)) ≤ (s0_0.length : Int)
   ·rw [if_pos c4] at H
    have c4b0 : decide ((wrap64 (s0_1 + 1)) ≤ (s0_0.length : Int)) = true := decide_eq_true c4
    clear c4
    simp only [Option.some.injEq, Prod.mk.injEq] at H
    obtain ⟨rfl, rfl, rfl⟩ := H
    obtain ⟨ASz5_0, cSz5_0, HGz5, hgz5, HSz5_0⟩ := HI0.out
    have hcz5_0 := cellS47_0 HGz5
    have hcz5_1 := cellS47_1 HGz5
    have hcz5_2 := cellS47_2 HGz5
    have hfz5_1 := blk_frozen HGz5 1
    have hfz5_2 := blk_frozen HGz5 2
    clear HGz5 hgz5
    have p101 : 0 ≤ (s0_1 : Int) := of_decide_eq_true k31_
    have q101 : s0_1 < (s0_0.length : Int) := of_decide_eq_true k31_
    obtain ⟨ad101, e101, hx101_0⟩ := Kd.at_int HSz5_0 s0_1 p101 q101
    cases e101
    replace hx101_0 := pw_cell_below HB.out hx101_0
    replace p101 := eq_true p101
    replace q101 := eq_true q101
    go_enter Try.func57, Try.ntmps57
    go_wp2
    repeat (go_quiet (fail); try go_wp2)
    go_ret
    (try simp only [Int.add_zero])
    exact ⟨k22_, k12_, k3_, k18_⟩
   ·rw [if_neg c4] at H
    have c4b0 : decide ((wrap64 (s0_1 + 1)) ≤ (s0_0.length : Int)) = false := decide_eq_false c4
    clear c4
    simp only [Option.some.injEq, Prod.mk.injEq] at H
    obtain ⟨rfl, rfl, rfl⟩ := H
    obtain ⟨ASz6_0, cSz6_0, HGz6, hgz6, HSz6_0⟩ := HI0.out
    have hcz6_0 := cellS47_0 HGz6
    have hcz6_1 := cellS47_1 HGz6
    have hcz6_2 := cellS47_2 HGz6
    have hfz6_1 := blk_frozen HGz6 1
    have hfz6_2 := blk_frozen HGz6 2
    clear HGz6 hgz6
    have p101 : 0 ≤ (s0_1 : Int) := of_decide_eq_true k31_
    have q101 : s0_1 < (s0_0.length : Int) := of_decide_eq_true k31_
    obtain ⟨ad101, e101, hx101_0⟩ := Kd.at_int HSz6_0 s0_1 p101 q101
    cases e101
    replace hx101_0 := pw_cell_below HB.out hx101_0
    replace p101 := eq_true p101
    replace q101 := eq_true q101
    go_enter Try.func57, Try.ntmps57
    go_wp2
    repeat (go_quiet (fail); try go_wp2)
    go_ret
    (try simp only [Int.add_zero])
    exact ⟨k22_, k12_, k3_, k18_⟩
  ·rw [if_neg c3] at H
   exact absurd H (by simp)
 ·rw [if_neg c2] at H
  have c2b0 : decide (s0_1 < (s0_0.length : Int)) = false := decide_eq_false c2
  clear c2
  by_cases c7 : (wrap64 (s0_1 + 1)) ≤ (s0_0.length : Int)
  ·rw [if_pos c7] at H
   have c7b0 : decide ((wrap64 (s0_1 + 1)) ≤ (s0_0.length : Int)) = true := decide_eq_true c7
   clear c7
   simp only [Option.some.injEq, Prod.mk.injEq] at H
   obtain ⟨rfl, rfl, rfl⟩ := H
   obtain ⟨ASz8_0, cSz8_0, HGz8, hgz8, HSz8_0⟩ := HI0.out
   have hcz8_0 := cellS47_0 HGz8
   have hcz8_1 := cellS47_1 HGz8
   have hcz8_2 := cellS47_2 HGz8
   have hfz8_1 := blk_frozen HGz8 1
   have hfz8_2 := blk_frozen HGz8 2
   clear HGz8 hgz8
   go_enter Try.func57, Try.ntmps57
   go_wp2
   repeat (go_quiet (fail); try go_wp2)
   go_ret
   (try simp only [Int.add_zero])
   exact ⟨k22_, k12_, k3_, k18_⟩
  ·rw [if_neg c7] at H
   have c7b0 : decide ((wrap64 (s0_1 + 1)) ≤ (s0_0.length : Int)) = false := decide_eq_false c7
   clear c7
   simp only [Option.some.injEq, Prod.mk.injEq] at H
   obtain ⟨rfl, rfl, rfl⟩ := H
   obtain ⟨ASz9_0, cSz9_0, HGz9, hgz9, HSz9_0⟩ := HI0.out
   have hcz9_0 := cellS47_0 HGz9
   have hcz9_1 := cellS47_1 HGz9
   have hcz9_2 := cellS47_2 HGz9
   have hfz9_1 := blk_frozen HGz9 1
   have hfz9_2 := blk_frozen HGz9 2
   clear HGz9 hgz9
   go_enter Try.func57, Try.ntmps57
   go_wp2
   repeat (go_quiet (fail); try go_wp2)
   go_ret
   (try simp only [Int.add_zero])
   exact ⟨k22_, k12_, k3_, k18_⟩
end Go.Proofs.Ytidkoannjealfaa.P
namespace Go.Proofs.Ytidkoannjealfaa.P
open Go.RowKit Go.Proofs.YtidkoannjealfaaW.PrintWords Go.Proofs.YtidkoannjealfaaW.PrintLast Go.Proofs.YtidkoannjealfaaW.PrintMore
attribute [local go_sem] max2_int min2_int max_two min_two max_three min_three max_four min_four
set_option linter.unusedVariables false
set_option linter.unusedSimpArgs false
def spec_l1Cur_pick.f (s0_0 : List Int) (s0_1 : Int) (s0_2 : Int) (a1 : Int) : Option (Int × Int × Int) := if a1 ≤ 1 then (some (0, s0_1, s0_2)) else ((spec_l1Cur_next.f s0_0 s0_1 s0_2).bind fun bt101 => (if a1 > 200 then ((spec_l1Cur_next.f s0_0 bt101.2.1 bt101.2.2).bind fun bt104 => (if a1 = 0 then (none) else (some (Int.tmod (wrap64 ((wrap64 (bt101.1 * 256)) + bt104.1)) a1, bt104.2.1, bt104.2.2)))) else (if a1 = 0 then (none) else (some (Int.tmod bt101.1 a1, bt101.2.1, bt101.2.2)))))
set_option maxHeartbeats 8000000 in
set_option maxRecDepth 100000 in
theorem spec_l1Cur_pick.calls (g : Nat) (s0_0 : List Int) (s0_1 : Int) (s0_2 : Int) (a1 : Int) (r1 : Int) (r2 : Int) (r3 : Int) (w0 w : World) (hI : IsS47 w0 w g s0_0 s0_1 s0_2) (hB : Below w0.heap.size w0 w) (h : spec_l1Cur_pick.f s0_0 s0_1 s0_2 a1 = some (r1, r2, r3)) :
  Calls Try.prog 51 #[.pointer (some ⟨g, 0, none⟩), .int .i64 a1] w fun e w' => e = .returned (.int .i64 r1) ∧ IsS47 w0 w' g s0_0 r2 r3 ∧ Below w0.heap.size w0 w' ∧ KeepBut w w' g none := by
 have HI0 := Aside0.mk hI
 have HK := Aside0.mk (KeepBut.refl w g none)
 have HL := Aside0.mk hB.size
 clear hI
 have HW0 := Aside0.mk hB.size
 have HB := Aside0.mk hB
 clear hB
 have H : (if a1 ≤ 1 then (some (0, s0_1, s0_2)) else ((spec_l1Cur_next.f s0_0 s0_1 s0_2).bind fun bt101 => (if a1 > 200 then ((spec_l1Cur_next.f s0_0 bt101.2.1 bt101.2.2).bind fun bt104 => (if a1 = 0 then (none) else (some (Int.tmod (wrap64 ((wrap64 (bt101.1 * 256)) + bt104.1)) a1, bt104.2.1, bt104.2.2)))) else (if a1 = 0 then (none) else (some (Int.tmod bt101.1 a1, bt101.2.1, bt101.2.2)))))) = some (r1, r2, r3) := h
 clear h
 by_cases c3 : a1 ≤ 1
 ·rw [if_pos c3] at H
  have c3b0 : decide (a1 ≤ 1) = true := decide_eq_true c3
  clear c3
  simp only [Option.some.injEq, Prod.mk.injEq] at H
  obtain ⟨rfl, rfl, rfl⟩ := H
  go_enter Try.func51, Try.ntmps51
  go_wp2
  go_ret
  exact ⟨k22_, k12_, k3_, k18_⟩
 ·rw [if_neg c3] at H
  have c3b0 : decide (a1 ≤ 1) = false := decide_eq_false c3
  clear c3
  obtain ⟨⟨t101, t102, t103⟩, A4, H⟩ := obnd_ H
  (try dsimp only at H)
  by_cases c5 : a1 > 200
  ·rw [if_pos c5] at H
   have c5b0 : decide (200 < a1) = true := decide_eq_true c5
   clear c5
   obtain ⟨⟨t104, t105, t106⟩, A6, H⟩ := obnd_ H
   (try dsimp only at H)
   by_cases c7 : a1 = 0
   ·rw [if_pos c7] at H
    exact absurd H (by simp)
   ·rw [if_neg c7] at H
    have c7b0 : (a1 == 0) = false := beq_eq_false_iff_ne.mpr c7
    have c7b1 : (a1 != 0) = true := bne_iff_ne.mpr c7
    simp only [Option.some.injEq, Prod.mk.injEq] at H
    obtain ⟨rfl, rfl, rfl⟩ := H
    go_enter Try.func51, Try.ntmps51
    go_wp2_with (first | ((with_reducible refine gate_callee (f := 57) rfl ?_); refine goesL_ (some 9) rfl rfl Try.func57 (by kernel_rfl) rfl #[.pointer (some ⟨g, 0, none⟩)] rfl k20_ ?_; (with_reducible refine (spec_l1Cur_next.calls g s0_0 s0_1 s0_2 t101 t102 t103 w0 _ ?side1 ?side2 A4.out).mono ?_); (case side1 => exact k12_); (case side2 => exact k3_); rintro e w8 ⟨rfl, hi, hb, hk⟩; refine ⟨_, rfl, ?_⟩; replace HK := Aside0.mk (KeepBut.trans k18_ hk (.inl rfl)); replace HB := Aside0.mk (hb); replace HI0 := Aside0.mk (hi); (try clear hb hk hi)) | ((with_reducible refine gate_callee (f := 57) rfl ?_); refine goesL_ (some 15) rfl rfl Try.func57 (by kernel_rfl) rfl #[.pointer (some ⟨g, 0, none⟩)] rfl k20_ ?_; (with_reducible refine (spec_l1Cur_next.calls g s0_0 t102 t103 t104 t105 t106 w0 _ ?side1 ?side2 A6.out).mono ?_); (case side1 => exact k12_); (case side2 => exact k3_); rintro e w9 ⟨rfl, hi, hb, hk⟩; refine ⟨_, rfl, ?_⟩; replace HK := Aside0.mk (KeepBut.trans k18_ hk (.inl rfl)); replace HB := Aside0.mk (hb); replace HI0 := Aside0.mk (hi); (try clear hb hk hi)))
    go_ret
    exact ⟨k22_, k12_, k3_, k18_⟩
  ·rw [if_neg c5] at H
   have c5b0 : decide (200 < a1) = false := decide_eq_false c5
   clear c5
   by_cases c10 : a1 = 0
   ·rw [if_pos c10] at H
    exact absurd H (by simp)
   ·rw [if_neg c10] at H
    have c10b0 : (a1 == 0) = false := beq_eq_false_iff_ne.mpr c10
    have c10b1 : (a1 != 0) = true := bne_iff_ne.mpr c10
    simp only [Option.some.injEq, Prod.mk.injEq] at H
    obtain ⟨rfl, rfl, rfl⟩ := H
    go_enter Try.func51, Try.ntmps51
    go_wp2_with (first | ((with_reducible refine gate_callee (f := 57) rfl ?_); refine goesL_ (some 9) rfl rfl Try.func57 (by kernel_rfl) rfl #[.pointer (some ⟨g, 0, none⟩)] rfl k20_ ?_; (with_reducible refine (spec_l1Cur_next.calls g s0_0 s0_1 s0_2 t101 t102 t103 w0 _ ?side1 ?side2 A4.out).mono ?_); (case side1 => exact k12_); (case side2 => exact k3_); rintro e w11 ⟨rfl, hi, hb, hk⟩; refine ⟨_, rfl, ?_⟩; replace HK := Aside0.mk (KeepBut.trans k18_ hk (.inl rfl)); replace HB := Aside0.mk (hb); replace HI0 := Aside0.mk (hi); (try clear hb hk hi)))
    go_ret
    exact ⟨k22_, k12_, k3_, k18_⟩
end Go.Proofs.Ytidkoannjealfaa.P
namespace Go.Proofs.Ytidkoannjealfaa.P
open Go.RowKit Go.Proofs.YtidkoannjealfaaW.PrintWords Go.Proofs.YtidkoannjealfaaW.PrintLast Go.Proofs.YtidkoannjealfaaW.PrintMore
attribute [local go_sem] max2_int min2_int max_two min_two max_three min_three max_four min_four
set_option linter.unusedVariables false
set_option linter.unusedSimpArgs false
def spec_l1Cur_one.f (s0_0 : List Int) (s0_1 : Int) (s0_2 : Int) (a1 : Int) : Option (Bool × Int × Int) := (spec_l1Cur_pick.f s0_0 s0_1 s0_2 a1).bind fun bt101 => (some ((bt101.1 == 0), bt101.2.1, bt101.2.2))
set_option maxHeartbeats 8000000 in
set_option maxRecDepth 100000 in
theorem spec_l1Cur_one.calls (g : Nat) (s0_0 : List Int) (s0_1 : Int) (s0_2 : Int) (a1 : Int) (r1 : Bool) (r2 : Int) (r3 : Int) (w0 w : World) (hI : IsS47 w0 w g s0_0 s0_1 s0_2) (hB : Below w0.heap.size w0 w) (h : spec_l1Cur_one.f s0_0 s0_1 s0_2 a1 = some (r1, r2, r3)) :
  Calls Try.prog 49 #[.pointer (some ⟨g, 0, none⟩), .int .i64 a1] w fun e w' => e = .returned (.bool r1) ∧ IsS47 w0 w' g s0_0 r2 r3 ∧ Below w0.heap.size w0 w' ∧ KeepBut w w' g none := by
 have HI0 := Aside0.mk hI
 have HK := Aside0.mk (KeepBut.refl w g none)
 have HL := Aside0.mk hB.size
 clear hI
 have HW0 := Aside0.mk hB.size
 have HB := Aside0.mk hB
 clear hB
 have H : ((spec_l1Cur_pick.f s0_0 s0_1 s0_2 a1).bind fun bt101 => (some ((bt101.1 == 0), bt101.2.1, bt101.2.2))) = some (r1, r2, r3) := h
 clear h
 obtain ⟨⟨t101, t102, t103⟩, A3, H⟩ := obnd_ H
 (try dsimp only at H)
 simp only [Option.some.injEq, Prod.mk.injEq] at H
 obtain ⟨rfl, rfl, rfl⟩ := H
 go_enter Try.func49, Try.ntmps49
 go_wp2_with (first | ((with_reducible refine gate_callee (f := 51) rfl ?_); refine goesL_ (some 7) rfl rfl Try.func51 (by kernel_rfl) rfl #[.pointer (some ⟨g, 0, none⟩), .int .i64 a1] rfl k20_ ?_; (with_reducible refine (spec_l1Cur_pick.calls g s0_0 s0_1 s0_2 a1 t101 t102 t103 w0 _ ?side1 ?side2 A3.out).mono ?_); (case side1 => exact k12_); (case side2 => exact k3_); rintro e w4 ⟨rfl, hi, hb, hk⟩; refine ⟨_, rfl, ?_⟩; replace HK := Aside0.mk (KeepBut.trans k18_ hk (.inl rfl)); replace HB := Aside0.mk (hb); replace HI0 := Aside0.mk (hi); (try clear hb hk hi)))
 go_ret
 exact ⟨k22_, k12_, k3_, k18_⟩
end Go.Proofs.Ytidkoannjealfaa.P
namespace Go.Proofs.Ytidkoannjealfaa.P
open Go.RowKit Go.Proofs.YtidkoannjealfaaW.PrintWords Go.Proofs.YtidkoannjealfaaW.PrintLast Go.Proofs.YtidkoannjealfaaW.PrintMore
attribute [local go_sem] max2_int min2_int max_two min_two max_three min_three max_four min_four
set_option linter.unusedVariables false
set_option linter.unusedSimpArgs false
def spec_l1Cur_among.f (s0_0 : List Int) (s0_1 : Int) (s0_2 : Int) (l1 : List Int) : Option (Int × Int × Int) := (spec_l1Cur_pick.f s0_0 s0_1 s0_2 (l1.length : Int)).bind fun bt101 => (if 0 ≤ bt101.1 then (if bt101.1 < (l1.length : Int) then (some (rd l1 bt101.1, bt101.2.1, bt101.2.2)) else (none)) else (none))
set_option maxHeartbeats 8000000 in
set_option maxRecDepth 100000 in
theorem spec_l1Cur_among.calls (g : Nat) (s0_0 : List Int) (s0_1 : Int) (s0_2 : Int) (A1 : Option Addr) (c1 : Nat) (l1 : List Int) (r1 : Int) (r2 : Int) (r3 : Int) (w0 w : World) (hI : IsS47 w0 w g s0_0 s0_1 s0_2) (hB : Below w0.heap.size w0 w) (hr1 : Kd.C (Kd.int .i64) w A1 l1.length l1) (hc1 : l1.length ≤ c1) (hf1 : ∀ ad, A1 = some ad → 0 < l1.length → ad.block ≠ g) (h : spec_l1Cur_among.f s0_0 s0_1 s0_2 l1 = some (r1, r2, r3)) :
  Calls Try.prog 50 #[.pointer (some ⟨g, 0, none⟩), .slice A1 l1.length c1] w fun e w' => e = .returned (.int .i64 r1) ∧ IsS47 w0 w' g s0_0 r2 r3 ∧ Below w0.heap.size w0 w' ∧ KeepBut w w' g none := by
 have HR1 := Aside0.mk hr1
 have HC1 := Aside0.mk hc1
 clear hr1 hc1
 have HI0 := Aside0.mk hI
 have HK := Aside0.mk (KeepBut.refl w g none)
 have HL := Aside0.mk hB.size
 clear hI
 have HW0 := Aside0.mk hB.size
 have HB := Aside0.mk hB
 clear hB
 have H : ((spec_l1Cur_pick.f s0_0 s0_1 s0_2 (l1.length : Int)).bind fun bt101 => (if 0 ≤ bt101.1 then (if bt101.1 < (l1.length : Int) then (some (rd l1 bt101.1, bt101.2.1, bt101.2.2)) else (none)) else (none))) = some (r1, r2, r3) := h
 clear h
 obtain ⟨⟨t101, t102, t103⟩, A3, H⟩ := obnd_ H
 (try dsimp only at H)
 by_cases c4 : 0 ≤ t101
 ·rw [if_pos c4] at H
  have c4b0 : decide (0 ≤ t101) = true := decide_eq_true c4
  clear c4
  by_cases c5 : t101 < (l1.length : Int)
  ·rw [if_pos c5] at H
   have c5b0 : decide (t101 < (l1.length : Int)) = true := decide_eq_true c5
   clear c5
   simp only [Option.some.injEq, Prod.mk.injEq] at H
   obtain ⟨rfl, rfl, rfl⟩ := H
   go_enter Try.func50, Try.ntmps50
   go_wp2_with (first | ((with_reducible refine gate_callee (f := 51) rfl ?_); refine goesL_ (some 9) rfl rfl Try.func51 (by kernel_rfl) rfl #[.pointer (some ⟨g, 0, none⟩), .int .i64 (l1.length : Int)] rfl k20_ ?_; (with_reducible refine (spec_l1Cur_pick.calls g s0_0 s0_1 s0_2 (l1.length : Int) t101 t102 t103 w0 _ ?side1 ?side2 A3.out).mono ?_); (case side1 => exact k12_); (case side2 => exact k3_); rintro e w6 ⟨rfl, hi, hb, hk⟩; refine ⟨_, rfl, ?_⟩; replace HK := Aside0.mk (KeepBut.trans k18_ hk (.inl rfl)); replace HB := Aside0.mk (hb); replace HI0 := Aside0.mk (hi); (try clear hb hk hi); have p104 : 0 ≤ (t101 : Int) := of_decide_eq_true k31_; have q104 : t101 < (l1.length : Int) := of_decide_eq_true k31_; obtain ⟨ad104, e104, hx104_0⟩ := Kd.at_int HR1.out t101 p104 q104; cases e104; replace hx104_0 := keep_cell HK.out hx104_0 (by first | (rw [add_block]; exact hf1 _ rfl (by omega)) | exact hf1 _ rfl (by omega) | exact hf1 ad104 rfl (by omega)); replace p104 := eq_true p104; replace q104 := eq_true q104))
   go_ret
   exact ⟨k22_, k12_, k3_, k18_⟩
  ·rw [if_neg c5] at H
   exact absurd H (by simp)
 ·rw [if_neg c4] at H
  exact absurd H (by simp)
end Go.Proofs.Ytidkoannjealfaa.P
namespace Go.Proofs.Ytidkoannjealfaa.P
open Go.RowKit Go.Proofs.YtidkoannjealfaaW.PrintWords Go.Proofs.YtidkoannjealfaaW.PrintLast Go.Proofs.YtidkoannjealfaaW.PrintMore
attribute [local go_sem] max2_int min2_int max_two min_two max_three min_three max_four min_four
set_option linter.unusedVariables false
set_option linter.unusedSimpArgs false
def spec_l1Cur_upTo.f (s0_0 : List Int) (s0_1 : Int) (s0_2 : Int) : Option (Int × Int × Int) := (spec_l1Cur_one.f s0_0 s0_1 s0_2 12).bind fun bt101 => (if bt101.1 = true then ((spec_l1Cur_among.f s0_0 bt101.2.1 bt101.2.2 (([(-1), 0, 600, 601, 4611686018427387904] : List Int))).bind fun bt107 => (some (bt107.1, bt107.2.1, bt107.2.2))) else ((spec_l1Cur_pick.f s0_0 bt101.2.1 bt101.2.2 120).bind fun bt110 => (some (bt110.1, bt110.2.1, bt110.2.2))))
set_option maxHeartbeats 8000000 in
set_option maxRecDepth 100000 in
theorem spec_l1Cur_upTo.calls (g : Nat) (s0_0 : List Int) (s0_1 : Int) (s0_2 : Int) (r1 : Int) (r2 : Int) (r3 : Int) (w0 w : World) (hI : IsS47 w0 w g s0_0 s0_1 s0_2) (hB : Below w0.heap.size w0 w) (h : spec_l1Cur_upTo.f s0_0 s0_1 s0_2 = some (r1, r2, r3)) :
  Calls Try.prog 47 #[.pointer (some ⟨g, 0, none⟩)] w fun e w' => e = .returned (.int .i64 r1) ∧ IsS47 w0 w' g s0_0 r2 r3 ∧ Below w0.heap.size w0 w' ∧ KeepBut w w' g none := by
 have HI0 := Aside0.mk hI
 have HK := Aside0.mk (KeepBut.refl w g none)
 have HL := Aside0.mk hB.size
 clear hI
 have HW0 := Aside0.mk hB.size
 have HB := Aside0.mk hB
 clear hB
 have H : ((spec_l1Cur_one.f s0_0 s0_1 s0_2 12).bind fun bt101 => (if bt101.1 = true then ((spec_l1Cur_among.f s0_0 bt101.2.1 bt101.2.2 (([(-1), 0, 600, 601, 4611686018427387904] : List Int))).bind fun bt107 => (some (bt107.1, bt107.2.1, bt107.2.2))) else ((spec_l1Cur_pick.f s0_0 bt101.2.1 bt101.2.2 120).bind fun bt110 => (some (bt110.1, bt110.2.1, bt110.2.2))))) = some (r1, r2, r3) := h
 clear h
 obtain ⟨⟨t101, t102, t103⟩, A2, H⟩ := obnd_ H
 (try dsimp only at H)
 by_cases c3 : t101 = true
 ·subst c3
  rw [if_pos rfl] at H
  obtain ⟨y104, hy_⟩ : ∃ y_ : List Int, y_ = (([(-1), 0, 600, 601, 4611686018427387904] : List Int)) := ⟨_, rfl⟩
  replace H : ((spec_l1Cur_among.f s0_0 t102 t103 y104).bind fun bt107 => (some (bt107.1, bt107.2.1, bt107.2.2))) = some (r1, r2, r3) := k0_
  have Ny104 := Aside0.mk hy_
  clear hy_
  obtain ⟨⟨t107, t108, t109⟩, A4, H⟩ := obnd_ H
  (try dsimp only at H)
  simp only [Option.some.injEq, Prod.mk.injEq] at H
  obtain ⟨rfl, rfl, rfl⟩ := H
  go_enter Try.func47, Try.ntmps47
  go_wp2_with (first | ((with_reducible refine gate_callee (f := 49) rfl ?_); refine goesL_ (some 4) rfl rfl Try.func49 (by kernel_rfl) rfl #[.pointer (some ⟨g, 0, none⟩), .int .i64 12] rfl k20_ ?_; (with_reducible refine (spec_l1Cur_one.calls g s0_0 s0_1 s0_2 12 true t102 t103 w0 _ ?side1 ?side2 A2.out).mono ?_); (case side1 => exact k12_); (case side2 => exact k3_); rintro e w5 ⟨rfl, hi, hb, hk⟩; refine ⟨_, rfl, ?_⟩; replace HK := Aside0.mk (KeepBut.trans k18_ hk (.inl rfl)); replace HB := Aside0.mk (hb); replace HI0 := Aside0.mk (hi); (try clear hb hk hi)) | ((with_reducible refine gate_dst (N := 6) rfl ?_); refine Kd.R_lit (Kd.int .i64) _ 3 ?hg (N := 6) ?hd (xs := ([(-1), 0, 600, 601, 4611686018427387904] : List Int)) (inner := [.int .i64 (-1), .int .i64 0, .int .i64 600, .int .i64 601, .int .i64 4611686018427387904]) (ok := fun _ => True) (okp := fun _ => True) ?hr ?hp (fun _ hk => hk) trivial (Below.refl _ _) (Nat.le_refl _) (by simp) ?_; (case hd => rfl); (case hg => rfl); (case hr => exact k33_); (case hp => exact (Reps.one (show Kd.M (Kd.int .i64) _ _ _ (-1) [.int .i64 (-1)] from rfl) (Reps.one (show Kd.M (Kd.int .i64) _ _ _ 0 [.int .i64 0] from rfl) (Reps.one (show Kd.M (Kd.int .i64) _ _ _ 600 [.int .i64 600] from rfl) (Reps.one (show Kd.M (Kd.int .i64) _ _ _ 601 [.int .i64 601] from rfl) (Reps.one (show Kd.M (Kd.int .i64) _ _ _ 4611686018427387904 [.int .i64 4611686018427387904] from rfl) (Reps.none _ _))))))); intro v105 w6 ho7 hb hg_ hnew_; clear hg_ hnew_; (first | rw [← Ny104.out] at ho7 | (simp only [Int.reduceToNat] at ho7; rw [← Ny104.out] at ho7)); have HO106 := Aside0.mk (Kd.R_lower ho7 (keep_size (w := w) (g := g) (row := none) k18_)); replace HK := Aside0.mk (KeepBut.trans k18_ (KeepBut.of_below hb g none) (.inl rfl)); replace HB := Aside0.mk (below_step k3_ hb); replace HI0 := Aside0.mk (IsS47.below k12_ hb); clear hb ho7; obtain ⟨Ao8, co8, eo8⟩ := Kd.R_slice HO106.out; subst eo8) | ((with_reducible refine gate_callee (f := 50) rfl ?_); refine goesL_ (some 7) rfl rfl Try.func50 (by kernel_rfl) rfl #[.pointer (some ⟨g, 0, none⟩), .slice Ao8 y104.length co8] rfl k20_ ?_; (with_reducible refine (spec_l1Cur_among.calls g s0_0 t102 t103 _ _ y104 t107 t108 t109 w0 _ ?side1 ?side2 ?side3 ?side4 ?side5 A4.out).mono ?_); (case side1 => exact k12_); (case side2 => exact k3_); (case side3 => repeat (first | exact (Kd.R_reads' HO106.out).2.2 | (with_reducible refine Kd.C_alloc ?_ _) | (with_reducible refine Kd.C_drewN ?_ _) | (with_reducible refine Kd.C_drew ?_))); (case side4 => exact (Kd.R_reads' HO106.out).2.1); (case side5 => exact far_slice (IsS47.own_ne HI0.out HO106.out (by decide))); rintro e w9 ⟨rfl, hi, hb, hk⟩; refine ⟨_, rfl, ?_⟩; replace HO106 := Aside0.mk (Kd.R_mono (Kd.R_keep (IsS47.apart (show IsS47 w0 _ g s0_0 t102 t103 from k12_) (by apply_rules only [HO106.out, Kd.R_alloc, Kd.R_drewN, Kd.R_drew]) (by decide)) hk (fun _ h => h.2)) (fun _ h => h.1)); replace HK := Aside0.mk (KeepBut.trans k18_ hk (.inl rfl)); replace HB := Aside0.mk (hb); replace HI0 := Aside0.mk (hi); (try clear hb hk hi)))
  go_ret
  exact ⟨k22_, k12_, k3_, k18_⟩
 ·replace c3 := Bool.eq_false_iff.mpr c3
  subst c3
  rw [if_neg (show ¬ (false = true) by decide)] at H
  obtain ⟨⟨t110, t111, t112⟩, A10, H⟩ := obnd_ H
  (try dsimp only at H)
  simp only [Option.some.injEq, Prod.mk.injEq] at H
  obtain ⟨rfl, rfl, rfl⟩ := H
  go_enter Try.func47, Try.ntmps47
  go_wp2_with (first | ((with_reducible refine gate_callee (f := 49) rfl ?_); refine goesL_ (some 4) rfl rfl Try.func49 (by kernel_rfl) rfl #[.pointer (some ⟨g, 0, none⟩), .int .i64 12] rfl k20_ ?_; (with_reducible refine (spec_l1Cur_one.calls g s0_0 s0_1 s0_2 12 false t102 t103 w0 _ ?side1 ?side2 A2.out).mono ?_); (case side1 => exact k12_); (case side2 => exact k3_); rintro e w11 ⟨rfl, hi, hb, hk⟩; refine ⟨_, rfl, ?_⟩; replace HK := Aside0.mk (KeepBut.trans k18_ hk (.inl rfl)); replace HB := Aside0.mk (hb); replace HI0 := Aside0.mk (hi); (try clear hb hk hi)) | ((with_reducible refine gate_callee (f := 51) rfl ?_); refine goesL_ (some 9) rfl rfl Try.func51 (by kernel_rfl) rfl #[.pointer (some ⟨g, 0, none⟩), .int .i64 120] rfl k20_ ?_; (with_reducible refine (spec_l1Cur_pick.calls g s0_0 t102 t103 120 t110 t111 t112 w0 _ ?side1 ?side2 A10.out).mono ?_); (case side1 => exact k12_); (case side2 => exact k3_); rintro e w12 ⟨rfl, hi, hb, hk⟩; refine ⟨_, rfl, ?_⟩; replace HK := Aside0.mk (KeepBut.trans k18_ hk (.inl rfl)); replace HB := Aside0.mk (hb); replace HI0 := Aside0.mk (hi); (try clear hb hk hi)))
  go_ret
  exact ⟨k22_, k12_, k3_, k18_⟩
end Go.Proofs.Ytidkoannjealfaa.P
namespace Go.Proofs.Ytidkoannjealfaa.P
open Go.RowKit Go.Proofs.YtidkoannjealfaaW.PrintWords Go.Proofs.YtidkoannjealfaaW.PrintLast Go.Proofs.YtidkoannjealfaaW.PrintMore
attribute [local go_sem] max2_int min2_int max_two min_two max_three min_three max_four min_four
set_option linter.unusedVariables false
set_option linter.unusedSimpArgs false
def spec_DrawSumOfSigns.g (s0_0 : List Int) (s0_1 : Int) (s0_2 : Int) : Option (Int × Int × Int) := (spec_l1Cur_upTo.f s0_0 s0_1 s0_2).bind fun bt101 => (some (bt101.1, bt101.2.1, bt101.2.2))
def spec_DrawSumOfSigns.codeOf : Option Code → Code
 | some c => c
 | none => .skip
def spec_DrawSumOfSigns.seqB : Code → Code
 | .seq _ b => b
 | c => c
set_option maxHeartbeats 8000000 in
set_option maxRecDepth 100000 in
theorem spec_DrawSumOfSigns.rest (g : Nat) (s0_0 : List Int) (s0_1 : Int) (s0_2 : Int) (r1 : Int) (r2 : Int) (r3 : Int) (w0 w wc : World) (hI : IsS47 w0 wc g s0_0 s0_1 s0_2) (hK : KeepBut w wc g none) (hL : w0.heap.size ≤ w.heap.size) (hB : Below w0.heap.size w0 wc) (h : spec_DrawSumOfSigns.g s0_0 s0_1 s0_2 = some (r1, r2, r3)) (u0 u1 u2 u4 u5 u6 u7 u8 : Value) (P : Ending → World → Prop) (hP : ∀ e w', (e = .returned (.int .i64 r1) ∧ IsS47 w0 w' g s0_0 r2 r3 ∧ Below w0.heap.size w0 w' ∧ KeepBut w w' g none) → P e w') :
  Code.wp Try.prog (spec_DrawSumOfSigns.seqB (spec_DrawSumOfSigns.seqB (spec_DrawSumOfSigns.codeOf Try.f35.body))) (bodyPost Try.prog Try.f35 P) ⟨#[u0, u1, u2, .pointer (some ⟨g, 0, none⟩), u4, u5, u6, u7, u8], []⟩ wc := by
 have HP := Aside0.mk hP
 clear hP
 have HI0 := Aside0.mk hI
 have HK := Aside0.mk hK
 clear hK
 have HL := Aside0.mk hL
 clear hI
 have HW0 := Aside0.mk hL
 clear hL
 have HB := Aside0.mk hB
 clear hB
 have H : ((spec_l1Cur_upTo.f s0_0 s0_1 s0_2).bind fun bt101 => (some (bt101.1, bt101.2.1, bt101.2.2))) = some (r1, r2, r3) := h
 clear h
 obtain ⟨⟨t101, t102, t103⟩, A2, H⟩ := obnd_ H
 (try dsimp only at H)
 simp only [Option.some.injEq, Prod.mk.injEq] at H
 obtain ⟨rfl, rfl, rfl⟩ := H
 show (let Q'_ := bodyPost Try.prog Try.f35 P; Code.wp Try.prog _ Q'_ _ _)
 intro Q'_
 conv => arg 2; whnf
 go_wp2_with (first | ((with_reducible refine gate_callee (f := 47) rfl ?_); refine goesL_ (some 8) rfl rfl Try.func47 (by kernel_rfl) rfl #[.pointer (some ⟨g, 0, none⟩)] rfl k20_ ?_; (with_reducible refine (spec_l1Cur_upTo.calls g s0_0 s0_1 s0_2 t101 t102 t103 w0 _ ?side1 ?side2 A2.out).mono ?_); (case side1 => exact k12_); (case side2 => exact k3_); rintro e w3 ⟨rfl, hi, hb, hk⟩; refine ⟨_, rfl, ?_⟩; replace HK := Aside0.mk (KeepBut.trans k18_ hk (.inl rfl)); replace HB := Aside0.mk (hb); replace HI0 := Aside0.mk (hi); (try clear hb hk hi)))
 (try go_ret)
 refine HP.out _ _ ?_
 exact ⟨k22_, k12_, k3_, k18_⟩
def spec_DrawSumOfSigns.f (l0 : List Int) : Option (Int) := (spec_DrawSumOfSigns.g l0 0 0).bind fun t => some t.1
set_option maxHeartbeats 8000000 in
set_option maxRecDepth 100000 in
theorem spec_DrawSumOfSigns.calls (A0 : Option Addr) (c0 : Nat) (l0 : List Int) (r1 : Int) (w : World) (hr0 : Kd.C (Kd.int .u8) w A0 l0.length l0) (hc0 : l0.length ≤ c0) (h : spec_DrawSumOfSigns.f l0 = some r1) :
  Calls Try.prog 35 #[.slice A0 l0.length c0] w fun e w' => e = .returned (.int .i64 r1) ∧ Below w.heap.size w w' := by
 obtain ⟨⟨r1_, r2, r3⟩, hg, he⟩ := Option.bind_eq_some_iff.mp h
 simp only [Option.some.injEq] at he
 obtain rfl := he
 go_enter Try.func35, Try.ntmps35
 apply wp_seq_k
 intro K1 hK1
 have HK1 := Aside0.mk hK1
 clear hK1
 go_wp2
 refine HK1.out _ _ ?_
 apply wp_seq_k
 intro K2 hK2
 have HK2 := Aside0.mk hK2
 clear hK2
 go_wp2_with (first | ((with_reducible refine gate_dst (N := 6) rfl ?_); (try (refine gate_guard (by rfl) ?_; dsimp only)); refine box_event ?hg (N := 6) ?hd (cs := #[.slice A0 l0.length c0, .int .i64 0, .int .u64 0]) (t := 47) ?hr ?_; (case hd => rfl); (case hg => rfl); (case hr => exact k33_); intro gP hgp w1 hbox hb; have HGP := Aside0.mk hgp; have HBX := Aside0.mk hbox; have HBB := Aside0.mk hb; clear hgp hbox hb))
 refine HK2.out _ _ ?_
 have hBw : Below w.heap.size w w1 := HBB.out
 have hgP : w.heap.size ≤ gP := by rw [HGP.out]; exact Nat.le_refl _
 refine spec_DrawSumOfSigns.rest gP l0 0 0 r1_ r2 r3 w w w1 ⟨A0, c0, HBX.out, hgP, hr0⟩ (KeepBut.of_below hBw gP none) (Nat.le_refl _) hBw hg _ _ _ _ _ _ _ _ _ ?_
 rintro e w' ⟨rfl, _hI1, hb_2, _hk3⟩
 exact ⟨rfl, hb_2⟩
end Go.Proofs.Ytidkoannjealfaa.P
namespace Go.Proofs.Ytidkoannjealfaa.P
open Go.RowKit Go.Proofs.YtidkoannjealfaaW.PrintWords Go.Proofs.YtidkoannjealfaaW.PrintLast Go.Proofs.YtidkoannjealfaaW.PrintMore
attribute [local go_sem] max2_int min2_int max_two min_two max_three min_three max_four min_four
set_option linter.unusedVariables false
set_option linter.unusedSimpArgs false
def spec_DrawSumsOfTwoUpTo.f (l0 : List Int) : Option (Int) := (spec_DrawSumOfSigns.f l0).bind fun t101 => (some t101)
set_option maxHeartbeats 8000000 in
set_option maxRecDepth 100000 in
theorem spec_DrawSumsOfTwoUpTo.calls (A0 : Option Addr) (c0 : Nat) (l0 : List Int) (r : Int) (w : World) (hr0 : Kd.C (Kd.int .u8) w A0 l0.length l0) (hc0 : l0.length ≤ c0) (h : spec_DrawSumsOfTwoUpTo.f l0 = some r) :
  Calls Try.prog 22 #[.slice A0 l0.length c0] w fun e w' => e = .returned (.int .i64 r) ∧ Below w.heap.size w w' := by
 have HR0 := Aside0.mk hr0
 have HC0 := Aside0.mk hc0
 clear hr0 hc0
 have HB := Aside0.mk (Below.refl w.heap.size w)
 have H : ((spec_DrawSumOfSigns.f l0).bind fun t101 => (some t101)) = some r := h
 clear h
 obtain ⟨t101, A2, H⟩ := obnd_ H
 (try dsimp only at H)
 obtain rfl := Option.some.inj H
 go_enter Try.func22, Try.ntmps22
 go_wp2_with (first | ((with_reducible refine gate_callee (f := 35) rfl ?_); refine goesL_ (some 4) rfl rfl Try.func35 (by kernel_rfl) rfl #[.slice A0 l0.length c0] rfl k20_ ?_; (with_reducible refine (spec_DrawSumOfSigns.calls _ _ l0 t101 _ ?side1 ?side2 A2.out).mono ?_); (case side1 => exact k15_); (case side2 => exact HC0.out); rintro e w3 ⟨rfl, hb⟩; refine ⟨_, rfl, ?_⟩; replace HB := HB.mw hb; (try clear hb)))
 go_ret
 exact ⟨k22_, k23_⟩
end Go.Proofs.Ytidkoannjealfaa.P
namespace Go.Proofs.Ytidkoannjealfaa.P
open Go.RowKit Go.Proofs.YtidkoannjealfaaW.PrintWords Go.Proofs.YtidkoannjealfaaW.PrintLast Go.Proofs.YtidkoannjealfaaW.PrintMore
attribute [local go_sem] max2_int min2_int max_two min_two max_three min_three max_four min_four
set_option linter.unusedVariables false
set_option linter.unusedSimpArgs false
def impl_isMost.f (a0 : Int) : Option (Bool) := if a0 ≥ 0 then (some (decide (a0 ≤ 600))) else (some false)
set_option maxHeartbeats 8000000 in
set_option maxRecDepth 100000 in
theorem impl_isMost.calls (a0 : Int) (r : Bool) (w : World) (h : impl_isMost.f a0 = some r) :
  Calls Try.prog 36 #[.int .i64 a0] w fun e w' => e = .returned (.bool r) ∧ Drawn0 w w' := by
 have H : (if a0 ≥ 0 then (some (decide (a0 ≤ 600))) else (some false)) = some r := h
 clear h
 by_cases c2 : a0 ≥ 0
 ·rw [if_pos c2] at H
  have c2b0 : decide (0 ≤ a0) = true := decide_eq_true c2
  clear c2
  obtain rfl := Option.some.inj H
  go_enter Try.func36, Try.ntmps36
  go_wp2
  go_ret
  exact ⟨k32_, k30_⟩
 ·rw [if_neg c2] at H
  have c2b0 : decide (0 ≤ a0) = false := decide_eq_false c2
  clear c2
  obtain rfl := Option.some.inj H
  go_enter Try.func36, Try.ntmps36
  go_wp2
  go_ret
  exact ⟨k32_, k30_⟩
end Go.Proofs.Ytidkoannjealfaa.P
namespace Go.Proofs.Ytidkoannjealfaa.P
open Go.RowKit Go.Proofs.YtidkoannjealfaaW.PrintWords Go.Proofs.YtidkoannjealfaaW.PrintLast Go.Proofs.YtidkoannjealfaaW.PrintMore
attribute [local go_sem] max2_int min2_int max_two min_two max_three min_three max_four min_four
set_option linter.unusedVariables false
set_option linter.unusedSimpArgs false
theorem drop_rdI (l : List Int) (k : Nat) (h : k < l.length) : l.drop k = rd l k :: l.drop (k + 1) := by
  rw [List.drop_eq_getElem_cons h]
  simp [rd, List.getD, h]
theorem rdI_mem (l : List Int) (k : Nat) (h : k < l.length) : rd l k ∈ l := by
  simp [rd, List.getD, h]
theorem fIx_hit {p : Int → Bool} {l : List Int} {k : Nat} (h : k < l.length) (hp : p (rd l k) = true) : fIx p (l.drop k) k = k := by
  rw [drop_rdI l k h, fIx, if_pos hp]
theorem fIx_next {p : Int → Bool} {l : List Int} {k : Nat} (h : k < l.length) (hp : p (rd l k) = false) : fIx p (l.drop k) k = fIx p (l.drop (k + 1)) ((k + 1 : Nat) : Int) := by
  rw [drop_rdI l k h, fIx, if_neg (by simp [hp])]; rfl
theorem fIx_end {p : Int → Bool} {l : List Int} {k : Nat} (h : l.length ≤ k) : fIx p (l.drop k) k = -1 := by
  rw [List.drop_eq_nil_of_le h]; rfl
def PredI (g : Nat) (lb : Array Value) (p : Int → Bool) (l : List Int) (w : World) : Prop :=
  ∀ (W : World) (x : Int), x ∈ l → Below w.heap.size w W → Calls Try.prog g (#[.int .i64 x] ++ lb) W fun e w' => e = .returned (.bool (p x)) ∧ Below w.heap.size w w'
set_option maxHeartbeats 2000000 in
set_option maxRecDepth 100000 in
theorem ixfI_calls (p : Int → Bool) (g : Nat) (lb : Array Value) (eg : ∀ args w, (callFunc g args).run Try.prog w = .ok (.enter g args) w)
    (A0 : Option Addr) (c0 : Nat) (l0 : List Int) (w : World) (hp : PredI g lb p l0 w) (hr0 : Kd.C (Kd.int .i64) w A0 l0.length l0) :
    Calls Try.prog 48 #[.slice A0 l0.length c0, .func (.func g) #[] lb] w fun e w' => e = .returned (.int .i64 (fIx p l0 0)) ∧ Below w.heap.size w w' := by
  have hm : l0.length ≤ 9223372036854775807 := Kd.C_max hr0
  have HR0 := Aside0.mk hr0
  have HP := Aside0.mk hp
  clear hr0 hp
  have HB := Aside0.mk (Below.refl w.heap.size w)
  have H0 := Aside0.mk (show fIx p l0 0 = fIx p (l0.drop 0) ((0 : Nat) : Int) from rfl)
  go_enter Try.func48, Try.ntmps48
  go_wp2
  go_loopg [5, 8] l0.length (fun gg _ s8 wr => ∃ kk : Nat, kk ≤ l0.length ∧ l0.length - kk ≤ gg ∧ s8 = .int .i64 kk ∧ Aside0 (Below w.heap.size w wr) ∧ Aside0 (fIx p l0 0 = fIx p (l0.drop kk) kk))
  case atStart => exact ⟨0, Nat.zero_le _, by omega, rfl, HB, H0⟩
  case round =>
    clear HB H0
    obtain ⟨kk, hkk, hg, rfl, HB, HI⟩ := hrel
    by_cases hlt : kk < l0.length
    · have hltz : (kk : Int) < (l0.length : Int) := by omega
      obtain ⟨ad, e, hx0⟩ := Kd.at_int HR0.out (kk : Int) (by omega) hltz
      cases e
      replace hx0 := (HB.out.cell (World.block_lt_of_cell? w _ hx0)).trans hx0
      simp only [Int.toNat_natCast] at hx0
      have hcall := HP.out wr (rd l0 (kk : Int)) (rdI_mem l0 kk hlt) HB.out
      cases hq : p (rd l0 (kk : Int)) with
      | true =>
        rw [hq] at hcall
        have HQ := Aside0.mk (fIx_hit hlt hq)
        clear hq
        go_wp2_with (go_at_fn g; refine hcall.mono ?_; rintro e w' ⟨rfl, hb'⟩)
        go_ret
        exact ⟨by rw [HI.out, HQ.out]; rfl, hb'⟩
      | false =>
        rw [hq] at hcall
        have HQ := Aside0.mk (fIx_next hlt hq)
        clear hq
        go_wp2_with (go_at_fn g; refine hcall.mono ?_; rintro e w' ⟨rfl, hb'⟩)
        go_roundg (l0.length - (kk + 1))
        case measure => omega
        case rel => exact ⟨kk + 1, by omega, by omega, by go_num, ⟨hb'⟩, ⟨by rw [HI.out, HQ.out]⟩⟩
    · have hltz : ¬ (kk : Int) < (l0.length : Int) := by omega
      have HQ := Aside0.mk (fIx_end (p := p) (l := l0) (k := kk) (by omega))
      go_wp2
      go_ret
      exact ⟨by rw [HI.out, HQ.out]; rfl, HB.out⟩
end Go.Proofs.Ytidkoannjealfaa.P
namespace Go.Proofs.Ytidkoannjealfaa.P
open Go.RowKit Go.Proofs.YtidkoannjealfaaW.PrintWords Go.Proofs.YtidkoannjealfaaW.PrintLast Go.Proofs.YtidkoannjealfaaW.PrintMore
attribute [local go_sem] max2_int min2_int max_two min_two max_three min_three max_four min_four
set_option linter.unusedVariables false
set_option linter.unusedSimpArgs false
theorem infoE_Int : (Try.prog.info? 3).map (fun i => (i.zero, i.size, i.bytes)) = some (some (.int .i64 0), 1, 8) := by kernel_rfl
set_option maxHeartbeats 8000000 in
set_option maxRecDepth 100000 in
theorem delI_calls (p : Int → Bool) (g : Nat) (lb : Array Value) (eg : ∀ args w, (callFunc g args).run Try.prog w = .ok (.enter g args) w)
    (A : Option Addr) (c base : Nat) (ok : Nat → Prop) (xs : List Int) (w : World) (hbase : base ≤ w.heap.size) (hR : Kd.R (Kd.int .i64) 3 w base ok (.slice A xs.length c) xs)
    (hp : ∀ (W : World) (x : Int), x ∈ xs → w.grownBy W (Value.slice A xs.length c).ownBlock → Calls Try.prog g (#[.int .i64 x] ++ lb) W fun e w' => e = .returned (.bool (p x)) ∧ Below W.heap.size W w') :
    Calls Try.prog 37 #[.slice A xs.length c, .func (.func g) #[] lb] w fun e w' => e = .returned (.slice A (xs.filter fun x => !p x).length c) ∧ Kd.R (Kd.int .i64) 3 w' base ok (.slice A (xs.filter fun x => !p x).length c) (xs.filter fun x => !p x) ∧ w.grownBy w' (Value.slice A xs.length c).ownBlock := by
  have hIX := ixfI_calls p g lb eg A c xs w (fun W x hx hb => (hp W x hx (grown_of_below hb _)).mono fun e w' ⟨he, hb2⟩ => ⟨he, below_step hb hb2⟩) (Kd.R_reads' hR).2.2
  rcases fIx_spec p xs 0 with ⟨e1, e2⟩ | ⟨k0, hk0, e1, e2⟩
  · rw [e1] at hIX
    rw [e2]
    have HX := Aside0.mk hIX
    have HR := Aside0.mk hR
    clear hIX hR hp e1 e2
    go_enter Try.func37, Try.ntmps37
    go_wp2_with (go_at_call 48; refine HX.out.mono ?_; rintro e w1 ⟨rfl, hb⟩; have HB := Aside0.mk hb; clear hb)
    go_ret
    exact ⟨rfl, Kd.R_below HR.out HB.out, grown_of_below HB.out _⟩
  · rw [e1] at hIX
    obtain ⟨G, c', eG, hGb, hGl, -⟩ := Kd.R_form hR (by omega)
    obtain ⟨rfl, -, rfl⟩ := Value.slice.inj eG
    clear eG
    have HX := Aside0.mk hIX
    have HR0 := Aside0.mk hR
    have HP := Aside0.mk hp
    have HGB := Aside0.mk hGb
    have HK0 := Aside0.mk hk0
    have HE2 := Aside0.mk e2
    have hm : xs.length ≤ 9223372036854775807 := Kd.C_max (Kd.R_reads' hR).2.2
    have hne : (((0 : Int) + (k0 : Int)) == -1) = false := beq_eq_false_iff_ne.2 (by omega)
    clear hIX hR hp hGb e1 e2 hGl
    go_enter Try.func37, Try.ntmps37
    go_wp2_with (go_at_call 48; refine HX.out.mono ?_; rintro e w1 ⟨rfl, hb⟩; have HB := Aside0.mk hb; clear hb)
    go_loopg [5, 6] xs.length (fun gg v5 v6 wx => ∃ (i j : Nat) (ys : List Int), v5 = .int .i64 i ∧ v6 = .int .i64 j ∧ j ≤ xs.length ∧ xs.length - j ≤ gg ∧ Aside0 (KI (fun x => !p x) xs ys i j) ∧ Aside0 (Kd.R (Kd.int .i64) 3 wx base ok (.slice (some ⟨G, 0, none⟩) xs.length c) ys) ∧ Aside0 (w.grownBy wx (some G)))
    case atStart => exact ⟨k0, k0 + 1, xs, by go_num, by first | rfl | go_num, HK0.out, by omega, ⟨KI.start HK0.out HE2.out⟩, ⟨Kd.R_below HR0.out HB.out⟩, ⟨grown_of_below HB.out _⟩⟩
    case round =>
      obtain ⟨i, j, ys, rfl, rfl, hj, hgg, HK, HR, HG⟩ := hrel
      by_cases hlt : j < xs.length
      · have hltz : (j : Int) < (xs.length : Int) := by omega
        obtain ⟨x, hxe⟩ : ∃ x, x = rd ys (j : Int) := ⟨_, rfl⟩
        have hjl : j < ys.length := by rw [HK.out.len]; exact hlt
        have hxj : xs[j]? = some x := by rw [← HK.out.read, hxe, List.getElem?_eq_getElem hjl]; simp [rd, List.getD, hjl]
        have HXJ := Aside0.mk hxj
        have HXM := Aside0.mk (List.mem_of_getElem? hxj)
        obtain ⟨ce, hcl, hM, hcc, -⟩ := Kd.R_elem HR.out (0 : Int) (j : Int) (by omega) hltz
        obtain rfl := (show ce = [.int .i64 (ys.getD (j : Int).toNat (0 : Int))] from hM)
        have hx0 : wr.cell? ⟨G, (j : Int).toNat * 1, none⟩ = some (.int .i64 x) := by rw [hxe]; exact hcc 0 _ rfl
        simp only [Int.toNat_natCast, Nat.mul_one] at hx0
        clear hcl hM hcc hxe hxj hjl
        have hil : (i : Int) < (xs.length : Int) := by have := HK.out.lt; omega
        have hij : i < xs.length := by omega
        cases hq : p x with
        | false =>
          have HPX := Aside0.mk (show ∀ W, w.grownBy W (some G) → Calls Try.prog g (#[.int .i64 x] ++ lb) W fun e w' => e = .returned (.bool false) ∧ Below W.heap.size W w' from fun W hg' => by have h_ := HP.out W x HXM.out hg'; rw [hq] at h_; exact h_)
          have HQ := Aside0.mk hq
          clear hq
          go_wp2_with (go_at_fn g; refine (HPX.out _ HG.out).mono ?_; rintro e w30 ⟨rfl, hb⟩; have HB3 := Aside0.mk hb; have HR3 := Aside0.mk (Kd.R_below HR.out hb); obtain ⟨ci, hcl, hMi, hcc, hfr⟩ := Kd.R_elem HR3.out (0 : Int) (i : Int) (by omega) hil; obtain rfl := (show ci = [.int .i64 (ys.getD (i : Int).toNat (0 : Int))] from hMi); have hy0 : w30.cell? ⟨G, (i : Int).toNat * 1, none⟩ = some (.int .i64 (ys.getD (i : Int).toNat (0 : Int))) := hcc 0 _ rfl; have hz0 : w30.frozen? ⟨G, (i : Int).toNat * 1, none⟩ = false := hfr 0; have HSG := Aside0.mk (Kd.R_seg HR3.out (i : Int) (by omega) hil (seg := [.int .i64 x]) (j := 0) hcl hcc (show 1 ≤ 1 from by decide) (x' := x) (okp := fun _ => False) (show (Kd.int .i64).M _ _ _ x [.int .i64 x] from rfl) (fun _ hk => hk.elim)); simp only [Int.toNat_natCast, Nat.mul_one] at hy0 hz0; clear hcl hMi hcc hfr hb)
          go_roundg (xs.length - (j + 1))
          case measure => omega
          case rel => exact ⟨i + 1, j + 1, ys.set i x, by go_num, by go_num, by omega, Nat.le_refl _, ⟨KI.keep HK.out hlt HXJ.out (by rw [HQ.out]; rfl)⟩, ⟨by have h_ := HSG.out.1; simpa [World.setCells, show (Kd.int .i64).sz = 1 from rfl] using h_⟩, ⟨by have h_ := grown_trans (grown_trans HG.out (grown_of_below HB3.out (some G)) (.inl rfl)) HSG.out.2 (.inl rfl); simpa [World.setCells, show (Kd.int .i64).sz = 1 from rfl] using h_⟩⟩
        | true =>
          have HPX := Aside0.mk (show ∀ W, w.grownBy W (some G) → Calls Try.prog g (#[.int .i64 x] ++ lb) W fun e w' => e = .returned (.bool true) ∧ Below W.heap.size W w' from fun W hg' => by have h_ := HP.out W x HXM.out hg'; rw [hq] at h_; exact h_)
          have HQ := Aside0.mk hq
          clear hq
          go_wp2_with (go_at_fn g; refine (HPX.out _ HG.out).mono ?_; rintro e w30 ⟨rfl, hb⟩; have HB3 := Aside0.mk hb; have HR3 := Aside0.mk (Kd.R_below HR.out hb); clear hb)
          go_roundg (xs.length - (j + 1))
          case measure => omega
          case rel => exact ⟨i, j + 1, ys, rfl, by go_num, by omega, Nat.le_refl _, ⟨KI.skip HK.out hlt HXJ.out (by rw [HQ.out]; rfl)⟩, HR3, ⟨grown_trans HG.out (grown_of_below HB3.out (some G)) (.inl rfl)⟩⟩
      · obtain rfl : j = xs.length := by omega
        have hltz : ¬ (xs.length : Int) < (xs.length : Int) := by omega
        have hlen : ys.length = xs.length := HK.out.len
        have hil : (i : Int) < (xs.length : Int) := by have := HK.out.lt; omega
        have hnc : xs.length ≤ c := (Kd.R_reads' HR0.out).2.1
        obtain ⟨i0_, hi0_, _, hsz_, _⟩ := info_parts infoE_Int
        have hcut : ∀ W : World, (Instr.slice 32 (.slice (some ⟨G, 0, none⟩) xs.length c) (some (.int .i64 (i : Int))) none none).run Try.prog W = .ok (.slice (some ⟨G, i, none⟩) (xs.length - i) (c - i)) W := by
          intro W
          have h := cut_from (P := Try.prog) 32 3 .i64 Try.underlying32 hi0_ 1 hsz_ (some ⟨G, 0, none⟩) xs.length c (i : Int) (by omega) (by omega) W
          rw [h, if_neg (by omega)]
          simp only [Int.toNat_natCast, Option.map_some, add_off, Nat.zero_add, Nat.mul_one]
        have hcut2 : ∀ W : World, (Instr.slice 32 (.slice (some ⟨G, 0, none⟩) xs.length c) none (some (.int .i64 (i : Int))) none).run Try.prog W = .ok (.slice (some ⟨G, 0, none⟩) i c) W := by
          intro W
          have h := cut_to (P := Try.prog) 32 3 .i64 Try.underlying32 hi0_ (some ⟨G, 0, none⟩) xs.length c (i : Int) (by omega) (by omega) hnc W
          rw [h, Int.toNat_natCast]
        have hclr : ∀ ty, (Builtin.clear_ #[32] ty #[.slice (some ⟨G, i, none⟩) (xs.length - i) (c - i)]).run Try.prog wr = .ok (.tuple #[]) (wr.setCells G i (Builtin.zeroCells (Value.int .i64 0).cells (xs.length - i)).toList) := fun ty =>
          clear_cells (n := xs.length - i) wr 32 3 ty (.int .i64 0) Try.underlying32 (zero_run infoE_Int) (by
            intro u hu
            simp [Builtin.zeroCells, Value.cells] at hu
            obtain ⟨k_, hk_, rfl⟩ := hu
            simp [Nat.mod_one]; rfl) G i (c - i) (by omega) (by decide)
            (fun j_ hj_ => (R_cells HR.out (i + j_) (by rw [hlen]; show i + j_ < xs.length * 1; have hj2_ : j_ < (xs.length - i) * 1 := hj_; omega)).1)
            (fun j_ hj_ => (R_cells HR.out (i + j_) (by rw [hlen]; show i + j_ < xs.length * 1; have hj2_ : j_ < (xs.length - i) * 1 := hj_; omega)).2)
        obtain ⟨zs_, hzs_⟩ : ∃ z_, z_ = (Builtin.zeroCells (Value.int .i64 0).cells (xs.length - i)).toList := ⟨_, rfl⟩
        rw [← hzs_] at hclr
        clear hzs_ hi0_ hsz_ hlen
        go_wp2
        go_ret
        have hd := KI.done HK.out
        have hit : i ≤ ys.length := by have := HK.out.len; omega
        have hR2 := R_clear (Kd.R_take HR.out hit) i zs_ (by rw [List.length_take, Nat.min_eq_left hit]; show i * 1 ≤ i; omega)
        rw [hd.1] at hR2
        rw [← hd.2]
        exact ⟨rfl, hR2, grown_trans HG.out (grown_setCells wr G i zs_) (.inl rfl)⟩
end Go.Proofs.Ytidkoannjealfaa.P
namespace Go.Proofs.Ytidkoannjealfaa.P
open Go.RowKit Go.Proofs.YtidkoannjealfaaW.PrintWords Go.Proofs.YtidkoannjealfaaW.PrintLast Go.Proofs.YtidkoannjealfaaW.PrintMore
attribute [local go_sem] max2_int min2_int max_two min_two max_three min_three max_four min_four
set_option linter.unusedVariables false
set_option linter.unusedSimpArgs false
def impl_upTo.l0 : Nat → Int → Int → List Int → Int → Option (List Int)
 | 0, _, _, _, _ => none
 | k + 1, x1, x2, x7, x8 => if x8 ≤ x1 then (if x7.length < 17592186044416 then (impl_upTo.l0 k x1 x2 (x7 ++ [x8]) (wrap64 (x8 + x2))) else (none)) else (some x7)
def impl_upTo.f (k : Nat) (a0 : Int) (a1 : Int) (a2 : Int) : Option (List Int) := impl_upTo.l0 k a1 a2 (([] : List Int)) a0
set_option maxHeartbeats 8000000 in
set_option maxRecDepth 100000 in
theorem impl_upTo.calls (k : Nat) (a0 : Int) (a1 : Int) (a2 : Int) (r : List Int) (w : World) (h : impl_upTo.f k a0 a1 a2 = some r) :
  Calls Try.prog 38 #[.int .i64 a0, .int .i64 a1, .int .i64 a2] w fun e w' => ∃ v0_ : Value, e = .returned (v0_) ∧ Kd.R (Kd.int .i64) 3 w' w.heap.size (fun _ => True) v0_ r ∧ Below w.heap.size w w' := by
 have HB := Aside0.mk (Below.refl w.heap.size w)
 have H : (impl_upTo.l0 k a1 a2 (([] : List Int)) a0) = some r := h
 clear h
 obtain ⟨y101, hy_⟩ : ∃ y_ : List Int, y_ = (([] : List Int)) := ⟨_, rfl⟩
 replace H : (impl_upTo.l0 k a1 a2 y101 a0) = some r := k0_
 have Ny101 := Aside0.mk hy_
 clear hy_
 have H' := Aside0.mk H
 clear H
 go_enter Try.func38, Try.ntmps38
 go_wp2_with (first | ((with_reducible refine gate_dst (N := 9) rfl ?_); refine Kd.R_lit (Kd.int .i64) _ 3 ?hg (N := 9) ?hd (xs := ([] : List Int)) (inner := []) (ok := fun _ => True) (okp := fun _ => True) ?hr ?hp (fun _ hk => hk) trivial (Below.refl _ _) (Nat.le_refl _) (by simp) ?_; (case hd => rfl); (case hg => rfl); (case hr => exact k33_); (case hp => exact (Reps.none _ _)); intro v102 w4 ho5 hb hg_ hnew_; clear hg_ hnew_; (first | rw [← Ny101.out] at ho5 | (simp only [Int.reduceToNat] at ho5; rw [← Ny101.out] at ho5)); have HO103 := Aside0.mk (Kd.R_lower ho5 (below_size k23_)); replace HB := HB.mw hb; clear hb ho5))
 go_loopg [7, 8] k (fun kq v7 v8 w' => ∃ (x7_1 : List Int) (x8_1 : Int), v8 = .int .i64 x8_1 ∧ Aside0 (impl_upTo.l0 kq a1 a2 x7_1 x8_1 = some r) ∧ Aside0 (kq ≤ k) ∧ Aside0 (Kd.R (Kd.int .i64) 3 w' w.heap.size (fun _ => True) v7 x7_1) ∧ Aside0 (Below w.heap.size w w'))
 case atStart => exact ⟨(y101), (a0), k32_, H', ⟨Nat.le_refl _⟩, ⟨by apply_rules only [HO103.out, Kd.R_alloc, Kd.R_drewN, Kd.R_drew]⟩, ⟨k23_⟩⟩
 case round =>
  clear H'
  obtain ⟨x7_1, x8_1, rfl, HA, HK1, HO_7, HB⟩ := hrel
  cases gk with
  | zero => exact absurd HA.out (by simp [impl_upTo.l0])
  | succ k1 =>
   have H := HA.out
   clear HA
   simp only [impl_upTo.l0] at H
   by_cases c6 : x8_1 ≤ a1
   ·rw [if_pos c6] at H
    have c6b0 : decide (x8_1 ≤ a1) = true := decide_eq_true c6
    clear c6
    by_cases c7 : x7_1.length < 17592186044416
    ·rw [if_pos c7] at H
     have LMc7 := Aside0.mk c7
     clear c7
     obtain ⟨y104, hy_⟩ : ∃ y_ : List Int, y_ = (x7_1 ++ [x8_1]) := ⟨_, rfl⟩
     replace H : (impl_upTo.l0 k1 a1 a2 y104 (wrap64 (x8_1 + a2))) = some r := k0_
     have Ny104 := Aside0.mk hy_
     clear hy_
     have H' := Aside0.mk H
     clear H
     go_wp2_with (first | ((with_reducible refine gate_builtin (b := .append) (xs := #[.tmp 17, .tmp 19]) rfl ?_); at_builtin; refine Kd.R_append (Kd.int .i64) (w0 := w) w.heap.size rfl (.tmp 17) (.tmp 19) 32 3 (.int .i64 0) 8 rfl Try.underlying32 info3 rfl (by decide) (by omega) u7 x7_1 x8_1 [.int .i64 x8_1] (fun _ => True) (fun _ => False) rfl rfl ?aP (fun _ hk => hk.elim) ?aF ?aO ?aB ?aS ?aL ?_; (case aP => exact rfl); (case aB => exact k23_); (case aF => exact (fun _ _ => trivial)); (case aO => exact (by apply_rules only [HO_7.out, Kd.R_alloc, Kd.R_drewN, Kd.R_drew])); (case aS => exact (below_size k23_)); (case aL => have := LMc7.out; omega); intro v105 w8 ho hb hg hat; rw [← Ny104.out] at ho; replace HB := Aside0.mk (hb); have HO106 := Aside0.mk (ho); clear HO_7; clear ho hb hg hat))
     go_roundg k1
     case measure => have := HK1.out; omega
     case rel => exact ⟨(y104), (wrap64 (x8_1 + a2)), k32_, H', ⟨k34_⟩, ⟨by apply_rules only [HO106.out, Kd.R_alloc, Kd.R_drewN, Kd.R_drew]⟩, ⟨k23_⟩⟩
    ·rw [if_neg c7] at H
     exact absurd H (by simp)
   ·rw [if_neg c6] at H
    have c6b0 : decide (x8_1 ≤ a1) = false := decide_eq_false c6
    clear c6
    obtain rfl := Option.some.inj H
    go_wp2
    go_ret
    exact ⟨_, k22_, by (with_reducible repeat (first | apply Kd.R_alloc | apply Kd.R_drewN | apply Kd.R_drew)); exact HO_7.out, k23_⟩
end Go.Proofs.Ytidkoannjealfaa.P
namespace Go.Proofs.Ytidkoannjealfaa.P
open Go.RowKit Go.Proofs.YtidkoannjealfaaW.PrintWords Go.Proofs.YtidkoannjealfaaW.PrintLast Go.Proofs.YtidkoannjealfaaW.PrintMore
attribute [local go_sem] max2_int min2_int max_two min_two max_three min_three max_four min_four
set_option linter.unusedVariables false
set_option linter.unusedSimpArgs false
def noTwo (k : Nat) (n : Int) : Bool := impl_isSumOfTwo.f k n == some false
def impl_SumsOfTwoUpTo.f (k : Nat) (a0 : Int) : Option (List Int × Bool) := (impl_isMost.f a0).bind fun b => if b = true then (impl_upTo.f k 1 a0 1).bind fun L => if (L.all fun n => (impl_isSumOfTwo.f k n).isSome) = true then some (L.filter (fun n => !(noTwo k n)), true) else none else some ([], false)
set_option maxHeartbeats 8000000 in
set_option maxRecDepth 100000 in
theorem sums1_calls (k : Nat) (n : Int) (t : Bool) (W : World) (h : impl_isSumOfTwo.f k n = some t) :
    Calls Try.prog 39 #[.int .i64 n] W fun e w' => e = .returned (.bool (noTwo k n)) ∧ Below W.heap.size W w' := by
  have A1 := Aside0.mk h
  have hm : noTwo k n = !t := by unfold noTwo; rw [h]; cases t <;> rfl
  rw [hm]
  clear h hm
  go_enter Try.func39, Try.ntmps39
  go_wp2_with (go_at_call 32; (with_reducible refine (impl_isSumOfTwo.calls k n t _ A1.out).mono ?_); rintro e w4 ⟨rfl, hb4⟩; have HB4 := Aside0.mk hb4; clear hb4)
  go_ret
  exact ⟨rfl, HB4.out⟩
set_option maxHeartbeats 8000000 in
set_option maxRecDepth 100000 in
theorem impl_SumsOfTwoUpTo.calls (k : Nat) (a0 : Int) (r1 : List Int) (r2 : Bool) (w : World) (h : impl_SumsOfTwoUpTo.f k a0 = some (r1, r2)) :
    Calls Try.prog 23 #[.int .i64 a0] w fun e w' => ∃ v0_ : Value, e = .returned (.tuple #[v0_, .bool r2]) ∧ Kd.R (Kd.int .i64) 3 w' w.heap.size (fun _ => True) v0_ r1 ∧ Below w.heap.size w w' := by
  unfold impl_SumsOfTwoUpTo.f at h
  replace h := Option.bind_eq_some_iff.mp h
  obtain ⟨b, A0_, h⟩ := h
  have A0 := Aside0.mk A0_
  clear A0_
  cases b with
  | false =>
    rw [if_neg (by decide)] at h
    simp only [Option.some.injEq, Prod.mk.injEq] at h
    obtain ⟨rfl, rfl⟩ := h
    go_enter Try.func23, Try.ntmps23
    go_wp2_with (go_at_call 36; (with_reducible refine (impl_isMost.calls a0 false _ A0.out).mono ?_); rintro e w4 ⟨rfl, ⟨nd, rfl⟩⟩)
    go_ret2
    exact ⟨_, rfl, Kd.R_nil _ _ _ _ _, by first | exact Below.refl _ _ | exact pw_below_drewN (Below.refl _ _) _ | (apply_rules only [Below.refl, pw_below_drewN, below_drew1])⟩
  | true =>
    rw [if_pos rfl] at h
    replace h := Option.bind_eq_some_iff.mp h
    obtain ⟨L, A1_, h⟩ := h
    have A1 := Aside0.mk A1_
    clear A1_
    by_cases hc : (L.all fun n => (impl_isSumOfTwo.f k n).isSome) = true
    case neg => rw [if_neg hc] at h; exact absurd h (by simp)
    rw [if_pos hc] at h
    simp only [Option.some.injEq, Prod.mk.injEq] at h
    have HL := Aside0.mk (show ∀ n ∈ L, (impl_isSumOfTwo.f k n).isSome = true from fun n hn => List.all_eq_true.1 hc n hn)
    have HF := Aside0.mk h.1
    obtain rfl := h.2
    clear h hc
    go_enter Try.func23, Try.ntmps23
    go_wp2_with (first
      | (go_at_call 36; (with_reducible refine (impl_isMost.calls a0 true _ A0.out).mono ?_); rintro e w4 ⟨rfl, ⟨nd, rfl⟩⟩)
      | (go_at_call 38; (with_reducible refine (impl_upTo.calls k 1 a0 1 L _ A1.out).mono ?_); rintro e w8 ⟨v8, rfl, hR8, hb8⟩; have HR8 := Aside0.mk hR8; have HB8 := Aside0.mk (show Below w.heap.size w w8 from below_step (by apply_rules only [Below.refl, pw_below_drewN, below_drew1]) hb8); obtain ⟨A8, c8, e8⟩ := Kd.R_slice hR8; subst e8; clear hR8 hb8)
      | (go_at_call 37; refine (delI_calls (noTwo k) 39 #[] (fun args w => by kernel_rfl) A8 c8 _ (fun _ => True) L _ HB8.out.size HR8.out ?hp).mono ?_; (case hp => intro W x hx _; obtain ⟨t, ht⟩ := Option.isSome_iff_exists.1 (HL.out x hx); exact sums1_calls k x t W ht); rintro e w9 ⟨rfl, hR9, hg9⟩; rw [HF.out] at hR9 ⊢; have HR9 := Aside0.mk hR9; have HB9 := Aside0.mk (HB8.out.grown hg9 HB8.out.size (Kd.R_base HR8.out)); clear hR9 hg9))
    go_ret2
    exact ⟨_, rfl, HR9.out, HB9.out⟩
end Go.Proofs.Ytidkoannjealfaa.P
namespace Go.Proofs.Ytidkoannjealfaa.P
open Go.RowKit Go.Proofs.YtidkoannjealfaaW.PrintWords Go.Proofs.YtidkoannjealfaaW.PrintLast Go.Proofs.YtidkoannjealfaaW.PrintMore
attribute [local go_sem] max2_int min2_int max_two min_two max_three min_three max_four min_four
set_option linter.unusedVariables false
set_option linter.unusedSimpArgs false
def spec_sqMost.f (a0 : Int) : Option (Bool) := (spec_l1In.f a0 0 600).bind fun t101 => (some t101)
set_option maxHeartbeats 8000000 in
set_option maxRecDepth 100000 in
theorem spec_sqMost.calls (a0 : Int) (r : Bool) (w : World) (h : spec_sqMost.f a0 = some r) :
  Calls Try.prog 40 #[.int .i64 a0] w fun e w' => e = .returned (.bool r) ∧ Drawn0 w w' := by
 have H : ((spec_l1In.f a0 0 600).bind fun t101 => (some t101)) = some r := h
 clear h
 obtain ⟨t101, A2, H⟩ := obnd_ H
 (try dsimp only at H)
 obtain rfl := Option.some.inj H
 go_enter Try.func40, Try.ntmps40
 go_wp2_with (first | ((with_reducible refine gate_callee (f := 34) rfl ?_); refine goesL_ (some 4) rfl rfl Try.func34 (by kernel_rfl) rfl #[.int .i64 a0, .int .i64 0, .int .i64 600] rfl k20_ ?_; (with_reducible refine (spec_l1In.calls a0 0 600 t101 _ A2.out).mono ?_); rintro e w' ⟨rfl, ⟨nd, rfl⟩⟩; refine ⟨_, rfl, ?_⟩))
 go_ret
 exact ⟨k32_, k30_⟩
end Go.Proofs.Ytidkoannjealfaa.P
namespace Go.Proofs.Ytidkoannjealfaa.P
open Go.RowKit Go.Proofs.YtidkoannjealfaaW.PrintWords Go.Proofs.YtidkoannjealfaaW.PrintLast Go.Proofs.YtidkoannjealfaaW.PrintMore
attribute [local go_sem] max2_int min2_int max_two min_two max_three min_three max_four min_four
set_option linter.unusedVariables false
set_option linter.unusedSimpArgs false
def spec_SumsOfTwoUpTo.l0 : Nat → Int → List Int → Int → Option (List Int × Bool)
 | 0, _, _, _ => none
 | k + 1, x0, x4, x5 => if x5 ≤ x0 then ((spec_sqTwo.f k x5).bind fun t102 => (if t102 = true then (if x4.length < 17592186044416 then (spec_SumsOfTwoUpTo.l0 k x0 (x4 ++ [x5]) (wrap64 (x5 + 1))) else (none)) else (spec_SumsOfTwoUpTo.l0 k x0 x4 (wrap64 (x5 + 1))))) else (some (x4, true))
def spec_SumsOfTwoUpTo.f (k : Nat) (a0 : Int) : Option (List Int × Bool) := (spec_sqMost.f a0).bind fun t101 => (if t101 = true then (spec_SumsOfTwoUpTo.l0 k a0 ([] : List Int) 1) else (some (([] : List Int), false)))
set_option maxHeartbeats 8000000 in
set_option maxRecDepth 100000 in
theorem spec_SumsOfTwoUpTo.calls (k : Nat) (a0 : Int) (r1 : List Int) (r2 : Bool) (w : World) (h : spec_SumsOfTwoUpTo.f k a0 = some (r1, r2)) :
  Calls Try.prog 24 #[.int .i64 a0] w fun e w' => ∃ v0_ : Value, e = .returned (.tuple #[v0_, .bool r2]) ∧ Kd.R (Kd.int .i64) 3 w' w.heap.size (fun _ => True) v0_ r1 ∧ Below w.heap.size w w' := by
 have HB := Aside0.mk (Below.refl w.heap.size w)
 have H : ((spec_sqMost.f a0).bind fun t101 => (if t101 = true then (spec_SumsOfTwoUpTo.l0 k a0 ([] : List Int) 1) else (some (([] : List Int), false)))) = some (r1, r2) := h
 clear h
 obtain ⟨t101, A2, H⟩ := obnd_ H
 (try dsimp only at H)
 by_cases c3 : t101 = true
 ·subst c3
  rw [if_pos rfl] at H
  have H' := Aside0.mk H
  clear H
  go_enter Try.func24, Try.ntmps24
  go_wp2_with (first | ((with_reducible refine gate_callee (f := 40) rfl ?_); refine goesL_ (some 7) rfl rfl Try.func40 (by kernel_rfl) rfl #[.int .i64 a0] rfl k20_ ?_; (with_reducible refine (spec_sqMost.calls a0 true _ A2.out).mono ?_); rintro e w' ⟨rfl, ⟨nd, rfl⟩⟩; refine ⟨_, rfl, ?_⟩))
  go_loopg [4, 5] k (fun kq v4 v5 w' => ∃ (x4_1 : List Int) (x5_1 : Int), v5 = .int .i64 x5_1 ∧ Aside0 (spec_SumsOfTwoUpTo.l0 kq a0 x4_1 x5_1 = some (r1, r2)) ∧ Aside0 (kq ≤ k) ∧ Aside0 (Kd.R (Kd.int .i64) 3 w' w.heap.size (fun _ => True) v4 x4_1) ∧ Aside0 (Below w.heap.size w w'))
  case atStart => exact ⟨(([] : List Int)), (1), k32_, H', ⟨Nat.le_refl _⟩, ⟨k19_⟩, ⟨k23_⟩⟩
  case round =>
   clear H'
   (try clear c3)
   obtain ⟨x4_1, x5_1, rfl, HA, HK1, HO_4, HB⟩ := hrel
   cases gk with
   | zero => exact absurd HA.out (by simp [spec_SumsOfTwoUpTo.l0])
   | succ k1 =>
    have H := HA.out
    clear HA
    simp only [spec_SumsOfTwoUpTo.l0] at H
    by_cases c4 : x5_1 ≤ a0
    ·rw [if_pos c4] at H
     have c4b0 : decide (x5_1 ≤ a0) = true := decide_eq_true c4
     clear c4
     obtain ⟨t102, A5, H⟩ := obnd_ H
     (try dsimp only at H)
     by_cases c6 : t102 = true
     ·subst c6
      rw [if_pos rfl] at H
      by_cases c7 : x4_1.length < 17592186044416
      ·rw [if_pos c7] at H
       have LMc7 := Aside0.mk c7
       clear c7
       obtain ⟨y103, hy_⟩ : ∃ y_ : List Int, y_ = (x4_1 ++ [x5_1]) := ⟨_, rfl⟩
       replace H : (spec_SumsOfTwoUpTo.l0 k1 a0 y103 (wrap64 (x5_1 + 1))) = some (r1, r2) := k0_
       have Ny103 := Aside0.mk hy_
       clear hy_
       have H' := Aside0.mk H
       clear H
       go_wp2_with (first | ((with_reducible refine gate_callee (f := 33) rfl ?_); refine goesL_ (some 15) rfl rfl Try.func33 (by kernel_rfl) rfl #[.int .i64 x5_1] rfl k20_ ?_; (with_reducible refine (spec_sqTwo.calls k1 x5_1 true _ A5.out).mono ?_); rintro e w' ⟨rfl, ⟨nd, rfl⟩⟩; refine ⟨_, rfl, ?_⟩) | ((with_reducible refine gate_builtin (b := .append) (xs := #[.tmp 16, .tmp 18]) rfl ?_); at_builtin; refine Kd.R_append (Kd.int .i64) (w0 := w) w.heap.size rfl (.tmp 16) (.tmp 18) 32 3 (.int .i64 0) 8 rfl Try.underlying32 info3 rfl (by decide) (by omega) u4 x4_1 x5_1 [.int .i64 x5_1] (fun _ => True) (fun _ => False) rfl rfl ?aP (fun _ hk => hk.elim) ?aF ?aO ?aB ?aS ?aL ?_; (case aP => exact rfl); (case aB => exact k23_); (case aF => exact (fun _ _ => trivial)); (case aO => exact (by apply_rules only [HO_4.out, Kd.R_alloc, Kd.R_drewN, Kd.R_drew])); (case aS => exact (below_size k23_)); (case aL => have := LMc7.out; omega); intro v104 w8 ho hb hg hat; rw [← Ny103.out] at ho; replace HB := Aside0.mk (hb); have HO105 := Aside0.mk (ho); clear HO_4; clear ho hb hg hat))
       go_roundg k1
       case measure => have := HK1.out; omega
       case rel => exact ⟨(y103), (wrap64 (x5_1 + 1)), k32_, H', ⟨k34_⟩, ⟨by apply_rules only [HO105.out, Kd.R_alloc, Kd.R_drewN, Kd.R_drew]⟩, ⟨k23_⟩⟩
      ·rw [if_neg c7] at H
       exact absurd H (by simp)
     ·replace c6 := Bool.eq_false_iff.mpr c6
      subst c6
      rw [if_neg (show ¬ (false = true) by decide)] at H
      have H' := Aside0.mk H
      clear H
      go_wp2_with (first | ((with_reducible refine gate_callee (f := 33) rfl ?_); refine goesL_ (some 15) rfl rfl Try.func33 (by kernel_rfl) rfl #[.int .i64 x5_1] rfl k20_ ?_; (with_reducible refine (spec_sqTwo.calls k1 x5_1 false _ A5.out).mono ?_); rintro e w' ⟨rfl, ⟨nd, rfl⟩⟩; refine ⟨_, rfl, ?_⟩))
      go_roundg k1
      case measure => have := HK1.out; omega
      case rel => exact ⟨(x4_1), (wrap64 (x5_1 + 1)), k32_, H', ⟨k34_⟩, ⟨by apply_rules only [HO_4.out, Kd.R_alloc, Kd.R_drewN, Kd.R_drew]⟩, ⟨k23_⟩⟩
    ·rw [if_neg c4] at H
     have c4b0 : decide (x5_1 ≤ a0) = false := decide_eq_false c4
     clear c4
     simp only [Option.some.injEq, Prod.mk.injEq] at H
     obtain ⟨rfl, rfl⟩ := H
     go_wp2
     go_ret2
     exact ⟨_, k22_, by (with_reducible repeat (first | apply Kd.R_alloc | apply Kd.R_drewN | apply Kd.R_drew)); exact HO_4.out, k23_⟩
 ·replace c3 := Bool.eq_false_iff.mpr c3
  subst c3
  rw [if_neg (show ¬ (false = true) by decide)] at H
  simp only [Option.some.injEq, Prod.mk.injEq] at H
  obtain ⟨rfl, rfl⟩ := H
  go_enter Try.func24, Try.ntmps24
  go_wp2_with (first | ((with_reducible refine gate_callee (f := 40) rfl ?_); refine goesL_ (some 7) rfl rfl Try.func40 (by kernel_rfl) rfl #[.int .i64 a0] rfl k20_ ?_; (with_reducible refine (spec_sqMost.calls a0 false _ A2.out).mono ?_); rintro e w' ⟨rfl, ⟨nd, rfl⟩⟩; refine ⟨_, rfl, ?_⟩))
  go_ret2
  exact ⟨_, k22_, k19_, k23_⟩
end Go.Proofs.Ytidkoannjealfaa.P
namespace Go.Proofs.Ytidkoannjealfaa.P
open Go.RowKit Go.Proofs.YtidkoannjealfaaW.PrintWords Go.Proofs.YtidkoannjealfaaW.PrintLast Go.Proofs.YtidkoannjealfaaW.PrintMore
attribute [local go_sem] max2_int min2_int max_two min_two max_three min_three max_four min_four
set_option linter.unusedVariables false
set_option linter.unusedSimpArgs false
def laws_tHas.l0 : Nat → Int → List Int → Int → Int → Option (Bool)
 | 0, _, _, _, _ => none
 | k + 1, x1, x7, x8, x9 => if x9 < x8 then (if 0 ≤ x9 then (if x9 < (x7.length : Int) then (if (rd x7 x9) = x1 then (some true) else (laws_tHas.l0 k x1 x7 x8 (wrap64 (x9 + 1)))) else (none)) else (none)) else (some false)
def laws_tHas.f (k : Nat) (l0 : List Int) (a1 : Int) : Option (Bool) := laws_tHas.l0 k a1 l0 (l0.length : Int) 0
set_option maxHeartbeats 8000000 in
set_option maxRecDepth 100000 in
theorem laws_tHas.calls (k : Nat) (A0 : Option Addr) (c0 : Nat) (l0 : List Int) (a1 : Int) (r : Bool) (w : World) (hr0 : Kd.C (Kd.int .i64) w A0 l0.length l0) (hc0 : l0.length ≤ c0) (h : laws_tHas.f k l0 a1 = some r) :
  Calls Try.prog 25 #[.slice A0 l0.length c0, .int .i64 a1] w fun e w' => e = .returned (.bool r) ∧ Drawn0 w w' := by
 have HR0 := Aside0.mk hr0
 have HC0 := Aside0.mk hc0
 clear hr0 hc0
 have H : (laws_tHas.l0 k a1 l0 (l0.length : Int) 0) = some r := h
 clear h
 have H' := Aside0.mk H
 clear H
 go_enter Try.func25, Try.ntmps25
 go_wp2
 go_loopg [9] k (fun kq v9 w' => ∃ (x9_1 : Int), v9 = .int .i64 x9_1 ∧ Aside0 (laws_tHas.l0 kq a1 l0 (l0.length : Int) x9_1 = some r) ∧ Aside0 (kq ≤ k) ∧ Drawn0 w w')
 case atStart => exact ⟨(0), k32_, H', ⟨Nat.le_refl _⟩, k30_⟩
 case round =>
  clear H'
  obtain ⟨x9_1, rfl, HA, HK1, ⟨m1, rfl⟩⟩ := hrel
  cases gk with
  | zero => exact absurd HA.out (by simp [laws_tHas.l0])
  | succ k1 =>
   have H := HA.out
   clear HA
   simp only [laws_tHas.l0] at H
   by_cases c3 : x9_1 < (l0.length : Int)
   ·rw [if_pos c3] at H
    have c3b0 : decide (x9_1 < (l0.length : Int)) = true := decide_eq_true c3
    clear c3
    by_cases c4 : 0 ≤ x9_1
    ·rw [if_pos c4] at H
     have c4b0 : decide (0 ≤ x9_1) = true := decide_eq_true c4
     clear c4
     by_cases c5 : x9_1 < (l0.length : Int)
     ·rw [if_pos c5] at H
      have c5b0 : decide (x9_1 < (l0.length : Int)) = true := decide_eq_true c5
      clear c5
      by_cases c6 : (rd l0 x9_1) = a1
      ·rw [if_pos c6] at H
       have c6b0 : ((rd l0 x9_1) == a1) = true := beq_iff_eq.mpr c6
       have c6b1 : ((rd l0 x9_1) != a1) = false := bne_eq_false_iff_eq.mpr c6
       clear c6
       obtain rfl := Option.some.inj H
       have p101 : 0 ≤ (x9_1 : Int) := of_decide_eq_true k31_
       have q101 : x9_1 < (l0.length : Int) := of_decide_eq_true k31_
       obtain ⟨ad101, e101, hx101_0⟩ := Kd.at_int HR0.out x9_1 p101 q101
       cases e101
       replace p101 := eq_true p101
       replace q101 := eq_true q101
       go_wp2
       go_ret
       exact ⟨k32_, k30_⟩
      ·rw [if_neg c6] at H
       have c6b0 : ((rd l0 x9_1) == a1) = false := beq_eq_false_iff_ne.mpr c6
       have c6b1 : ((rd l0 x9_1) != a1) = true := bne_iff_ne.mpr c6
       have H' := Aside0.mk H
       clear H
       have p101 : 0 ≤ (x9_1 : Int) := of_decide_eq_true k31_
       have q101 : x9_1 < (l0.length : Int) := of_decide_eq_true k31_
       obtain ⟨ad101, e101, hx101_0⟩ := Kd.at_int HR0.out x9_1 p101 q101
       cases e101
       replace p101 := eq_true p101
       replace q101 := eq_true q101
       go_wp2
       go_roundg k1
       case measure => have := HK1.out; omega
       case rel => exact ⟨(wrap64 (x9_1 + 1)), k32_, H', ⟨k34_⟩, k30_⟩
     ·rw [if_neg c5] at H
      exact absurd H (by simp)
    ·rw [if_neg c4] at H
     exact absurd H (by simp)
   ·rw [if_neg c3] at H
    have c3b0 : decide (x9_1 < (l0.length : Int)) = false := decide_eq_false c3
    clear c3
    obtain rfl := Option.some.inj H
    go_wp2
    go_ret
    exact ⟨k32_, k30_⟩
end Go.Proofs.Ytidkoannjealfaa.P
namespace Go.Proofs.Ytidkoannjealfaa.P
open Go.RowKit Go.Proofs.YtidkoannjealfaaW.PrintWords Go.Proofs.YtidkoannjealfaaW.PrintLast Go.Proofs.YtidkoannjealfaaW.PrintMore
attribute [local go_sem] max2_int min2_int max_two min_two max_three min_three max_four min_four
set_option linter.unusedVariables false
set_option linter.unusedSimpArgs false
def laws_big.f (l0 : List Int) (l1 : List Int) : Option (Bool) := if (l0.length : Int) > 1048576 then (some true) else (some (decide ((l1.length : Int) > (wrap64 (1048576 - (l0.length : Int))))))
set_option maxHeartbeats 8000000 in
set_option maxRecDepth 100000 in
theorem laws_big.calls (A0 : Option Addr) (c0 : Nat) (l0 : List Int) (A1 : Option Addr) (c1 : Nat) (l1 : List Int) (r : Bool) (w : World) (hr0 : Kd.C (Kd.int .u8) w A0 l0.length l0) (hc0 : l0.length ≤ c0) (hr1 : Kd.C (Kd.int .u8) w A1 l1.length l1) (hc1 : l1.length ≤ c1) (h : laws_big.f l0 l1 = some r) :
  Calls Try.prog 4 #[.slice A0 l0.length c0, .slice A1 l1.length c1] w fun e w' => e = .returned (.bool r) ∧ Drawn0 w w' := by
 have HR0 := Aside0.mk hr0
 have HC0 := Aside0.mk hc0
 clear hr0 hc0
 have HR1 := Aside0.mk hr1
 have HC1 := Aside0.mk hc1
 clear hr1 hc1
 have H : (if (l0.length : Int) > 1048576 then (some true) else (some (decide ((l1.length : Int) > (wrap64 (1048576 - (l0.length : Int))))))) = some r := h
 clear h
 by_cases c3 : (l0.length : Int) > 1048576
 ·rw [if_pos c3] at H
  have c3b0 : decide (1048576 < (l0.length : Int)) = true := decide_eq_true c3
  have c3b1 : decide (1048576 < l0.length) = true := decide_eq_true (by omega)
  clear c3
  obtain rfl := Option.some.inj H
  go_enter Try.func4, Try.ntmps4
  go_wp2
  go_ret
  exact ⟨k32_, k30_⟩
 ·rw [if_neg c3] at H
  have c3b0 : decide (1048576 < (l0.length : Int)) = false := decide_eq_false c3
  have c3b1 : decide (1048576 < l0.length) = false := decide_eq_false (by omega)
  clear c3
  obtain rfl := Option.some.inj H
  go_enter Try.func4, Try.ntmps4
  go_wp2
  go_ret
  exact ⟨k32_, k30_⟩
end Go.Proofs.Ytidkoannjealfaa.P
namespace Go.Proofs.Ytidkoannjealfaa.P
open Go.RowKit Go.Proofs.YtidkoannjealfaaW.PrintWords Go.Proofs.YtidkoannjealfaaW.PrintLast Go.Proofs.YtidkoannjealfaaW.PrintMore
attribute [local go_sem] max2_int min2_int max_two min_two max_three min_three max_four min_four
set_option linter.unusedVariables false
set_option linter.unusedSimpArgs false
def spec_l1Cur_asked.f (s0_0 : List Int) (s0_1 : Int) (s0_2 : Int) : Option (Int × Int × Int) := (spec_l1Cur_one.f s0_0 s0_1 s0_2 12).bind fun bt101 => (if bt101.1 = true then ((spec_l1Cur_among.f s0_0 bt101.2.1 bt101.2.2 (([(-1), 0, 1, 99999, 100000, 100001, 4611686018427387904] : List Int))).bind fun bt107 => (some (bt107.1, bt107.2.1, bt107.2.2))) else ((spec_l1Cur_one.f s0_0 bt101.2.1 bt101.2.2 3).bind fun bt110 => (if bt110.1 = true then ((spec_l1Cur_pick.f s0_0 bt110.2.1 bt110.2.2 3000).bind fun bt113 => (some (wrap64 (1 + bt113.1), bt113.2.1, bt113.2.2))) else ((spec_l1Cur_pick.f s0_0 bt110.2.1 bt110.2.2 130).bind fun bt116 => (some (wrap64 (1 + bt116.1), bt116.2.1, bt116.2.2))))))
set_option maxHeartbeats 8000000 in
set_option maxRecDepth 100000 in
theorem spec_l1Cur_asked.calls (g : Nat) (s0_0 : List Int) (s0_1 : Int) (s0_2 : Int) (r1 : Int) (r2 : Int) (r3 : Int) (w0 w : World) (hI : IsS47 w0 w g s0_0 s0_1 s0_2) (hB : Below w0.heap.size w0 w) (h : spec_l1Cur_asked.f s0_0 s0_1 s0_2 = some (r1, r2, r3)) :
  Calls Try.prog 41 #[.pointer (some ⟨g, 0, none⟩)] w fun e w' => e = .returned (.int .i64 r1) ∧ IsS47 w0 w' g s0_0 r2 r3 ∧ Below w0.heap.size w0 w' ∧ KeepBut w w' g none := by
 have HI0 := Aside0.mk hI
 have HK := Aside0.mk (KeepBut.refl w g none)
 have HL := Aside0.mk hB.size
 clear hI
 have HW0 := Aside0.mk hB.size
 have HB := Aside0.mk hB
 clear hB
 have H : ((spec_l1Cur_one.f s0_0 s0_1 s0_2 12).bind fun bt101 => (if bt101.1 = true then ((spec_l1Cur_among.f s0_0 bt101.2.1 bt101.2.2 (([(-1), 0, 1, 99999, 100000, 100001, 4611686018427387904] : List Int))).bind fun bt107 => (some (bt107.1, bt107.2.1, bt107.2.2))) else ((spec_l1Cur_one.f s0_0 bt101.2.1 bt101.2.2 3).bind fun bt110 => (if bt110.1 = true then ((spec_l1Cur_pick.f s0_0 bt110.2.1 bt110.2.2 3000).bind fun bt113 => (some (wrap64 (1 + bt113.1), bt113.2.1, bt113.2.2))) else ((spec_l1Cur_pick.f s0_0 bt110.2.1 bt110.2.2 130).bind fun bt116 => (some (wrap64 (1 + bt116.1), bt116.2.1, bt116.2.2))))))) = some (r1, r2, r3) := h
 clear h
 obtain ⟨⟨t101, t102, t103⟩, A2, H⟩ := obnd_ H
 (try dsimp only at H)
 by_cases c3 : t101 = true
 ·subst c3
  rw [if_pos rfl] at H
  obtain ⟨y104, hy_⟩ : ∃ y_ : List Int, y_ = (([(-1), 0, 1, 99999, 100000, 100001, 4611686018427387904] : List Int)) := ⟨_, rfl⟩
  replace H : ((spec_l1Cur_among.f s0_0 t102 t103 y104).bind fun bt107 => (some (bt107.1, bt107.2.1, bt107.2.2))) = some (r1, r2, r3) := k0_
  have Ny104 := Aside0.mk hy_
  clear hy_
  obtain ⟨⟨t107, t108, t109⟩, A4, H⟩ := obnd_ H
  (try dsimp only at H)
  simp only [Option.some.injEq, Prod.mk.injEq] at H
  obtain ⟨rfl, rfl, rfl⟩ := H
  go_enter Try.func41, Try.ntmps41
  go_wp2_with (first | ((with_reducible refine gate_callee (f := 49) rfl ?_); refine goesL_ (some 4) rfl rfl Try.func49 (by kernel_rfl) rfl #[.pointer (some ⟨g, 0, none⟩), .int .i64 12] rfl k20_ ?_; (with_reducible refine (spec_l1Cur_one.calls g s0_0 s0_1 s0_2 12 true t102 t103 w0 _ ?side1 ?side2 A2.out).mono ?_); (case side1 => exact k12_); (case side2 => exact k3_); rintro e w5 ⟨rfl, hi, hb, hk⟩; refine ⟨_, rfl, ?_⟩; replace HK := Aside0.mk (KeepBut.trans k18_ hk (.inl rfl)); replace HB := Aside0.mk (hb); replace HI0 := Aside0.mk (hi); (try clear hb hk hi)) | ((with_reducible refine gate_dst (N := 6) rfl ?_); refine Kd.R_lit (Kd.int .i64) _ 3 ?hg (N := 6) ?hd (xs := ([(-1), 0, 1, 99999, 100000, 100001, 4611686018427387904] : List Int)) (inner := [.int .i64 (-1), .int .i64 0, .int .i64 1, .int .i64 99999, .int .i64 100000, .int .i64 100001, .int .i64 4611686018427387904]) (ok := fun _ => True) (okp := fun _ => True) ?hr ?hp (fun _ hk => hk) trivial (Below.refl _ _) (Nat.le_refl _) (by simp) ?_; (case hd => rfl); (case hg => rfl); (case hr => exact k33_); (case hp => exact (Reps.one (show Kd.M (Kd.int .i64) _ _ _ (-1) [.int .i64 (-1)] from rfl) (Reps.one (show Kd.M (Kd.int .i64) _ _ _ 0 [.int .i64 0] from rfl) (Reps.one (show Kd.M (Kd.int .i64) _ _ _ 1 [.int .i64 1] from rfl) (Reps.one (show Kd.M (Kd.int .i64) _ _ _ 99999 [.int .i64 99999] from rfl) (Reps.one (show Kd.M (Kd.int .i64) _ _ _ 100000 [.int .i64 100000] from rfl) (Reps.one (show Kd.M (Kd.int .i64) _ _ _ 100001 [.int .i64 100001] from rfl) (Reps.one (show Kd.M (Kd.int .i64) _ _ _ 4611686018427387904 [.int .i64 4611686018427387904] from rfl) (Reps.none _ _))))))))); intro v105 w6 ho7 hb hg_ hnew_; clear hg_ hnew_; (first | rw [← Ny104.out] at ho7 | (simp only [Int.reduceToNat] at ho7; rw [← Ny104.out] at ho7)); have HO106 := Aside0.mk (Kd.R_lower ho7 (keep_size (w := w) (g := g) (row := none) k18_)); replace HK := Aside0.mk (KeepBut.trans k18_ (KeepBut.of_below hb g none) (.inl rfl)); replace HB := Aside0.mk (below_step k3_ hb); replace HI0 := Aside0.mk (IsS47.below k12_ hb); clear hb ho7; obtain ⟨Ao8, co8, eo8⟩ := Kd.R_slice HO106.out; subst eo8) | ((with_reducible refine gate_callee (f := 50) rfl ?_); refine goesL_ (some 7) rfl rfl Try.func50 (by kernel_rfl) rfl #[.pointer (some ⟨g, 0, none⟩), .slice Ao8 y104.length co8] rfl k20_ ?_; (with_reducible refine (spec_l1Cur_among.calls g s0_0 t102 t103 _ _ y104 t107 t108 t109 w0 _ ?side1 ?side2 ?side3 ?side4 ?side5 A4.out).mono ?_); (case side1 => exact k12_); (case side2 => exact k3_); (case side3 => repeat (first | exact (Kd.R_reads' HO106.out).2.2 | (with_reducible refine Kd.C_alloc ?_ _) | (with_reducible refine Kd.C_drewN ?_ _) | (with_reducible refine Kd.C_drew ?_))); (case side4 => exact (Kd.R_reads' HO106.out).2.1); (case side5 => exact far_slice (IsS47.own_ne HI0.out HO106.out (by decide))); rintro e w9 ⟨rfl, hi, hb, hk⟩; refine ⟨_, rfl, ?_⟩; replace HO106 := Aside0.mk (Kd.R_mono (Kd.R_keep (IsS47.apart (show IsS47 w0 _ g s0_0 t102 t103 from k12_) (by apply_rules only [HO106.out, Kd.R_alloc, Kd.R_drewN, Kd.R_drew]) (by decide)) hk (fun _ h => h.2)) (fun _ h => h.1)); replace HK := Aside0.mk (KeepBut.trans k18_ hk (.inl rfl)); replace HB := Aside0.mk (hb); replace HI0 := Aside0.mk (hi); (try clear hb hk hi)))
  go_ret
  exact ⟨k22_, k12_, k3_, k18_⟩
 ·replace c3 := Bool.eq_false_iff.mpr c3
  subst c3
  rw [if_neg (show ¬ (false = true) by decide)] at H
  obtain ⟨⟨t110, t111, t112⟩, A10, H⟩ := obnd_ H
  (try dsimp only at H)
  by_cases c11 : t110 = true
  ·subst c11
   rw [if_pos rfl] at H
   obtain ⟨⟨t113, t114, t115⟩, A12, H⟩ := obnd_ H
   (try dsimp only at H)
   simp only [Option.some.injEq, Prod.mk.injEq] at H
   obtain ⟨rfl, rfl, rfl⟩ := H
   go_enter Try.func41, Try.ntmps41
   go_wp2_with (first | ((with_reducible refine gate_callee (f := 49) rfl ?_); refine goesL_ (some 4) rfl rfl Try.func49 (by kernel_rfl) rfl #[.pointer (some ⟨g, 0, none⟩), .int .i64 12] rfl k20_ ?_; (with_reducible refine (spec_l1Cur_one.calls g s0_0 s0_1 s0_2 12 false t102 t103 w0 _ ?side1 ?side2 A2.out).mono ?_); (case side1 => exact k12_); (case side2 => exact k3_); rintro e w13 ⟨rfl, hi, hb, hk⟩; refine ⟨_, rfl, ?_⟩; replace HK := Aside0.mk (KeepBut.trans k18_ hk (.inl rfl)); replace HB := Aside0.mk (hb); replace HI0 := Aside0.mk (hi); (try clear hb hk hi)) | ((with_reducible refine gate_callee (f := 49) rfl ?_); refine goesL_ (some 9) rfl rfl Try.func49 (by kernel_rfl) rfl #[.pointer (some ⟨g, 0, none⟩), .int .i64 3] rfl k20_ ?_; (with_reducible refine (spec_l1Cur_one.calls g s0_0 t102 t103 3 true t111 t112 w0 _ ?side1 ?side2 A10.out).mono ?_); (case side1 => exact k12_); (case side2 => exact k3_); rintro e w14 ⟨rfl, hi, hb, hk⟩; refine ⟨_, rfl, ?_⟩; replace HK := Aside0.mk (KeepBut.trans k18_ hk (.inl rfl)); replace HB := Aside0.mk (hb); replace HI0 := Aside0.mk (hi); (try clear hb hk hi)) | ((with_reducible refine gate_callee (f := 51) rfl ?_); refine goesL_ (some 11) rfl rfl Try.func51 (by kernel_rfl) rfl #[.pointer (some ⟨g, 0, none⟩), .int .i64 3000] rfl k20_ ?_; (with_reducible refine (spec_l1Cur_pick.calls g s0_0 t111 t112 3000 t113 t114 t115 w0 _ ?side1 ?side2 A12.out).mono ?_); (case side1 => exact k12_); (case side2 => exact k3_); rintro e w15 ⟨rfl, hi, hb, hk⟩; refine ⟨_, rfl, ?_⟩; replace HK := Aside0.mk (KeepBut.trans k18_ hk (.inl rfl)); replace HB := Aside0.mk (hb); replace HI0 := Aside0.mk (hi); (try clear hb hk hi)))
   go_ret
   exact ⟨k22_, k12_, k3_, k18_⟩
  ·replace c11 := Bool.eq_false_iff.mpr c11
   subst c11
   rw [if_neg (show ¬ (false = true) by decide)] at H
   obtain ⟨⟨t116, t117, t118⟩, A16, H⟩ := obnd_ H
   (try dsimp only at H)
   simp only [Option.some.injEq, Prod.mk.injEq] at H
   obtain ⟨rfl, rfl, rfl⟩ := H
   go_enter Try.func41, Try.ntmps41
   go_wp2_with (first | ((with_reducible refine gate_callee (f := 49) rfl ?_); refine goesL_ (some 4) rfl rfl Try.func49 (by kernel_rfl) rfl #[.pointer (some ⟨g, 0, none⟩), .int .i64 12] rfl k20_ ?_; (with_reducible refine (spec_l1Cur_one.calls g s0_0 s0_1 s0_2 12 false t102 t103 w0 _ ?side1 ?side2 A2.out).mono ?_); (case side1 => exact k12_); (case side2 => exact k3_); rintro e w17 ⟨rfl, hi, hb, hk⟩; refine ⟨_, rfl, ?_⟩; replace HK := Aside0.mk (KeepBut.trans k18_ hk (.inl rfl)); replace HB := Aside0.mk (hb); replace HI0 := Aside0.mk (hi); (try clear hb hk hi)) | ((with_reducible refine gate_callee (f := 49) rfl ?_); refine goesL_ (some 9) rfl rfl Try.func49 (by kernel_rfl) rfl #[.pointer (some ⟨g, 0, none⟩), .int .i64 3] rfl k20_ ?_; (with_reducible refine (spec_l1Cur_one.calls g s0_0 t102 t103 3 false t111 t112 w0 _ ?side1 ?side2 A10.out).mono ?_); (case side1 => exact k12_); (case side2 => exact k3_); rintro e w18 ⟨rfl, hi, hb, hk⟩; refine ⟨_, rfl, ?_⟩; replace HK := Aside0.mk (KeepBut.trans k18_ hk (.inl rfl)); replace HB := Aside0.mk (hb); replace HI0 := Aside0.mk (hi); (try clear hb hk hi)) | ((with_reducible refine gate_callee (f := 51) rfl ?_); refine goesL_ (some 14) rfl rfl Try.func51 (by kernel_rfl) rfl #[.pointer (some ⟨g, 0, none⟩), .int .i64 130] rfl k20_ ?_; (with_reducible refine (spec_l1Cur_pick.calls g s0_0 t111 t112 130 t116 t117 t118 w0 _ ?side1 ?side2 A16.out).mono ?_); (case side1 => exact k12_); (case side2 => exact k3_); rintro e w19 ⟨rfl, hi, hb, hk⟩; refine ⟨_, rfl, ?_⟩; replace HK := Aside0.mk (KeepBut.trans k18_ hk (.inl rfl)); replace HB := Aside0.mk (hb); replace HI0 := Aside0.mk (hi); (try clear hb hk hi)))
   go_ret
   exact ⟨k22_, k12_, k3_, k18_⟩
end Go.Proofs.Ytidkoannjealfaa.P
namespace Go.Proofs.Ytidkoannjealfaa.P
open Go.RowKit Go.Proofs.YtidkoannjealfaaW.PrintWords Go.Proofs.YtidkoannjealfaaW.PrintLast Go.Proofs.YtidkoannjealfaaW.PrintMore
attribute [local go_sem] max2_int min2_int max_two min_two max_three min_three max_four min_four
set_option linter.unusedVariables false
set_option linter.unusedSimpArgs false
def spec_DrawIsSquareFree.g (s0_0 : List Int) (s0_1 : Int) (s0_2 : Int) : Option (Int × Int × Int) := (spec_l1Cur_asked.f s0_0 s0_1 s0_2).bind fun bt101 => (some (bt101.1, bt101.2.1, bt101.2.2))
def spec_DrawIsSquareFree.codeOf : Option Code → Code
 | some c => c
 | none => .skip
def spec_DrawIsSquareFree.seqB : Code → Code
 | .seq _ b => b
 | c => c
set_option maxHeartbeats 8000000 in
set_option maxRecDepth 100000 in
theorem spec_DrawIsSquareFree.rest (g : Nat) (s0_0 : List Int) (s0_1 : Int) (s0_2 : Int) (r1 : Int) (r2 : Int) (r3 : Int) (w0 w wc : World) (hI : IsS47 w0 wc g s0_0 s0_1 s0_2) (hK : KeepBut w wc g none) (hL : w0.heap.size ≤ w.heap.size) (hB : Below w0.heap.size w0 wc) (h : spec_DrawIsSquareFree.g s0_0 s0_1 s0_2 = some (r1, r2, r3)) (u0 u1 u2 u4 u5 u6 u7 u8 : Value) (P : Ending → World → Prop) (hP : ∀ e w', (e = .returned (.int .i64 r1) ∧ IsS47 w0 w' g s0_0 r2 r3 ∧ Below w0.heap.size w0 w' ∧ KeepBut w w' g none) → P e w') :
  Code.wp Try.prog (spec_DrawIsSquareFree.seqB (spec_DrawIsSquareFree.seqB (spec_DrawIsSquareFree.codeOf Try.f26.body))) (bodyPost Try.prog Try.f26 P) ⟨#[u0, u1, u2, .pointer (some ⟨g, 0, none⟩), u4, u5, u6, u7, u8], []⟩ wc := by
 have HP := Aside0.mk hP
 clear hP
 have HI0 := Aside0.mk hI
 have HK := Aside0.mk hK
 clear hK
 have HL := Aside0.mk hL
 clear hI
 have HW0 := Aside0.mk hL
 clear hL
 have HB := Aside0.mk hB
 clear hB
 have H : ((spec_l1Cur_asked.f s0_0 s0_1 s0_2).bind fun bt101 => (some (bt101.1, bt101.2.1, bt101.2.2))) = some (r1, r2, r3) := h
 clear h
 obtain ⟨⟨t101, t102, t103⟩, A2, H⟩ := obnd_ H
 (try dsimp only at H)
 simp only [Option.some.injEq, Prod.mk.injEq] at H
 obtain ⟨rfl, rfl, rfl⟩ := H
 show (let Q'_ := bodyPost Try.prog Try.f26 P; Code.wp Try.prog _ Q'_ _ _)
 intro Q'_
 conv => arg 2; whnf
 go_wp2_with (first | ((with_reducible refine gate_callee (f := 41) rfl ?_); refine goesL_ (some 8) rfl rfl Try.func41 (by kernel_rfl) rfl #[.pointer (some ⟨g, 0, none⟩)] rfl k20_ ?_; (with_reducible refine (spec_l1Cur_asked.calls g s0_0 s0_1 s0_2 t101 t102 t103 w0 _ ?side1 ?side2 A2.out).mono ?_); (case side1 => exact k12_); (case side2 => exact k3_); rintro e w3 ⟨rfl, hi, hb, hk⟩; refine ⟨_, rfl, ?_⟩; replace HK := Aside0.mk (KeepBut.trans k18_ hk (.inl rfl)); replace HB := Aside0.mk (hb); replace HI0 := Aside0.mk (hi); (try clear hb hk hi)))
 (try go_ret)
 refine HP.out _ _ ?_
 exact ⟨k22_, k12_, k3_, k18_⟩
def spec_DrawIsSquareFree.f (l0 : List Int) : Option (Int) := (spec_DrawIsSquareFree.g l0 0 0).bind fun t => some t.1
set_option maxHeartbeats 8000000 in
set_option maxRecDepth 100000 in
theorem spec_DrawIsSquareFree.calls (A0 : Option Addr) (c0 : Nat) (l0 : List Int) (r1 : Int) (w : World) (hr0 : Kd.C (Kd.int .u8) w A0 l0.length l0) (hc0 : l0.length ≤ c0) (h : spec_DrawIsSquareFree.f l0 = some r1) :
  Calls Try.prog 26 #[.slice A0 l0.length c0] w fun e w' => e = .returned (.int .i64 r1) ∧ Below w.heap.size w w' := by
 obtain ⟨⟨r1_, r2, r3⟩, hg, he⟩ := Option.bind_eq_some_iff.mp h
 simp only [Option.some.injEq] at he
 obtain rfl := he
 go_enter Try.func26, Try.ntmps26
 apply wp_seq_k
 intro K1 hK1
 have HK1 := Aside0.mk hK1
 clear hK1
 go_wp2
 refine HK1.out _ _ ?_
 apply wp_seq_k
 intro K2 hK2
 have HK2 := Aside0.mk hK2
 clear hK2
 go_wp2_with (first | ((with_reducible refine gate_dst (N := 6) rfl ?_); (try (refine gate_guard (by rfl) ?_; dsimp only)); refine box_event ?hg (N := 6) ?hd (cs := #[.slice A0 l0.length c0, .int .i64 0, .int .u64 0]) (t := 47) ?hr ?_; (case hd => rfl); (case hg => rfl); (case hr => exact k33_); intro gP hgp w1 hbox hb; have HGP := Aside0.mk hgp; have HBX := Aside0.mk hbox; have HBB := Aside0.mk hb; clear hgp hbox hb))
 refine HK2.out _ _ ?_
 have hBw : Below w.heap.size w w1 := HBB.out
 have hgP : w.heap.size ≤ gP := by rw [HGP.out]; exact Nat.le_refl _
 refine spec_DrawIsSquareFree.rest gP l0 0 0 r1_ r2 r3 w w w1 ⟨A0, c0, HBX.out, hgP, hr0⟩ (KeepBut.of_below hBw gP none) (Nat.le_refl _) hBw hg _ _ _ _ _ _ _ _ _ ?_
 rintro e w' ⟨rfl, _hI1, hb_2, _hk3⟩
 exact ⟨rfl, hb_2⟩
end Go.Proofs.Ytidkoannjealfaa.P
namespace Go.Proofs.Ytidkoannjealfaa.P
open Go.RowKit Go.Proofs.YtidkoannjealfaaW.PrintWords Go.Proofs.YtidkoannjealfaaW.PrintLast Go.Proofs.YtidkoannjealfaaW.PrintMore
attribute [local go_sem] max2_int min2_int max_two min_two max_three min_three max_four min_four
set_option linter.unusedVariables false
set_option linter.unusedSimpArgs false
def spec_DrawTwoSquares.f (l0 : List Int) : Option (Int) := (spec_DrawIsSquareFree.f l0).bind fun t101 => (some t101)
set_option maxHeartbeats 8000000 in
set_option maxRecDepth 100000 in
theorem spec_DrawTwoSquares.calls (A0 : Option Addr) (c0 : Nat) (l0 : List Int) (r : Int) (w : World) (hr0 : Kd.C (Kd.int .u8) w A0 l0.length l0) (hc0 : l0.length ≤ c0) (h : spec_DrawTwoSquares.f l0 = some r) :
  Calls Try.prog 5 #[.slice A0 l0.length c0] w fun e w' => e = .returned (.int .i64 r) ∧ Below w.heap.size w w' := by
 have HR0 := Aside0.mk hr0
 have HC0 := Aside0.mk hc0
 clear hr0 hc0
 have HB := Aside0.mk (Below.refl w.heap.size w)
 have H : ((spec_DrawIsSquareFree.f l0).bind fun t101 => (some t101)) = some r := h
 clear h
 obtain ⟨t101, A2, H⟩ := obnd_ H
 (try dsimp only at H)
 obtain rfl := Option.some.inj H
 go_enter Try.func5, Try.ntmps5
 go_wp2_with (first | ((with_reducible refine gate_callee (f := 26) rfl ?_); refine goesL_ (some 4) rfl rfl Try.func26 (by kernel_rfl) rfl #[.slice A0 l0.length c0] rfl k20_ ?_; (with_reducible refine (spec_DrawIsSquareFree.calls _ _ l0 t101 _ ?side1 ?side2 A2.out).mono ?_); (case side1 => exact k15_); (case side2 => exact HC0.out); rintro e w3 ⟨rfl, hb⟩; refine ⟨_, rfl, ?_⟩; replace HB := HB.mw hb; (try clear hb)))
 go_ret
 exact ⟨k22_, k23_⟩
end Go.Proofs.Ytidkoannjealfaa.P
