/- What functions of the program answer. Proved in this text: its theorems. Conditions: as each theorem states them. -/
import Derived.Test.YtidkoannjealfaaCFnSumsOfSquaresP
import Derived.Test.YtidkoannjealfaaCFnSumsOfSquaresF0
namespace Go.Proofs.Ytidkoannjealfaa.P
open Go.RowKit Go.Proofs.YtidkoannjealfaaW.PrintWords Go.Proofs.YtidkoannjealfaaW.PrintLast Go.Proofs.YtidkoannjealfaaW.PrintMore
attribute [local go_sem] max2_int min2_int max_two min_two max_three min_three max_four min_four
set_option linter.unusedVariables false
set_option linter.unusedSimpArgs false
def impl_TwoSquares.l0 : Nat → Int → List (List Int) → Int → Option ((List (List Int)) × Bool)
 | 0, _, _, _ => none
 | k + 1, x0, x4, x5 => if (wrap64 ((wrap64 (2 * x5)) * x5)) ≤ x0 then ((impl_rootOf.f (wrap64 (x0 - (wrap64 (x5 * x5))))).bind fun t105 => (if (wrap64 (t105 * t105)) = (wrap64 (x0 - (wrap64 (x5 * x5)))) then (if x4.length < 5864062014805 then (impl_TwoSquares.l0 k x0 (x4 ++ [(([x5, t105] : List Int))]) (wrap64 (x5 + 1))) else (none)) else (impl_TwoSquares.l0 k x0 x4 (wrap64 (x5 + 1))))) else (some (x4, true))
def impl_TwoSquares.f (k : Nat) (a0 : Int) : Option ((List (List Int)) × Bool) := (impl_isAsked.f a0).bind fun t101 => (if t101 = true then (impl_TwoSquares.l0 k a0 (([] : List (List Int))) 0) else (some (([] : List (List Int)), false)))
set_option maxHeartbeats 8000000 in
set_option maxRecDepth 100000 in
theorem impl_TwoSquares.calls (k : Nat) (a0 : Int) (r1 : List (List Int)) (r2 : Bool) (w : World) (h : impl_TwoSquares.f k a0 = some (r1, r2)) :
  Calls Try.prog 6 #[.int .i64 a0] w fun e w' => ∃ v0_ : Value, e = .returned (.tuple #[v0_, .bool r2]) ∧ Kd.S (Kd.slice 3 (Kd.int .i64)) 32 w' w.heap.size (fun _ => True) v0_ r1 ∧ Below w.heap.size w w' := by
 have HB := Aside0.mk (Below.refl w.heap.size w)
 have H : ((impl_isAsked.f a0).bind fun t101 => (if t101 = true then (impl_TwoSquares.l0 k a0 (([] : List (List Int))) 0) else (some (([] : List (List Int)), false)))) = some (r1, r2) := h
 clear h
 obtain ⟨t101, A2, H⟩ := obnd_ H
 (try dsimp only at H)
 by_cases c3 : t101 = true
 ·subst c3
  rw [if_pos rfl] at H
  obtain ⟨y102, hy_⟩ : ∃ y_ : List (List Int), y_ = (([] : List (List Int))) := ⟨_, rfl⟩
  replace H : (impl_TwoSquares.l0 k a0 y102 0) = some (r1, r2) := k0_
  have Ny102 := Aside0.mk hy_
  clear hy_
  have H' := Aside0.mk H
  clear H
  go_enter Try.func6, Try.ntmps6
  go_wp2_with (first | ((with_reducible refine gate_callee (f := 27) rfl ?_); refine goesL_ (some 8) rfl rfl Try.func27 (by kernel_rfl) rfl #[.int .i64 a0] rfl k20_ ?_; (with_reducible refine (impl_isAsked.calls a0 true _ A2.out).mono ?_); rintro e w' ⟨rfl, ⟨nd, rfl⟩⟩; refine ⟨_, rfl, ?_⟩) | ((with_reducible refine gate_dst (N := 10) rfl ?_); refine Kd.S_lit (Kd.slice 3 (Kd.int .i64)) _ 32 ?hg (N := 10) ?hd (xs := ([] : List (List Int))) (inner := []) (ok := fun _ => True) (okp := fun _ => True) ?hr ?hp (fun _ hk => hk) trivial (Below.refl _ _) (Nat.le_refl _) (by simp) ?_; (case hd => rfl); (case hg => rfl); (case hr => exact k33_); (case hp => exact (Reps.none _ _)); intro v103 w4 ho5 hb hg_ hnew_; clear hg_ hnew_; (first | rw [← Ny102.out] at ho5 | (simp only [Int.reduceToNat] at ho5; rw [← Ny102.out] at ho5)); have HO104 := Aside0.mk (Kd.S_lower ho5 (below_size k23_)); replace HB := HB.mw hb; clear hb ho5))
  go_loopg [4, 5] k (fun kq v4 v5 w' => ∃ (x4_1 : List (List Int)) (x5_1 : Int), v5 = .int .i64 x5_1 ∧ Aside0 (impl_TwoSquares.l0 kq a0 x4_1 x5_1 = some (r1, r2)) ∧ Aside0 (kq ≤ k) ∧ Aside0 (Kd.S (Kd.slice 3 (Kd.int .i64)) 32 w' w.heap.size (fun _ => True) v4 x4_1) ∧ Aside0 (Below w.heap.size w w'))
  case atStart => exact ⟨(y102), (0), k32_, H', ⟨Nat.le_refl _⟩, ⟨by apply_rules only [HO104.out, Kd.S_alloc, Kd.S_drewN, Kd.S_drew]⟩, ⟨k23_⟩⟩
  case round =>
   clear H'
   (try clear c3)
   obtain ⟨x4_1, x5_1, rfl, HA, HK1, HO_4, HB⟩ := hrel
   cases gk with
   | zero => exact absurd HA.out (by simp [impl_TwoSquares.l0])
   | succ k1 =>
    have H := HA.out
    clear HA
    simp only [impl_TwoSquares.l0] at H
    by_cases c6 : (wrap64 ((wrap64 (2 * x5_1)) * x5_1)) ≤ a0
    ·rw [if_pos c6] at H
     have c6b0 : decide ((wrap64 ((wrap64 (2 * x5_1)) * x5_1)) ≤ a0) = true := decide_eq_true c6
     clear c6
     obtain ⟨t105, A7, H⟩ := obnd_ H
     (try dsimp only at H)
     by_cases c8 : (wrap64 (t105 * t105)) = (wrap64 (a0 - (wrap64 (x5_1 * x5_1))))
     ·rw [if_pos c8] at H
      have c8b0 : ((wrap64 (t105 * t105)) == (wrap64 (a0 - (wrap64 (x5_1 * x5_1))))) = true := beq_iff_eq.mpr c8
      have c8b1 : ((wrap64 (t105 * t105)) != (wrap64 (a0 - (wrap64 (x5_1 * x5_1))))) = false := bne_eq_false_iff_eq.mpr c8
      clear c8
      obtain ⟨y106, hy_⟩ : ∃ y_ : List Int, y_ = (([x5_1, t105] : List Int)) := ⟨_, rfl⟩
      replace H : (if x4_1.length < 5864062014805 then (impl_TwoSquares.l0 k1 a0 (x4_1 ++ [y106]) (wrap64 (x5_1 + 1))) else (none)) = some (r1, r2) := k0_
      have Ny106 := Aside0.mk hy_
      clear hy_
      by_cases c9 : x4_1.length < 5864062014805
      ·rw [if_pos c9] at H
       have LMc9 := Aside0.mk c9
       clear c9
       obtain ⟨y109, hy_⟩ : ∃ y_ : List (List Int), y_ = (x4_1 ++ [y106]) := ⟨_, rfl⟩
       replace H : (impl_TwoSquares.l0 k1 a0 y109 (wrap64 (x5_1 + 1))) = some (r1, r2) := k0_
       have Ny109 := Aside0.mk hy_
       clear hy_
       have H' := Aside0.mk H
       clear H
       go_wp2_with (first | ((with_reducible refine gate_callee (f := 28) rfl ?_); refine goesL_ (some 24) rfl rfl Try.func28 (by kernel_rfl) rfl #[.int .i64 (wrap64 (a0 - (wrap64 (x5_1 * x5_1))))] rfl k20_ ?_; (with_reducible refine (impl_rootOf.calls (wrap64 (a0 - (wrap64 (x5_1 * x5_1)))) t105 _ A7.out).mono ?_); rintro e w' ⟨rfl, ⟨nd, rfl⟩⟩; refine ⟨_, rfl, ?_⟩) | ((with_reducible refine gate_dst (N := 37) rfl ?_); refine Kd.R_lit (Kd.int .i64) _ 3 ?hg (N := 37) ?hd (xs := ([x5_1, t105] : List Int)) (inner := [.int .i64 x5_1, .int .i64 t105]) (ok := fun _ => True) (okp := fun _ => True) ?hr ?hp (fun _ hk => hk) trivial (Below.refl _ _) (Nat.le_refl _) (by simp) ?_; (case hd => rfl); (case hg => rfl); (case hr => exact k33_); (case hp => exact (Reps.one (show Kd.M (Kd.int .i64) _ _ _ x5_1 [.int .i64 x5_1] from rfl) (Reps.one (show Kd.M (Kd.int .i64) _ _ _ t105 [.int .i64 t105] from rfl) (Reps.none _ _)))); intro v107 w10 ho11 hb hg_ hnew_; clear hg_ hnew_; (first | rw [← Ny106.out] at ho11 | (simp only [Int.reduceToNat] at ho11; rw [← Ny106.out] at ho11)); replace HO_4 := Aside0.mk (Kd.S_elder' (by apply_rules only [HO_4.out, Kd.S_alloc, Kd.S_drewN, Kd.S_drew]) (Kd.R_base ho11) hb); have HO108 := Aside0.mk (Kd.R_lower ho11 (below_size k23_)); replace HB := HB.mw hb; clear hb ho11; obtain ⟨Ao13, co13, eo13⟩ := Kd.R_slice HO108.out; subst eo13) | ((with_reducible refine gate_builtin (b := .append) (xs := #[.tmp 34, .tmp 38]) rfl ?_); at_builtin; refine Kd.S_append (Kd.slice 3 (Kd.int .i64)) (w0 := w) w.heap.size rfl (.tmp 34) (.tmp 38) 25 32 (.slice none 0 0) 24 rfl Try.underlying25 info32 rfl (by decide) (by omega) u4 x4_1 y106 [.slice Ao13 y106.length co13] (fun _ => True) (fun k_ => some k_ = (.slice Ao13 y106.length co13 : Value).ownBlock) rfl rfl ?aP (fun k_ hk_ => ((Kd.R_mono (ok' := fun k_ => ((fun _ => True)) k_ ∧ some k_ ≠ (u4 : Value).ownBlock) (Kd.R_apart' (HO108.out) (Kd.S_typed HO_4.out) (by decide)) (fun k_ hk => ⟨trivial, hk.2⟩))).1 k_ hk_.symm) ?aF ?aO ?aB ?aS ?aL ?_; (case aP => exact Kd.M_row (Kd.R_mono (Kd.R_tight rfl (Kd.R_mono (ok' := fun k_ => ((fun _ => True)) k_ ∧ some k_ ≠ (u4 : Value).ownBlock) (Kd.R_apart' (HO108.out) (Kd.S_typed HO_4.out) (by decide)) (fun k_ hk => ⟨trivial, hk.2⟩))) (fun _ h_ => h_))); (case aB => exact k23_); (case aF => exact (fun _ _ => trivial)); (case aO => exact (by (with_reducible repeat (first | apply Kd.S_alloc | apply Kd.S_drewN | apply Kd.S_drew)); exact Kd.S_mono HO_4.out (fun k_ hk => ⟨trivial, fun e_ => hk.2 e_⟩))); (case aS => exact (below_size k23_)); (case aL => have := LMc9.out; omega); intro v110 w12 ho hb hg hat; rw [← Ny109.out] at ho; replace HB := Aside0.mk (hb); have HO111 := Aside0.mk (ho); clear HO_4 HO108; clear ho hb hg hat))
       go_roundg k1
       case measure => have := HK1.out; omega
       case rel => exact ⟨(y109), (wrap64 (x5_1 + 1)), k32_, H', ⟨k34_⟩, ⟨by apply_rules only [HO111.out, Kd.S_alloc, Kd.S_drewN, Kd.S_drew]⟩, ⟨k23_⟩⟩
      ·rw [if_neg c9] at H
       exact absurd H (by simp)
     ·rw [if_neg c8] at H
      have c8b0 : ((wrap64 (t105 * t105)) == (wrap64 (a0 - (wrap64 (x5_1 * x5_1))))) = false := beq_eq_false_iff_ne.mpr c8
      have c8b1 : ((wrap64 (t105 * t105)) != (wrap64 (a0 - (wrap64 (x5_1 * x5_1))))) = true := bne_iff_ne.mpr c8
      have H' := Aside0.mk H
      clear H
      go_wp2_with (first | ((with_reducible refine gate_callee (f := 28) rfl ?_); refine goesL_ (some 24) rfl rfl Try.func28 (by kernel_rfl) rfl #[.int .i64 (wrap64 (a0 - (wrap64 (x5_1 * x5_1))))] rfl k20_ ?_; (with_reducible refine (impl_rootOf.calls (wrap64 (a0 - (wrap64 (x5_1 * x5_1)))) t105 _ A7.out).mono ?_); rintro e w' ⟨rfl, ⟨nd, rfl⟩⟩; refine ⟨_, rfl, ?_⟩))
      go_roundg k1
      case measure => have := HK1.out; omega
      case rel => exact ⟨(x4_1), (wrap64 (x5_1 + 1)), k32_, H', ⟨k34_⟩, ⟨by apply_rules only [HO_4.out, Kd.S_alloc, Kd.S_drewN, Kd.S_drew]⟩, ⟨k23_⟩⟩
    ·rw [if_neg c6] at H
     have c6b0 : decide ((wrap64 ((wrap64 (2 * x5_1)) * x5_1)) ≤ a0) = false := decide_eq_false c6
     clear c6
     simp only [Option.some.injEq, Prod.mk.injEq] at H
     obtain ⟨rfl, rfl⟩ := H
     go_wp2
     go_ret2
     exact ⟨_, k22_, by (with_reducible repeat (first | apply Kd.S_alloc | apply Kd.S_drewN | apply Kd.S_drew)); exact HO_4.out, k23_⟩
 ·replace c3 := Bool.eq_false_iff.mpr c3
  subst c3
  rw [if_neg (show ¬ (false = true) by decide)] at H
  simp only [Option.some.injEq, Prod.mk.injEq] at H
  obtain ⟨rfl, rfl⟩ := H
  go_enter Try.func6, Try.ntmps6
  go_wp2_with (first | ((with_reducible refine gate_callee (f := 27) rfl ?_); refine goesL_ (some 8) rfl rfl Try.func27 (by kernel_rfl) rfl #[.int .i64 a0] rfl k20_ ?_; (with_reducible refine (impl_isAsked.calls a0 false _ A2.out).mono ?_); rintro e w' ⟨rfl, ⟨nd, rfl⟩⟩; refine ⟨_, rfl, ?_⟩))
  go_ret2
  exact ⟨_, k22_, by first | exact Kd.S_nil _ _ _ _ _ | exact Kd.N_nil _ _ _ _ _ | exact Kd.V_nil _ _ _ _ _ | exact Kd.Q_nil _ _ _ _ _ | exact Kd.R_nil _ _ _ _ _, k23_⟩
end Go.Proofs.Ytidkoannjealfaa.P
namespace Go.Proofs.Ytidkoannjealfaa.P
open Go.RowKit Go.Proofs.YtidkoannjealfaaW.PrintWords Go.Proofs.YtidkoannjealfaaW.PrintLast Go.Proofs.YtidkoannjealfaaW.PrintMore
attribute [local go_sem] max2_int min2_int max_two min_two max_three min_three max_four min_four
set_option linter.unusedVariables false
set_option linter.unusedSimpArgs false
def spec_TwoSquares.l0 : Nat → Int → List (List Int) → Int → Option ((List (List Int)) × Bool)
 | 0, _, _, _ => none
 | k + 1, x0, x4, x5 => if (wrap64 ((wrap64 (2 * x5)) * x5)) ≤ x0 then ((spec_sqRoot.f k (wrap64 (x0 - (wrap64 (x5 * x5))))).bind fun t102 => (if (wrap64 (t102 * t102)) = (wrap64 (x0 - (wrap64 (x5 * x5)))) then (if x4.length < 5864062014805 then (spec_TwoSquares.l0 k x0 (x4 ++ [(([x5, t102] : List Int))]) (wrap64 (x5 + 1))) else (none)) else (spec_TwoSquares.l0 k x0 x4 (wrap64 (x5 + 1))))) else (some (x4, true))
def spec_TwoSquares.f (k : Nat) (a0 : Int) : Option ((List (List Int)) × Bool) := (spec_sqGood.f a0).bind fun t101 => (if t101 = true then (spec_TwoSquares.l0 k a0 ([] : List (List Int)) 0) else (some (([] : List (List Int)), false)))
set_option maxHeartbeats 8000000 in
set_option maxRecDepth 100000 in
theorem spec_TwoSquares.calls (k : Nat) (a0 : Int) (r1 : List (List Int)) (r2 : Bool) (w : World) (h : spec_TwoSquares.f k a0 = some (r1, r2)) :
  Calls Try.prog 7 #[.int .i64 a0] w fun e w' => ∃ v0_ : Value, e = .returned (.tuple #[v0_, .bool r2]) ∧ Kd.S (Kd.slice 3 (Kd.int .i64)) 32 w' w.heap.size (fun _ => True) v0_ r1 ∧ Below w.heap.size w w' := by
 have HB := Aside0.mk (Below.refl w.heap.size w)
 have H : ((spec_sqGood.f a0).bind fun t101 => (if t101 = true then (spec_TwoSquares.l0 k a0 ([] : List (List Int)) 0) else (some (([] : List (List Int)), false)))) = some (r1, r2) := h
 clear h
 obtain ⟨t101, A2, H⟩ := obnd_ H
 (try dsimp only at H)
 by_cases c3 : t101 = true
 ·subst c3
  rw [if_pos rfl] at H
  have H' := Aside0.mk H
  clear H
  go_enter Try.func7, Try.ntmps7
  go_wp2_with (first | ((with_reducible refine gate_callee (f := 29) rfl ?_); refine goesL_ (some 8) rfl rfl Try.func29 (by kernel_rfl) rfl #[.int .i64 a0] rfl k20_ ?_; (with_reducible refine (spec_sqGood.calls a0 true _ A2.out).mono ?_); rintro e w' ⟨rfl, ⟨nd, rfl⟩⟩; refine ⟨_, rfl, ?_⟩))
  go_loopg [4, 5] k (fun kq v4 v5 w' => ∃ (x4_1 : List (List Int)) (x5_1 : Int), v5 = .int .i64 x5_1 ∧ Aside0 (spec_TwoSquares.l0 kq a0 x4_1 x5_1 = some (r1, r2)) ∧ Aside0 (kq ≤ k) ∧ Aside0 (Kd.S (Kd.slice 3 (Kd.int .i64)) 32 w' w.heap.size (fun _ => True) v4 x4_1) ∧ Aside0 (Below w.heap.size w w'))
  case atStart => exact ⟨(([] : List (List Int))), (0), k32_, H', ⟨Nat.le_refl _⟩, ⟨by first | exact Kd.S_nil _ _ _ _ _ | exact Kd.N_nil _ _ _ _ _ | exact Kd.V_nil _ _ _ _ _ | exact Kd.Q_nil _ _ _ _ _ | exact Kd.R_nil _ _ _ _ _⟩, ⟨k23_⟩⟩
  case round =>
   clear H'
   (try clear c3)
   obtain ⟨x4_1, x5_1, rfl, HA, HK1, HO_4, HB⟩ := hrel
   cases gk with
   | zero => exact absurd HA.out (by simp [spec_TwoSquares.l0])
   | succ k1 =>
    have H := HA.out
    clear HA
    simp only [spec_TwoSquares.l0] at H
    by_cases c4 : (wrap64 ((wrap64 (2 * x5_1)) * x5_1)) ≤ a0
    ·rw [if_pos c4] at H
     have c4b0 : decide ((wrap64 ((wrap64 (2 * x5_1)) * x5_1)) ≤ a0) = true := decide_eq_true c4
     clear c4
     obtain ⟨t102, A5, H⟩ := obnd_ H
     (try dsimp only at H)
     by_cases c6 : (wrap64 (t102 * t102)) = (wrap64 (a0 - (wrap64 (x5_1 * x5_1))))
     ·rw [if_pos c6] at H
      have c6b0 : ((wrap64 (t102 * t102)) == (wrap64 (a0 - (wrap64 (x5_1 * x5_1))))) = true := beq_iff_eq.mpr c6
      have c6b1 : ((wrap64 (t102 * t102)) != (wrap64 (a0 - (wrap64 (x5_1 * x5_1))))) = false := bne_eq_false_iff_eq.mpr c6
      clear c6
      obtain ⟨y103, hy_⟩ : ∃ y_ : List Int, y_ = (([x5_1, t102] : List Int)) := ⟨_, rfl⟩
      replace H : (if x4_1.length < 5864062014805 then (spec_TwoSquares.l0 k1 a0 (x4_1 ++ [y103]) (wrap64 (x5_1 + 1))) else (none)) = some (r1, r2) := k0_
      have Ny103 := Aside0.mk hy_
      clear hy_
      by_cases c7 : x4_1.length < 5864062014805
      ·rw [if_pos c7] at H
       have LMc7 := Aside0.mk c7
       clear c7
       obtain ⟨y106, hy_⟩ : ∃ y_ : List (List Int), y_ = (x4_1 ++ [y103]) := ⟨_, rfl⟩
       replace H : (spec_TwoSquares.l0 k1 a0 y106 (wrap64 (x5_1 + 1))) = some (r1, r2) := k0_
       have Ny106 := Aside0.mk hy_
       clear hy_
       have H' := Aside0.mk H
       clear H
       go_wp2_with (first | ((with_reducible refine gate_callee (f := 30) rfl ?_); refine goesL_ (some 23) rfl rfl Try.func30 (by kernel_rfl) rfl #[.int .i64 (wrap64 (a0 - (wrap64 (x5_1 * x5_1))))] rfl k20_ ?_; (with_reducible refine (spec_sqRoot.calls k1 (wrap64 (a0 - (wrap64 (x5_1 * x5_1)))) t102 _ A5.out).mono ?_); rintro e w' ⟨rfl, ⟨nd, rfl⟩⟩; refine ⟨_, rfl, ?_⟩) | ((with_reducible refine gate_dst (N := 36) rfl ?_); refine Kd.R_lit (Kd.int .i64) _ 3 ?hg (N := 36) ?hd (xs := ([x5_1, t102] : List Int)) (inner := [.int .i64 x5_1, .int .i64 t102]) (ok := fun _ => True) (okp := fun _ => True) ?hr ?hp (fun _ hk => hk) trivial (Below.refl _ _) (Nat.le_refl _) (by simp) ?_; (case hd => rfl); (case hg => rfl); (case hr => exact k33_); (case hp => exact (Reps.one (show Kd.M (Kd.int .i64) _ _ _ x5_1 [.int .i64 x5_1] from rfl) (Reps.one (show Kd.M (Kd.int .i64) _ _ _ t102 [.int .i64 t102] from rfl) (Reps.none _ _)))); intro v104 w8 ho9 hb hg_ hnew_; clear hg_ hnew_; (first | rw [← Ny103.out] at ho9 | (simp only [Int.reduceToNat] at ho9; rw [← Ny103.out] at ho9)); replace HO_4 := Aside0.mk (Kd.S_elder' (by apply_rules only [HO_4.out, Kd.S_alloc, Kd.S_drewN, Kd.S_drew]) (Kd.R_base ho9) hb); have HO105 := Aside0.mk (Kd.R_lower ho9 (below_size k23_)); replace HB := HB.mw hb; clear hb ho9; obtain ⟨Ao11, co11, eo11⟩ := Kd.R_slice HO105.out; subst eo11) | ((with_reducible refine gate_builtin (b := .append) (xs := #[.tmp 33, .tmp 37]) rfl ?_); at_builtin; refine Kd.S_append (Kd.slice 3 (Kd.int .i64)) (w0 := w) w.heap.size rfl (.tmp 33) (.tmp 37) 25 32 (.slice none 0 0) 24 rfl Try.underlying25 info32 rfl (by decide) (by omega) u4 x4_1 y103 [.slice Ao11 y103.length co11] (fun _ => True) (fun k_ => some k_ = (.slice Ao11 y103.length co11 : Value).ownBlock) rfl rfl ?aP (fun k_ hk_ => ((Kd.R_mono (ok' := fun k_ => ((fun _ => True)) k_ ∧ some k_ ≠ (u4 : Value).ownBlock) (Kd.R_apart' (HO105.out) (Kd.S_typed HO_4.out) (by decide)) (fun k_ hk => ⟨trivial, hk.2⟩))).1 k_ hk_.symm) ?aF ?aO ?aB ?aS ?aL ?_; (case aP => exact Kd.M_row (Kd.R_mono (Kd.R_tight rfl (Kd.R_mono (ok' := fun k_ => ((fun _ => True)) k_ ∧ some k_ ≠ (u4 : Value).ownBlock) (Kd.R_apart' (HO105.out) (Kd.S_typed HO_4.out) (by decide)) (fun k_ hk => ⟨trivial, hk.2⟩))) (fun _ h_ => h_))); (case aB => exact k23_); (case aF => exact (fun _ _ => trivial)); (case aO => exact (by (with_reducible repeat (first | apply Kd.S_alloc | apply Kd.S_drewN | apply Kd.S_drew)); exact Kd.S_mono HO_4.out (fun k_ hk => ⟨trivial, fun e_ => hk.2 e_⟩))); (case aS => exact (below_size k23_)); (case aL => have := LMc7.out; omega); intro v107 w10 ho hb hg hat; rw [← Ny106.out] at ho; replace HB := Aside0.mk (hb); have HO108 := Aside0.mk (ho); clear HO_4 HO105; clear ho hb hg hat))
       go_roundg k1
       case measure => have := HK1.out; omega
       case rel => exact ⟨(y106), (wrap64 (x5_1 + 1)), k32_, H', ⟨k34_⟩, ⟨by apply_rules only [HO108.out, Kd.S_alloc, Kd.S_drewN, Kd.S_drew]⟩, ⟨k23_⟩⟩
      ·rw [if_neg c7] at H
       exact absurd H (by simp)
     ·rw [if_neg c6] at H
      have c6b0 : ((wrap64 (t102 * t102)) == (wrap64 (a0 - (wrap64 (x5_1 * x5_1))))) = false := beq_eq_false_iff_ne.mpr c6
      have c6b1 : ((wrap64 (t102 * t102)) != (wrap64 (a0 - (wrap64 (x5_1 * x5_1))))) = true := bne_iff_ne.mpr c6
      have H' := Aside0.mk H
      clear H
      go_wp2_with (first | ((with_reducible refine gate_callee (f := 30) rfl ?_); refine goesL_ (some 23) rfl rfl Try.func30 (by kernel_rfl) rfl #[.int .i64 (wrap64 (a0 - (wrap64 (x5_1 * x5_1))))] rfl k20_ ?_; (with_reducible refine (spec_sqRoot.calls k1 (wrap64 (a0 - (wrap64 (x5_1 * x5_1)))) t102 _ A5.out).mono ?_); rintro e w' ⟨rfl, ⟨nd, rfl⟩⟩; refine ⟨_, rfl, ?_⟩))
      go_roundg k1
      case measure => have := HK1.out; omega
      case rel => exact ⟨(x4_1), (wrap64 (x5_1 + 1)), k32_, H', ⟨k34_⟩, ⟨by apply_rules only [HO_4.out, Kd.S_alloc, Kd.S_drewN, Kd.S_drew]⟩, ⟨k23_⟩⟩
    ·rw [if_neg c4] at H
     have c4b0 : decide ((wrap64 ((wrap64 (2 * x5_1)) * x5_1)) ≤ a0) = false := decide_eq_false c4
     clear c4
     simp only [Option.some.injEq, Prod.mk.injEq] at H
     obtain ⟨rfl, rfl⟩ := H
     go_wp2
     go_ret2
     exact ⟨_, k22_, by (with_reducible repeat (first | apply Kd.S_alloc | apply Kd.S_drewN | apply Kd.S_drew)); exact HO_4.out, k23_⟩
 ·replace c3 := Bool.eq_false_iff.mpr c3
  subst c3
  rw [if_neg (show ¬ (false = true) by decide)] at H
  simp only [Option.some.injEq, Prod.mk.injEq] at H
  obtain ⟨rfl, rfl⟩ := H
  go_enter Try.func7, Try.ntmps7
  go_wp2_with (first | ((with_reducible refine gate_callee (f := 29) rfl ?_); refine goesL_ (some 8) rfl rfl Try.func29 (by kernel_rfl) rfl #[.int .i64 a0] rfl k20_ ?_; (with_reducible refine (spec_sqGood.calls a0 false _ A2.out).mono ?_); rintro e w' ⟨rfl, ⟨nd, rfl⟩⟩; refine ⟨_, rfl, ?_⟩))
  go_ret2
  exact ⟨_, k22_, by first | exact Kd.S_nil _ _ _ _ _ | exact Kd.N_nil _ _ _ _ _ | exact Kd.V_nil _ _ _ _ _ | exact Kd.Q_nil _ _ _ _ _ | exact Kd.R_nil _ _ _ _ _, k23_⟩
end Go.Proofs.Ytidkoannjealfaa.P
namespace Go.Proofs.Ytidkoannjealfaa.P
open Go.RowKit Go.Proofs.YtidkoannjealfaaW.PrintWords Go.Proofs.YtidkoannjealfaaW.PrintLast Go.Proofs.YtidkoannjealfaaW.PrintMore
attribute [local go_sem] max2_int min2_int max_two min_two max_three min_three max_four min_four
set_option linter.unusedVariables false
set_option linter.unusedSimpArgs false
def impl_CountAsTwo.l0 : Nat → Int → List Int → Int → Int → Option (Int × Bool)
 | 0, _, _, _, _ => none
 | k + 1, x4, x11, x12, x13 => if x13 < x12 then (if 0 ≤ x13 then (if x13 < (x11.length : Int) then (if (Int.tmod (rd x11 x13) 4) = 1 then (impl_CountAsTwo.l0 k (wrap64 (x4 + 4)) x11 x12 (wrap64 (x13 + 1))) else (if (Int.tmod (rd x11 x13) 4) = 3 then (impl_CountAsTwo.l0 k (wrap64 (x4 - 4)) x11 x12 (wrap64 (x13 + 1))) else (impl_CountAsTwo.l0 k x4 x11 x12 (wrap64 (x13 + 1))))) else (none)) else (none)) else (some (x4, true))
def impl_CountAsTwo.f (k : Nat) (a0 : Int) : Option (Int × Bool) := (impl_isAsked.f a0).bind fun t101 => (if t101 = true then ((impl_divisors.f k a0).bind fun t102 => (impl_CountAsTwo.l0 k 0 t102 (t102.length : Int) 0)) else (some (0, false)))
set_option maxHeartbeats 8000000 in
set_option maxRecDepth 100000 in
theorem impl_CountAsTwo.calls (k : Nat) (a0 : Int) (r1 : Int) (r2 : Bool) (w : World) (h : impl_CountAsTwo.f k a0 = some (r1, r2)) :
  Calls Try.prog 8 #[.int .i64 a0] w fun e w' => e = .returned (.tuple #[.int .i64 r1, .bool r2]) ∧ Below w.heap.size w w' := by
 have HB := Aside0.mk (Below.refl w.heap.size w)
 have H : ((impl_isAsked.f a0).bind fun t101 => (if t101 = true then ((impl_divisors.f k a0).bind fun t102 => (impl_CountAsTwo.l0 k 0 t102 (t102.length : Int) 0)) else (some (0, false)))) = some (r1, r2) := h
 clear h
 obtain ⟨t101, A2, H⟩ := obnd_ H
 (try dsimp only at H)
 by_cases c3 : t101 = true
 ·subst c3
  rw [if_pos rfl] at H
  obtain ⟨t102, A4, H⟩ := obnd_ H
  (try dsimp only at H)
  have H' := Aside0.mk H
  clear H
  go_enter Try.func8, Try.ntmps8
  go_wp2_with (first | ((with_reducible refine gate_callee (f := 27) rfl ?_); refine goesL_ (some 8) rfl rfl Try.func27 (by kernel_rfl) rfl #[.int .i64 a0] rfl k20_ ?_; (with_reducible refine (impl_isAsked.calls a0 true _ A2.out).mono ?_); rintro e w' ⟨rfl, ⟨nd, rfl⟩⟩; refine ⟨_, rfl, ?_⟩) | ((with_reducible refine gate_callee (f := 31) rfl ?_); refine goesL_ (some 11) rfl rfl Try.func31 (by kernel_rfl) rfl #[.int .i64 a0] rfl k20_ ?_; (with_reducible refine (impl_divisors.calls k a0 t102 _ A4.out).mono ?_); rintro e w5 ⟨v103, rfl, ho0, hb⟩; refine ⟨_, rfl, ?_⟩; have HO104 := Aside0.mk (Kd.R_lower ho0 (below_size k23_)); replace HB := HB.mw hb; (try clear hb ho0); obtain ⟨Ao6, co6, eo6⟩ := Kd.R_slice HO104.out; subst eo6))
  go_loopg [4, 13] k (fun kq v4 v13 w' => ∃ (x4_1 : Int) (x13_1 : Int), v4 = .int .i64 x4_1 ∧ v13 = .int .i64 x13_1 ∧ Aside0 (impl_CountAsTwo.l0 kq x4_1 t102 (t102.length : Int) x13_1 = some (r1, r2)) ∧ Aside0 (kq ≤ k) ∧ Aside0 (Kd.R (Kd.int .i64) 3 w' w.heap.size (fun _ => True) (.slice Ao6 t102.length co6) t102) ∧ Aside0 (Below w.heap.size w w'))
  case atStart => exact ⟨(0), (0), k32_, k32_, H', ⟨Nat.le_refl _⟩, ⟨by apply_rules only [HO104.out, Kd.R_alloc, Kd.R_drewN, Kd.R_drew]⟩, ⟨k23_⟩⟩
  case round =>
   clear H'
   (try clear c3)
   obtain ⟨x4_1, x13_1, rfl, rfl, HA, HK1, HO_11, HB⟩ := hrel
   cases gk with
   | zero => exact absurd HA.out (by simp [impl_CountAsTwo.l0])
   | succ k1 =>
    have H := HA.out
    clear HA
    simp only [impl_CountAsTwo.l0] at H
    by_cases c7 : x13_1 < (t102.length : Int)
    ·rw [if_pos c7] at H
     have c7b0 : decide (x13_1 < (t102.length : Int)) = true := decide_eq_true c7
     clear c7
     by_cases c8 : 0 ≤ x13_1
     ·rw [if_pos c8] at H
      have c8b0 : decide (0 ≤ x13_1) = true := decide_eq_true c8
      clear c8
      by_cases c9 : x13_1 < (t102.length : Int)
      ·rw [if_pos c9] at H
       have c9b0 : decide (x13_1 < (t102.length : Int)) = true := decide_eq_true c9
       clear c9
       by_cases c10 : (Int.tmod (rd t102 x13_1) 4) = 1
       ·rw [if_pos c10] at H
        have c10b0 : ((Int.tmod (rd t102 x13_1) 4) == 1) = true := beq_iff_eq.mpr c10
        have c10b1 : ((Int.tmod (rd t102 x13_1) 4) != 1) = false := bne_eq_false_iff_eq.mpr c10
        clear c10
        have H' := Aside0.mk H
        clear H
        have p105 : 0 ≤ (x13_1 : Int) := of_decide_eq_true k31_
        have q105 : x13_1 < (t102.length : Int) := of_decide_eq_true k31_
        obtain ⟨ad105, e105, hx105_0⟩ := Kd.at_int (Kd.R_reads' HO_11.out).2.2 x13_1 p105 q105
        cases e105
        replace p105 := eq_true p105
        replace q105 := eq_true q105
        go_wp2
        go_roundg k1
        case measure => have := HK1.out; omega
        case rel => exact ⟨(wrap64 (x4_1 + 4)), (wrap64 (x13_1 + 1)), k32_, k32_, H', ⟨k34_⟩, ⟨by apply_rules only [HO_11.out, Kd.R_alloc, Kd.R_drewN, Kd.R_drew]⟩, ⟨k23_⟩⟩
       ·rw [if_neg c10] at H
        have c10b0 : ((Int.tmod (rd t102 x13_1) 4) == 1) = false := beq_eq_false_iff_ne.mpr c10
        have c10b1 : ((Int.tmod (rd t102 x13_1) 4) != 1) = true := bne_iff_ne.mpr c10
        by_cases c11 : (Int.tmod (rd t102 x13_1) 4) = 3
        ·rw [if_pos c11] at H
         have c11b0 : ((Int.tmod (rd t102 x13_1) 4) == 3) = true := beq_iff_eq.mpr c11
         have c11b1 : ((Int.tmod (rd t102 x13_1) 4) != 3) = false := bne_eq_false_iff_eq.mpr c11
         clear c11
         have H' := Aside0.mk H
         clear H
         have p105 : 0 ≤ (x13_1 : Int) := of_decide_eq_true k31_
         have q105 : x13_1 < (t102.length : Int) := of_decide_eq_true k31_
         obtain ⟨ad105, e105, hx105_0⟩ := Kd.at_int (Kd.R_reads' HO_11.out).2.2 x13_1 p105 q105
         cases e105
         replace p105 := eq_true p105
         replace q105 := eq_true q105
         go_wp2
         go_roundg k1
         case measure => have := HK1.out; omega
         case rel => exact ⟨(wrap64 (x4_1 - 4)), (wrap64 (x13_1 + 1)), k32_, k32_, H', ⟨k34_⟩, ⟨by apply_rules only [HO_11.out, Kd.R_alloc, Kd.R_drewN, Kd.R_drew]⟩, ⟨k23_⟩⟩
        ·rw [if_neg c11] at H
         have c11b0 : ((Int.tmod (rd t102 x13_1) 4) == 3) = false := beq_eq_false_iff_ne.mpr c11
         have c11b1 : ((Int.tmod (rd t102 x13_1) 4) != 3) = true := bne_iff_ne.mpr c11
         have H' := Aside0.mk H
         clear H
         have p105 : 0 ≤ (x13_1 : Int) := of_decide_eq_true k31_
         have q105 : x13_1 < (t102.length : Int) := of_decide_eq_true k31_
         obtain ⟨ad105, e105, hx105_0⟩ := Kd.at_int (Kd.R_reads' HO_11.out).2.2 x13_1 p105 q105
         cases e105
         replace p105 := eq_true p105
         replace q105 := eq_true q105
         go_wp2
         go_roundg k1
         case measure => have := HK1.out; omega
         case rel => exact ⟨(x4_1), (wrap64 (x13_1 + 1)), k32_, k32_, H', ⟨k34_⟩, ⟨by apply_rules only [HO_11.out, Kd.R_alloc, Kd.R_drewN, Kd.R_drew]⟩, ⟨k23_⟩⟩
      ·rw [if_neg c9] at H
       exact absurd H (by simp)
     ·rw [if_neg c8] at H
      exact absurd H (by simp)
    ·rw [if_neg c7] at H
     have c7b0 : decide (x13_1 < (t102.length : Int)) = false := decide_eq_false c7
     clear c7
     simp only [Option.some.injEq, Prod.mk.injEq] at H
     obtain ⟨rfl, rfl⟩ := H
     go_wp2
     go_ret2
     exact ⟨k22_, k23_⟩
 ·replace c3 := Bool.eq_false_iff.mpr c3
  subst c3
  rw [if_neg (show ¬ (false = true) by decide)] at H
  simp only [Option.some.injEq, Prod.mk.injEq] at H
  obtain ⟨rfl, rfl⟩ := H
  go_enter Try.func8, Try.ntmps8
  go_wp2_with (first | ((with_reducible refine gate_callee (f := 27) rfl ?_); refine goesL_ (some 8) rfl rfl Try.func27 (by kernel_rfl) rfl #[.int .i64 a0] rfl k20_ ?_; (with_reducible refine (impl_isAsked.calls a0 false _ A2.out).mono ?_); rintro e w' ⟨rfl, ⟨nd, rfl⟩⟩; refine ⟨_, rfl, ?_⟩))
  go_ret2
  exact ⟨k22_, k23_⟩
end Go.Proofs.Ytidkoannjealfaa.P
namespace Go.Proofs.Ytidkoannjealfaa.P
open Go.RowKit Go.Proofs.YtidkoannjealfaaW.PrintWords Go.Proofs.YtidkoannjealfaaW.PrintLast Go.Proofs.YtidkoannjealfaaW.PrintMore
attribute [local go_sem] max2_int min2_int max_two min_two max_three min_three max_four min_four
set_option linter.unusedVariables false
set_option linter.unusedSimpArgs false
def spec_CountAsTwo.l0 : Nat → Int → Int → Int → Option (Int × Bool)
 | 0, _, _, _ => none
 | k + 1, x0, x4, x5 => if x5 ≤ x0 then (if x5 = 0 then (none) else (if (Int.tmod x0 x5) = 0 then (if (Int.tmod x5 4) = 1 then (spec_CountAsTwo.l0 k x0 (wrap64 (x4 + 4)) (wrap64 (x5 + 1))) else (if (Int.tmod x5 4) = 3 then (spec_CountAsTwo.l0 k x0 (wrap64 (x4 - 4)) (wrap64 (x5 + 1))) else (spec_CountAsTwo.l0 k x0 x4 (wrap64 (x5 + 1))))) else (spec_CountAsTwo.l0 k x0 x4 (wrap64 (x5 + 1))))) else (some (x4, true))
def spec_CountAsTwo.f (k : Nat) (a0 : Int) : Option (Int × Bool) := (spec_sqGood.f a0).bind fun t101 => (if t101 = true then (spec_CountAsTwo.l0 k a0 0 1) else (some (0, false)))
set_option maxHeartbeats 8000000 in
set_option maxRecDepth 100000 in
theorem spec_CountAsTwo.calls (k : Nat) (a0 : Int) (r1 : Int) (r2 : Bool) (w : World) (h : spec_CountAsTwo.f k a0 = some (r1, r2)) :
  Calls Try.prog 9 #[.int .i64 a0] w fun e w' => e = .returned (.tuple #[.int .i64 r1, .bool r2]) ∧ Drawn0 w w' := by
 have H : ((spec_sqGood.f a0).bind fun t101 => (if t101 = true then (spec_CountAsTwo.l0 k a0 0 1) else (some (0, false)))) = some (r1, r2) := h
 clear h
 obtain ⟨t101, A2, H⟩ := obnd_ H
 (try dsimp only at H)
 by_cases c3 : t101 = true
 ·subst c3
  rw [if_pos rfl] at H
  have H' := Aside0.mk H
  clear H
  go_enter Try.func9, Try.ntmps9
  go_wp2_with (first | ((with_reducible refine gate_callee (f := 29) rfl ?_); refine goesL_ (some 7) rfl rfl Try.func29 (by kernel_rfl) rfl #[.int .i64 a0] rfl k20_ ?_; (with_reducible refine (spec_sqGood.calls a0 true _ A2.out).mono ?_); rintro e w' ⟨rfl, ⟨nd, rfl⟩⟩; refine ⟨_, rfl, ?_⟩))
  go_loopg [4, 5] k (fun kq v4 v5 w' => ∃ (x4_1 : Int) (x5_1 : Int), v4 = .int .i64 x4_1 ∧ v5 = .int .i64 x5_1 ∧ Aside0 (spec_CountAsTwo.l0 kq a0 x4_1 x5_1 = some (r1, r2)) ∧ Aside0 (kq ≤ k) ∧ Drawn0 w w')
  case atStart => exact ⟨(0), (1), k32_, k32_, H', ⟨Nat.le_refl _⟩, k30_⟩
  case round =>
   clear H'
   (try clear c3)
   obtain ⟨x4_1, x5_1, rfl, rfl, HA, HK1, ⟨m1, rfl⟩⟩ := hrel
   cases gk with
   | zero => exact absurd HA.out (by simp [spec_CountAsTwo.l0])
   | succ k1 =>
    have H := HA.out
    clear HA
    simp only [spec_CountAsTwo.l0] at H
    by_cases c4 : x5_1 ≤ a0
    ·rw [if_pos c4] at H
     have c4b0 : decide (x5_1 ≤ a0) = true := decide_eq_true c4
     clear c4
     by_cases c5 : x5_1 = 0
     ·rw [if_pos c5] at H
      exact absurd H (by simp)
     ·rw [if_neg c5] at H
      have c5b0 : (x5_1 == 0) = false := beq_eq_false_iff_ne.mpr c5
      have c5b1 : (x5_1 != 0) = true := bne_iff_ne.mpr c5
      by_cases c6 : (Int.tmod a0 x5_1) = 0
      ·rw [if_pos c6] at H
       have c6b0 : ((Int.tmod a0 x5_1) == 0) = true := beq_iff_eq.mpr c6
       have c6b1 : ((Int.tmod a0 x5_1) != 0) = false := bne_eq_false_iff_eq.mpr c6
       clear c6
       by_cases c7 : (Int.tmod x5_1 4) = 1
       ·rw [if_pos c7] at H
        have c7b0 : ((Int.tmod x5_1 4) == 1) = true := beq_iff_eq.mpr c7
        have c7b1 : ((Int.tmod x5_1 4) != 1) = false := bne_eq_false_iff_eq.mpr c7
        clear c7
        have H' := Aside0.mk H
        clear H
        go_wp2
        go_roundg k1
        case measure => have := HK1.out; omega
        case rel => exact ⟨(wrap64 (x4_1 + 4)), (wrap64 (x5_1 + 1)), k32_, k32_, H', ⟨k34_⟩, k30_⟩
       ·rw [if_neg c7] at H
        have c7b0 : ((Int.tmod x5_1 4) == 1) = false := beq_eq_false_iff_ne.mpr c7
        have c7b1 : ((Int.tmod x5_1 4) != 1) = true := bne_iff_ne.mpr c7
        by_cases c8 : (Int.tmod x5_1 4) = 3
        ·rw [if_pos c8] at H
         have c8b0 : ((Int.tmod x5_1 4) == 3) = true := beq_iff_eq.mpr c8
         have c8b1 : ((Int.tmod x5_1 4) != 3) = false := bne_eq_false_iff_eq.mpr c8
         clear c8
         have H' := Aside0.mk H
         clear H
         go_wp2
         go_roundg k1
         case measure => have := HK1.out; omega
         case rel => exact ⟨(wrap64 (x4_1 - 4)), (wrap64 (x5_1 + 1)), k32_, k32_, H', ⟨k34_⟩, k30_⟩
        ·rw [if_neg c8] at H
         have c8b0 : ((Int.tmod x5_1 4) == 3) = false := beq_eq_false_iff_ne.mpr c8
         have c8b1 : ((Int.tmod x5_1 4) != 3) = true := bne_iff_ne.mpr c8
         have H' := Aside0.mk H
         clear H
         go_wp2
         go_roundg k1
         case measure => have := HK1.out; omega
         case rel => exact ⟨(x4_1), (wrap64 (x5_1 + 1)), k32_, k32_, H', ⟨k34_⟩, k30_⟩
      ·rw [if_neg c6] at H
       have c6b0 : ((Int.tmod a0 x5_1) == 0) = false := beq_eq_false_iff_ne.mpr c6
       have c6b1 : ((Int.tmod a0 x5_1) != 0) = true := bne_iff_ne.mpr c6
       have H' := Aside0.mk H
       clear H
       go_wp2
       go_roundg k1
       case measure => have := HK1.out; omega
       case rel => exact ⟨(x4_1), (wrap64 (x5_1 + 1)), k32_, k32_, H', ⟨k34_⟩, k30_⟩
    ·rw [if_neg c4] at H
     have c4b0 : decide (x5_1 ≤ a0) = false := decide_eq_false c4
     clear c4
     simp only [Option.some.injEq, Prod.mk.injEq] at H
     obtain ⟨rfl, rfl⟩ := H
     go_wp2
     go_ret2
     exact ⟨k32_, k30_⟩
 ·replace c3 := Bool.eq_false_iff.mpr c3
  subst c3
  rw [if_neg (show ¬ (false = true) by decide)] at H
  simp only [Option.some.injEq, Prod.mk.injEq] at H
  obtain ⟨rfl, rfl⟩ := H
  go_enter Try.func9, Try.ntmps9
  go_wp2_with (first | ((with_reducible refine gate_callee (f := 29) rfl ?_); refine goesL_ (some 7) rfl rfl Try.func29 (by kernel_rfl) rfl #[.int .i64 a0] rfl k20_ ?_; (with_reducible refine (spec_sqGood.calls a0 false _ A2.out).mono ?_); rintro e w' ⟨rfl, ⟨nd, rfl⟩⟩; refine ⟨_, rfl, ?_⟩))
  go_ret2
  exact ⟨k32_, k30_⟩
end Go.Proofs.Ytidkoannjealfaa.P
namespace Go.Proofs.Ytidkoannjealfaa.P
open Go.RowKit Go.Proofs.YtidkoannjealfaaW.PrintWords Go.Proofs.YtidkoannjealfaaW.PrintLast Go.Proofs.YtidkoannjealfaaW.PrintMore
attribute [local go_sem] max2_int min2_int max_two min_two max_three min_three max_four min_four
set_option linter.unusedVariables false
set_option linter.unusedSimpArgs false
theorem bne_dec {b : Bool} {n : Nat} (h : ¬ (b != decide ((n : Int) > 0)) = true) : decide (0 < (n : Int)) = b ∧ decide (0 < n) = b := by
  have e : decide ((n : Int) > 0) = decide (0 < n) := by
    by_cases hn : 0 < n
    · rw [decide_eq_true hn, decide_eq_true (by omega)]
    · rw [decide_eq_false hn, decide_eq_false (by omega)]
  rw [e] at h
  have e2 : decide (0 < (n : Int)) = decide (0 < n) := e
  rw [e2]
  have h2 : b = decide (0 < n) := by
    cases b <;> cases hd : decide (0 < n) <;> simp_all
  exact ⟨h2.symm, h2.symm⟩
mutual
def laws_FnSumsOfSquares.j0 : Nat → List Int → Int → List (List Int) → Bool → Int → Bool → Bool → List Int → Bool → Int → Int → Bool → Option (Bool)
 | 0, _, _, _, _, _, _, _, _, _, _, _, _ => none
 | k + 1, x1, x5, x6, x7, x10, x14, x18, x22, x23, x26, x30, x233 => if x233 = true then (some false) else (if x7 = true then (laws_FnSumsOfSquares.l0 k x1 x5 x6 x7 x10 x14 x18 x22 x23 x26 x30 0 x6 (x6.length : Int) 0) else (laws_FnSumsOfSquares.j3 k x1 x5 x7 x14 x18 x22 x23))
def laws_FnSumsOfSquares.j3 : Nat → List Int → Int → Bool → Bool → Bool → List Int → Bool → Option (Bool)
 | 0, _, _, _, _, _, _, _ => none
 | k + 1, x1, x5, x7, x14, x18, x22, x23 => if x23 = true then (laws_FnSumsOfSquares.l1 k x1 x5 x7 x14 x18 x22 0 x22 (x22.length : Int) 0) else (laws_FnSumsOfSquares.j5 k x1 x5 x7 x14)
def laws_FnSumsOfSquares.j5 : Nat → List Int → Int → Bool → Bool → Option (Bool)
 | 0, _, _, _, _ => none
 | k + 1, x1, x5, x7, x14 => (spec_DrawSumsOfTwoUpTo.f x1).bind fun t163 => ((impl_SumsOfTwoUpTo.f k t163).bind fun bt164 => ((spec_SumsOfTwoUpTo.f k t163).bind fun bt168 => (if (bt164.2 != bt168.2) = true then (some false) else ((laws_tSame.f k bt164.1 bt168.1).bind fun t172 => (if t172 = true then (if bt164.2 = true then (laws_FnSumsOfSquares.l2 k x5 x7 x14 t163 bt164.1 1) else (some true)) else (some false))))))
def laws_FnSumsOfSquares.l2 : Nat → Int → Bool → Bool → Int → List Int → Int → Option (Bool)
 | 0, _, _, _, _, _, _ => none
 | k + 1, x5, x7, x14, x43, x44, x48 => if x48 ≤ x43 then ((impl_IsSumOfTwo.f k x48).bind fun bt173 => (if bt173.2 = true then ((laws_tHas.f k x44 x48).bind fun t175 => (if (bt173.1 != t175) = true then (some false) else (laws_FnSumsOfSquares.l2 k x5 x7 x14 x43 x44 (wrap64 (x48 + 1))))) else (some false))) else (laws_FnSumsOfSquares.l3 k x5 x7 x14 x44 (x44.length : Int) 0)
def laws_FnSumsOfSquares.l3 : Nat → Int → Bool → Bool → List Int → Int → Int → Option (Bool)
 | 0, _, _, _, _, _, _ => none
 | k + 1, x5, x7, x14, x439, x440, x441 => if x441 < x440 then (if 0 ≤ x441 then (if x441 < (x439.length : Int) then (if x441 > 6 then (laws_FnSumsOfSquares.j8 k x5 x7 x14 (rd x439 x441) x439 x440 x441 true) else (if x7 = true then (if x14 = true then (if x5 < 1 then (laws_FnSumsOfSquares.j8 k x5 x7 x14 (rd x439 x441) x439 x440 x441 true) else (if (rd x439 x441) = 0 then (none) else (laws_FnSumsOfSquares.j8 k x5 x7 x14 (rd x439 x441) x439 x440 x441 (decide (x5 > (wrap64 (Int.tdiv (100000 : Int) (rd x439 x441)))))))) else (laws_FnSumsOfSquares.j8 k x5 x7 x14 (rd x439 x441) x439 x440 x441 true)) else (if x5 < 1 then (laws_FnSumsOfSquares.j8 k x5 x7 x14 (rd x439 x441) x439 x440 x441 true) else (if (rd x439 x441) = 0 then (none) else (laws_FnSumsOfSquares.j8 k x5 x7 x14 (rd x439 x441) x439 x440 x441 (decide (x5 > (wrap64 (Int.tdiv (100000 : Int) (rd x439 x441)))))))))) else (none)) else (none)) else (some true)
def laws_FnSumsOfSquares.j8 : Nat → Int → Bool → Bool → Int → List Int → Int → Int → Bool → Option (Bool)
 | 0, _, _, _, _, _, _, _, _ => none
 | k + 1, x5, x7, x14, x52, x439, x440, x441, x464 => if x464 = true then (some true) else ((impl_IsSumOfTwo.f k (wrap64 (x52 * x5))).bind fun bt177 => (if x7 = true then (if bt177.2 = true then (if bt177.1 = true then (laws_FnSumsOfSquares.l3 k x5 x7 x14 x439 x440 (wrap64 (x441 + 1))) else (some false)) else (some false)) else (laws_FnSumsOfSquares.l3 k x5 x7 x14 x439 x440 (wrap64 (x441 + 1)))))
def laws_FnSumsOfSquares.l1 : Nat → List Int → Int → Bool → Bool → Bool → List Int → Int → List Int → Int → Int → Option (Bool)
 | 0, _, _, _, _, _, _, _, _, _, _ => none
 | k + 1, x1, x5, x7, x14, x18, x22, x40, x354, x355, x356 => if x356 < x355 then (if 0 ≤ x356 then (if x356 < (x354.length : Int) then (if (rd x354 x356) < 0 then (some false) else (if x356 > 0 then (if 0 ≤ (wrap64 (x356 - 1)) then (if (wrap64 (x356 - 1)) < (x22.length : Int) then (if (rd x22 (wrap64 (x356 - 1))) > (rd x354 x356) then (some false) else (laws_FnSumsOfSquares.l1 k x1 x5 x7 x14 x18 x22 (wrap64 (x40 + (wrap64 ((rd x354 x356) * (rd x354 x356))))) x354 x355 (wrap64 (x356 + 1)))) else (none)) else (none)) else (laws_FnSumsOfSquares.l1 k x1 x5 x7 x14 x18 x22 (wrap64 (x40 + (wrap64 ((rd x354 x356) * (rd x354 x356))))) x354 x355 (wrap64 (x356 + 1))))) else (none)) else (none)) else (if (x22.length : Int) = 4 then (if x40 = x5 then (if 0 < (x22.length : Int) then (if (x18 != ((rd x22 0) == 0)) = true then (some false) else (laws_FnSumsOfSquares.j5 k x1 x5 x7 x14)) else (none)) else (some false)) else (some false))
def laws_FnSumsOfSquares.l0 : Nat → List Int → Int → List (List Int) → Bool → Int → Bool → Bool → List Int → Bool → Int → Int → Int → List (List Int) → Int → Int → Option (Bool)
 | 0, _, _, _, _, _, _, _, _, _, _, _, _, _, _, _ => none
 | k + 1, x1, x5, x6, x7, x10, x14, x18, x22, x23, x26, x30, x34, x235, x236, x237 => if x237 < x236 then (if 0 ≤ x237 then (if x237 < (x235.length : Int) then (if ((rd_Ints x235 x237).length : Int) = 2 then (if 0 < ((rd_Ints x235 x237).length : Int) then (if (rd (rd_Ints x235 x237) 0) < 0 then (some false) else (if 1 < ((rd_Ints x235 x237).length : Int) then (if (rd (rd_Ints x235 x237) 0) > (rd (rd_Ints x235 x237) 1) then (some false) else (if (wrap64 ((wrap64 ((rd (rd_Ints x235 x237) 0) * (rd (rd_Ints x235 x237) 0))) + (wrap64 ((rd (rd_Ints x235 x237) 1) * (rd (rd_Ints x235 x237) 1))))) = x5 then (if x237 > 0 then (if 0 ≤ (wrap64 (x237 - 1)) then (if (wrap64 (x237 - 1)) < (x6.length : Int) then (if 0 < ((rd_Ints x6 (wrap64 (x237 - 1))).length : Int) then (if (rd (rd_Ints x6 (wrap64 (x237 - 1))) 0) ≥ (rd (rd_Ints x235 x237) 0) then (some false) else (if (rd (rd_Ints x235 x237) 0) = 0 then (laws_FnSumsOfSquares.l0 k x1 x5 x6 x7 x10 x14 x18 x22 x23 x26 x30 (wrap64 (x34 + 4)) x235 x236 (wrap64 (x237 + 1))) else (if (rd (rd_Ints x235 x237) 0) = (rd (rd_Ints x235 x237) 1) then (laws_FnSumsOfSquares.l0 k x1 x5 x6 x7 x10 x14 x18 x22 x23 x26 x30 (wrap64 (x34 + 4)) x235 x236 (wrap64 (x237 + 1))) else (laws_FnSumsOfSquares.l0 k x1 x5 x6 x7 x10 x14 x18 x22 x23 x26 x30 (wrap64 (x34 + 8)) x235 x236 (wrap64 (x237 + 1)))))) else (none)) else (none)) else (none)) else (if (rd (rd_Ints x235 x237) 0) = 0 then (laws_FnSumsOfSquares.l0 k x1 x5 x6 x7 x10 x14 x18 x22 x23 x26 x30 (wrap64 (x34 + 4)) x235 x236 (wrap64 (x237 + 1))) else (if (rd (rd_Ints x235 x237) 0) = (rd (rd_Ints x235 x237) 1) then (laws_FnSumsOfSquares.l0 k x1 x5 x6 x7 x10 x14 x18 x22 x23 x26 x30 (wrap64 (x34 + 4)) x235 x236 (wrap64 (x237 + 1))) else (laws_FnSumsOfSquares.l0 k x1 x5 x6 x7 x10 x14 x18 x22 x23 x26 x30 (wrap64 (x34 + 8)) x235 x236 (wrap64 (x237 + 1)))))) else (some false))) else (none))) else (none)) else (some false)) else (none)) else (none)) else (if x34 = x10 then (if (x14 != (decide ((x6.length : Int) > 0))) = true then (some false) else (if x14 = true then (if x18 = true then (laws_FnSumsOfSquares.j2 k x1 x5 x7 x10 x14 x18 x22 x23 x30 (decide (x26 < 8))) else (some false)) else (laws_FnSumsOfSquares.j2 k x1 x5 x7 x10 x14 x18 x22 x23 x30 (decide (x26 < 8))))) else (some false))
def laws_FnSumsOfSquares.j2 : Nat → List Int → Int → Bool → Int → Bool → Bool → List Int → Bool → Int → Bool → Option (Bool)
 | 0, _, _, _, _, _, _, _, _, _, _ => none
 | k + 1, x1, x5, x7, x10, x14, x18, x22, x23, x30, x333 => if x333 = true then (some false) else (if x5 > 1 then ((impl_CountInCircle.f k (wrap64 (x5 - 1))).bind fun bt158 => (if bt158.2 = true then (if (wrap64 (x30 - bt158.1)) = x10 then (laws_FnSumsOfSquares.j3 k x1 x5 x7 x14 x18 x22 x23) else (some false)) else (some false))) else (if x30 = 5 then (laws_FnSumsOfSquares.j3 k x1 x5 x7 x14 x18 x22 x23) else (some false)))
end
def laws_FnSumsOfSquares.f (k : Nat) (l0 : List Int) (l1 : List Int) : Option (Bool) := (laws_big.f l0 l1).bind fun t101 => (if t101 = true then (some true) else ((spec_DrawTwoSquares.f l0).bind fun t102 => ((impl_TwoSquares.f k t102).bind fun bt103 => ((spec_TwoSquares.f k t102).bind fun bt107 => ((impl_CountAsTwo.f k t102).bind fun bt111 => ((spec_CountAsTwo.f k t102).bind fun bt113 => ((impl_IsSumOfTwo.f k t102).bind fun bt115 => ((spec_IsSumOfTwo.f k t102).bind fun bt117 => ((impl_IsSumOfThree.f k t102).bind fun bt119 => ((spec_IsSumOfThree.f k t102).bind fun bt121 => ((impl_FourSquares.f k t102).bind fun bt123 => ((spec_FourSquares.f k t102).bind fun bt127 => ((impl_CountAsFour.f k t102).bind fun bt131 => ((spec_CountAsFour.f k t102).bind fun bt133 => ((impl_CountInCircle.f k t102).bind fun bt135 => ((spec_CountInCircle.f k t102).bind fun bt137 => (if (bt103.2 != bt107.2) = true then (some false) else ((laws_tRows.f k bt103.1 bt107.1).bind fun t139 => (if t139 = true then (if (bt111.2 != bt113.2) = true then (some false) else (if bt111.1 = bt113.1 then (if (bt115.2 != bt117.2) = true then (some false) else (if (bt115.1 != bt117.1) = true then (some false) else (if (bt119.2 != bt121.2) = true then (some false) else (if (bt119.1 != bt121.1) = true then (some false) else (if (bt123.2 != bt127.2) = true then (some false) else ((laws_tSame.f k bt123.1 bt127.1).bind fun t140 => (if t140 = true then (if (bt131.2 != bt133.2) = true then (some false) else (if bt131.1 = bt133.1 then (if (bt135.2 != bt137.2) = true then (some false) else (if bt135.1 = bt137.1 then (if (bt111.2 != bt103.2) = true then (some false) else (if (bt115.2 != bt103.2) = true then (some false) else (if (bt119.2 != bt103.2) = true then (some false) else (if bt103.2 = true then (if (bt123.2 != (decide (t102 ≤ 5000))) = true then (some false) else (if (bt131.2 != bt103.2) = true then (some false) else (laws_FnSumsOfSquares.j0 k l1 t102 bt103.1 bt103.2 bt111.1 bt115.1 bt119.1 bt123.1 bt123.2 bt131.1 bt135.1 (bt135.2 != bt103.2)))) else (if (bt123.2 != false) = true then (some false) else (if (bt131.2 != bt103.2) = true then (some false) else (laws_FnSumsOfSquares.j0 k l1 t102 bt103.1 bt103.2 bt111.1 bt115.1 bt119.1 bt123.1 bt123.2 bt131.1 bt135.1 (bt135.2 != bt103.2)))))))) else (some false))) else (some false))) else (some false)))))))) else (some false))) else (some false))))))))))))))))))))
set_option maxHeartbeats 8000000 in
set_option maxRecDepth 100000 in
theorem laws_FnSumsOfSquares.calls (k : Nat) (A0 : Option Addr) (c0 : Nat) (l0 : List Int) (A1 : Option Addr) (c1 : Nat) (l1 : List Int) (w : World) (hr0 : Kd.C (Kd.int .u8) w A0 l0.length l0) (hc0 : l0.length ≤ c0) (hr1 : Kd.C (Kd.int .u8) w A1 l1.length l1) (hc1 : l1.length ≤ c1) (h : laws_FnSumsOfSquares.f k l0 l1 = some true) :
  Calls Try.prog 3 #[.slice A0 l0.length c0, .slice A1 l1.length c1] w fun e w' => e = .returned (.bool true) ∧ Below w.heap.size w w' := by
 have HR0 := Aside0.mk hr0
 have HC0 := Aside0.mk hc0
 clear hr0 hc0
 have HR1 := Aside0.mk hr1
 have HC1 := Aside0.mk hc1
 clear hr1 hc1
 have HB := Aside0.mk (Below.refl w.heap.size w)
 have H : ((laws_big.f l0 l1).bind fun t101 => (if t101 = true then (some true) else ((spec_DrawTwoSquares.f l0).bind fun t102 => ((impl_TwoSquares.f k t102).bind fun bt103 => ((spec_TwoSquares.f k t102).bind fun bt107 => ((impl_CountAsTwo.f k t102).bind fun bt111 => ((spec_CountAsTwo.f k t102).bind fun bt113 => ((impl_IsSumOfTwo.f k t102).bind fun bt115 => ((spec_IsSumOfTwo.f k t102).bind fun bt117 => ((impl_IsSumOfThree.f k t102).bind fun bt119 => ((spec_IsSumOfThree.f k t102).bind fun bt121 => ((impl_FourSquares.f k t102).bind fun bt123 => ((spec_FourSquares.f k t102).bind fun bt127 => ((impl_CountAsFour.f k t102).bind fun bt131 => ((spec_CountAsFour.f k t102).bind fun bt133 => ((impl_CountInCircle.f k t102).bind fun bt135 => ((spec_CountInCircle.f k t102).bind fun bt137 => (if (bt103.2 != bt107.2) = true then (some false) else ((laws_tRows.f k bt103.1 bt107.1).bind fun t139 => (if t139 = true then (if (bt111.2 != bt113.2) = true then (some false) else (if bt111.1 = bt113.1 then (if (bt115.2 != bt117.2) = true then (some false) else (if (bt115.1 != bt117.1) = true then (some false) else (if (bt119.2 != bt121.2) = true then (some false) else (if (bt119.1 != bt121.1) = true then (some false) else (if (bt123.2 != bt127.2) = true then (some false) else ((laws_tSame.f k bt123.1 bt127.1).bind fun t140 => (if t140 = true then (if (bt131.2 != bt133.2) = true then (some false) else (if bt131.1 = bt133.1 then (if (bt135.2 != bt137.2) = true then (some false) else (if bt135.1 = bt137.1 then (if (bt111.2 != bt103.2) = true then (some false) else (if (bt115.2 != bt103.2) = true then (some false) else (if (bt119.2 != bt103.2) = true then (some false) else (if bt103.2 = true then (if (bt123.2 != (decide (t102 ≤ 5000))) = true then (some false) else (if (bt131.2 != bt103.2) = true then (some false) else (laws_FnSumsOfSquares.j0 k l1 t102 bt103.1 bt103.2 bt111.1 bt115.1 bt119.1 bt123.1 bt123.2 bt131.1 bt135.1 (bt135.2 != bt103.2)))) else (if (bt123.2 != false) = true then (some false) else (if (bt131.2 != bt103.2) = true then (some false) else (laws_FnSumsOfSquares.j0 k l1 t102 bt103.1 bt103.2 bt111.1 bt115.1 bt119.1 bt123.1 bt123.2 bt131.1 bt135.1 (bt135.2 != bt103.2)))))))) else (some false))) else (some false))) else (some false)))))))) else (some false))) else (some false))))))))))))))))))))) = some true := h
 clear h
 obtain ⟨t101, A3, H⟩ := obnd_ H
 (try dsimp only at H)
 by_cases c4 : t101 = true
 ·subst c4
  have H1 : (some true) = some true := rfl
  clear H
  have H := H1
  clear H1
  clear H
  go_enter Try.func3, Try.ntmps3
  go_wp2_with (first | (go_at_call 4; (with_reducible refine (laws_big.calls _ _ l0 _ _ l1 true _ ?side1 ?side2 ?side3 ?side4 A3.out).mono ?_); (case side1 => exact k15_); (case side2 => exact HC0.out); (case side3 => exact k16_); (case side4 => exact HC1.out); rintro e w' ⟨rfl, ⟨nd, rfl⟩⟩; (try first | exact ⟨rfl, _, World.drewN_drewN _ _ _⟩ | exact ⟨rfl, _, Eq.trans (World.drewN_drewN _ _ _) (congrArg (World.drewN _) (Nat.add_assoc _ _ _))⟩)))
  repeat (go_quiet (first | (go_at_call 4; (with_reducible refine (laws_big.calls _ _ l0 _ _ l1 true _ ?side1 ?side2 ?side3 ?side4 A3.out).mono ?_); (case side1 => exact k15_); (case side2 => exact HC0.out); (case side3 => exact k16_); (case side4 => exact HC1.out); rintro e w' ⟨rfl, ⟨nd, rfl⟩⟩; (try first | exact ⟨rfl, _, World.drewN_drewN _ _ _⟩ | exact ⟨rfl, _, Eq.trans (World.drewN_drewN _ _ _) (congrArg (World.drewN _) (Nat.add_assoc _ _ _))⟩))); try go_wp2_with (first | (go_at_call 4; (with_reducible refine (laws_big.calls _ _ l0 _ _ l1 true _ ?side1 ?side2 ?side3 ?side4 A3.out).mono ?_); (case side1 => exact k15_); (case side2 => exact HC0.out); (case side3 => exact k16_); (case side4 => exact HC1.out); rintro e w' ⟨rfl, ⟨nd, rfl⟩⟩; (try first | exact ⟨rfl, _, World.drewN_drewN _ _ _⟩ | exact ⟨rfl, _, Eq.trans (World.drewN_drewN _ _ _) (congrArg (World.drewN _) (Nat.add_assoc _ _ _))⟩))))
  go_ret
  exact ⟨k22_, k23_⟩
 ·replace c4 := Bool.eq_false_iff.mpr c4
  subst c4
  rw [if_neg (show ¬ (false = true) by decide)] at H
  obtain ⟨t102, A5, H⟩ := obnd_ H
  (try dsimp only at H)
  obtain ⟨⟨t103, t104⟩, A6, H⟩ := obnd_ H
  (try dsimp only at H)
  obtain ⟨⟨t107, t108⟩, A7, H⟩ := obnd_ H
  (try dsimp only at H)
  obtain ⟨⟨t111, t112⟩, A8, H⟩ := obnd_ H
  (try dsimp only at H)
  obtain ⟨⟨t113, t114⟩, A9, H⟩ := obnd_ H
  (try dsimp only at H)
  obtain ⟨⟨t115, t116⟩, A10, H⟩ := obnd_ H
  (try dsimp only at H)
  obtain ⟨⟨t117, t118⟩, A11, H⟩ := obnd_ H
  (try dsimp only at H)
  obtain ⟨⟨t119, t120⟩, A12, H⟩ := obnd_ H
  (try dsimp only at H)
  obtain ⟨⟨t121, t122⟩, A13, H⟩ := obnd_ H
  (try dsimp only at H)
  obtain ⟨⟨t123, t124⟩, A14, H⟩ := obnd_ H
  (try dsimp only at H)
  obtain ⟨⟨t127, t128⟩, A15, H⟩ := obnd_ H
  (try dsimp only at H)
  obtain ⟨⟨t131, t132⟩, A16, H⟩ := obnd_ H
  (try dsimp only at H)
  obtain ⟨⟨t133, t134⟩, A17, H⟩ := obnd_ H
  (try dsimp only at H)
  obtain ⟨⟨t135, t136⟩, A18, H⟩ := obnd_ H
  (try dsimp only at H)
  obtain ⟨⟨t137, t138⟩, A19, H⟩ := obnd_ H
  (try dsimp only at H)
  have HC20 := Aside0.mk H
  clear H
  go_enter Try.func3, Try.ntmps3
  go_upto_region 18 with (first | (go_at_call 4; (with_reducible refine (laws_big.calls _ _ l0 _ _ l1 false _ ?side1 ?side2 ?side3 ?side4 A3.out).mono ?_); (case side1 => exact k15_); (case side2 => exact HC0.out); (case side3 => exact k16_); (case side4 => exact HC1.out); rintro e w' ⟨rfl, ⟨nd, rfl⟩⟩; (try first | exact ⟨rfl, _, World.drewN_drewN _ _ _⟩ | exact ⟨rfl, _, Eq.trans (World.drewN_drewN _ _ _) (congrArg (World.drewN _) (Nat.add_assoc _ _ _))⟩)) | (go_at_call 5; (with_reducible refine (spec_DrawTwoSquares.calls _ _ l0 t102 _ ?side1 ?side2 A5.out).mono ?_); (case side1 => exact k15_); (case side2 => exact HC0.out); rintro e w21 ⟨rfl, hb⟩; replace HB := HB.mw hb; (try clear hb)) | (go_at_call 6; (with_reducible refine (impl_TwoSquares.calls k t102 t103 t104 _ A6.out).mono ?_); rintro e w22 ⟨v105, rfl, ho0, hb⟩; have HO106 := Aside0.mk (Kd.S_lower ho0 (below_size k23_)); replace HB := HB.mw hb; (try clear hb ho0)) | (go_at_call 7; (with_reducible refine (spec_TwoSquares.calls k t102 t107 t108 _ A7.out).mono ?_); rintro e w23 ⟨v109, rfl, ho0, hb⟩; have HO110 := Aside0.mk (Kd.S_lower (Kd.S_new' ho0 (Kd.S_lt k25_)) (below_size k23_)); replace HO106 := Aside0.mk (Kd.S_elder' k25_ (Kd.S_base ho0) hb); replace HB := HB.mw hb; (try clear hb ho0)) | (go_at_call 8; (with_reducible refine (impl_CountAsTwo.calls k t102 t111 t112 _ A8.out).mono ?_); rintro e w24 ⟨rfl, hb⟩; replace HO106 := HO106.mw hb; replace HO110 := HO110.mw hb; replace HB := HB.mw hb; (try clear hb)) | (go_at_call 9; (with_reducible refine (spec_CountAsTwo.calls k t102 t113 t114 _ A9.out).mono ?_); rintro e w' ⟨rfl, ⟨nd, rfl⟩⟩; (try first | exact ⟨rfl, _, World.drewN_drewN _ _ _⟩ | exact ⟨rfl, _, Eq.trans (World.drewN_drewN _ _ _) (congrArg (World.drewN _) (Nat.add_assoc _ _ _))⟩)) | (go_at_call 10; (with_reducible refine (impl_IsSumOfTwo.calls k t102 t115 t116 _ A10.out).mono ?_); rintro e w25 ⟨rfl, hb⟩; replace HO106 := HO106.mw hb; replace HO110 := HO110.mw hb; replace HB := HB.mw hb; (try clear hb)) | (go_at_call 11; (with_reducible refine (spec_IsSumOfTwo.calls k t102 t117 t118 _ A11.out).mono ?_); rintro e w' ⟨rfl, ⟨nd, rfl⟩⟩; (try first | exact ⟨rfl, _, World.drewN_drewN _ _ _⟩ | exact ⟨rfl, _, Eq.trans (World.drewN_drewN _ _ _) (congrArg (World.drewN _) (Nat.add_assoc _ _ _))⟩)) | (go_at_call 12; (with_reducible refine (impl_IsSumOfThree.calls k t102 t119 t120 _ A12.out).mono ?_); rintro e w' ⟨rfl, ⟨nd, rfl⟩⟩; (try first | exact ⟨rfl, _, World.drewN_drewN _ _ _⟩ | exact ⟨rfl, _, Eq.trans (World.drewN_drewN _ _ _) (congrArg (World.drewN _) (Nat.add_assoc _ _ _))⟩)) | (go_at_call 13; (with_reducible refine (spec_IsSumOfThree.calls k t102 t121 t122 _ A13.out).mono ?_); rintro e w' ⟨rfl, ⟨nd, rfl⟩⟩; (try first | exact ⟨rfl, _, World.drewN_drewN _ _ _⟩ | exact ⟨rfl, _, Eq.trans (World.drewN_drewN _ _ _) (congrArg (World.drewN _) (Nat.add_assoc _ _ _))⟩)) | (go_at_call 14; (with_reducible refine (impl_FourSquares.calls k t102 t123 t124 _ A14.out).mono ?_); rintro e w26 ⟨v125, rfl, ho0, hb⟩; replace HO106 := Aside0.mk (Kd.S_elder' k25_ (Kd.R_base ho0) hb); replace HO110 := Aside0.mk (Kd.S_elder' k26_ (Kd.R_base ho0) hb); have HO126 := Aside0.mk (Kd.R_lower ho0 (below_size k23_)); replace HB := HB.mw hb; (try clear hb ho0)) | (go_at_call 15; (with_reducible refine (spec_FourSquares.calls k t102 t127 t128 _ A15.out).mono ?_); rintro e w27 ⟨v129, rfl, ho0, hb⟩; replace HO106 := Aside0.mk (Kd.S_elder' k25_ (Kd.R_base ho0) hb); replace HO110 := Aside0.mk (Kd.S_elder' k26_ (Kd.R_base ho0) hb); have HO130 := Aside0.mk (Kd.R_lower (Kd.R_new' ho0 (Kd.R_lt (by apply_rules only [HO126.out, Kd.R_alloc, Kd.R_drewN, Kd.R_drew]))) (below_size k23_)); replace HO126 := Aside0.mk (Kd.R_elder' (by apply_rules only [HO126.out, Kd.R_alloc, Kd.R_drewN, Kd.R_drew]) (Kd.R_base ho0) hb); replace HB := HB.mw hb; (try clear hb ho0)) | (go_at_call 16; (with_reducible refine (impl_CountAsFour.calls k t102 t131 t132 _ A16.out).mono ?_); rintro e w28 ⟨rfl, hb⟩; replace HO106 := HO106.mw hb; replace HO110 := HO110.mw hb; replace HO126 := HO126.mw hb; replace HO130 := HO130.mw hb; replace HB := HB.mw hb; (try clear hb)) | (go_at_call 17; (with_reducible refine (spec_CountAsFour.calls k t102 t133 t134 _ A17.out).mono ?_); rintro e w' ⟨rfl, ⟨nd, rfl⟩⟩; (try first | exact ⟨rfl, _, World.drewN_drewN _ _ _⟩ | exact ⟨rfl, _, Eq.trans (World.drewN_drewN _ _ _) (congrArg (World.drewN _) (Nat.add_assoc _ _ _))⟩)) | (go_at_call 18; (with_reducible refine (impl_CountInCircle.calls k t102 t135 t136 _ A18.out).mono ?_); rintro e w' ⟨rfl, ⟨nd, rfl⟩⟩; (try first | exact ⟨rfl, _, World.drewN_drewN _ _ _⟩ | exact ⟨rfl, _, Eq.trans (World.drewN_drewN _ _ _) (congrArg (World.drewN _) (Nat.add_assoc _ _ _))⟩)) | (go_at_call 19; (with_reducible refine (spec_CountInCircle.calls k t102 t137 t138 _ A19.out).mono ?_); rintro e w' ⟨rfl, ⟨nd, rfl⟩⟩; (try first | exact ⟨rfl, _, World.drewN_drewN _ _ _⟩ | exact ⟨rfl, _, Eq.trans (World.drewN_drewN _ _ _) (congrArg (World.drewN _) (Nat.add_assoc _ _ _))⟩)))
  repeat (go_quiet (first | (go_at_call 4; (with_reducible refine (laws_big.calls _ _ l0 _ _ l1 false _ ?side1 ?side2 ?side3 ?side4 A3.out).mono ?_); (case side1 => exact k15_); (case side2 => exact HC0.out); (case side3 => exact k16_); (case side4 => exact HC1.out); rintro e w' ⟨rfl, ⟨nd, rfl⟩⟩; (try first | exact ⟨rfl, _, World.drewN_drewN _ _ _⟩ | exact ⟨rfl, _, Eq.trans (World.drewN_drewN _ _ _) (congrArg (World.drewN _) (Nat.add_assoc _ _ _))⟩)) | (go_at_call 5; (with_reducible refine (spec_DrawTwoSquares.calls _ _ l0 t102 _ ?side1 ?side2 A5.out).mono ?_); (case side1 => exact k15_); (case side2 => exact HC0.out); rintro e w21 ⟨rfl, hb⟩; replace HB := HB.mw hb; (try clear hb)) | (go_at_call 6; (with_reducible refine (impl_TwoSquares.calls k t102 t103 t104 _ A6.out).mono ?_); rintro e w22 ⟨v105, rfl, ho0, hb⟩; have HO106 := Aside0.mk (Kd.S_lower ho0 (below_size k23_)); replace HB := HB.mw hb; (try clear hb ho0)) | (go_at_call 7; (with_reducible refine (spec_TwoSquares.calls k t102 t107 t108 _ A7.out).mono ?_); rintro e w23 ⟨v109, rfl, ho0, hb⟩; have HO110 := Aside0.mk (Kd.S_lower (Kd.S_new' ho0 (Kd.S_lt k25_)) (below_size k23_)); replace HO106 := Aside0.mk (Kd.S_elder' k25_ (Kd.S_base ho0) hb); replace HB := HB.mw hb; (try clear hb ho0)) | (go_at_call 8; (with_reducible refine (impl_CountAsTwo.calls k t102 t111 t112 _ A8.out).mono ?_); rintro e w24 ⟨rfl, hb⟩; replace HO106 := HO106.mw hb; replace HO110 := HO110.mw hb; replace HB := HB.mw hb; (try clear hb)) | (go_at_call 9; (with_reducible refine (spec_CountAsTwo.calls k t102 t113 t114 _ A9.out).mono ?_); rintro e w' ⟨rfl, ⟨nd, rfl⟩⟩; (try first | exact ⟨rfl, _, World.drewN_drewN _ _ _⟩ | exact ⟨rfl, _, Eq.trans (World.drewN_drewN _ _ _) (congrArg (World.drewN _) (Nat.add_assoc _ _ _))⟩)) | (go_at_call 10; (with_reducible refine (impl_IsSumOfTwo.calls k t102 t115 t116 _ A10.out).mono ?_); rintro e w25 ⟨rfl, hb⟩; replace HO106 := HO106.mw hb; replace HO110 := HO110.mw hb; replace HB := HB.mw hb; (try clear hb)) | (go_at_call 11; (with_reducible refine (spec_IsSumOfTwo.calls k t102 t117 t118 _ A11.out).mono ?_); rintro e w' ⟨rfl, ⟨nd, rfl⟩⟩; (try first | exact ⟨rfl, _, World.drewN_drewN _ _ _⟩ | exact ⟨rfl, _, Eq.trans (World.drewN_drewN _ _ _) (congrArg (World.drewN _) (Nat.add_assoc _ _ _))⟩)) | (go_at_call 12; (with_reducible refine (impl_IsSumOfThree.calls k t102 t119 t120 _ A12.out).mono ?_); rintro e w' ⟨rfl, ⟨nd, rfl⟩⟩; (try first | exact ⟨rfl, _, World.drewN_drewN _ _ _⟩ | exact ⟨rfl, _, Eq.trans (World.drewN_drewN _ _ _) (congrArg (World.drewN _) (Nat.add_assoc _ _ _))⟩)) | (go_at_call 13; (with_reducible refine (spec_IsSumOfThree.calls k t102 t121 t122 _ A13.out).mono ?_); rintro e w' ⟨rfl, ⟨nd, rfl⟩⟩; (try first | exact ⟨rfl, _, World.drewN_drewN _ _ _⟩ | exact ⟨rfl, _, Eq.trans (World.drewN_drewN _ _ _) (congrArg (World.drewN _) (Nat.add_assoc _ _ _))⟩)) | (go_at_call 14; (with_reducible refine (impl_FourSquares.calls k t102 t123 t124 _ A14.out).mono ?_); rintro e w26 ⟨v125, rfl, ho0, hb⟩; replace HO106 := Aside0.mk (Kd.S_elder' k25_ (Kd.R_base ho0) hb); replace HO110 := Aside0.mk (Kd.S_elder' k26_ (Kd.R_base ho0) hb); have HO126 := Aside0.mk (Kd.R_lower ho0 (below_size k23_)); replace HB := HB.mw hb; (try clear hb ho0)) | (go_at_call 15; (with_reducible refine (spec_FourSquares.calls k t102 t127 t128 _ A15.out).mono ?_); rintro e w27 ⟨v129, rfl, ho0, hb⟩; replace HO106 := Aside0.mk (Kd.S_elder' k25_ (Kd.R_base ho0) hb); replace HO110 := Aside0.mk (Kd.S_elder' k26_ (Kd.R_base ho0) hb); have HO130 := Aside0.mk (Kd.R_lower (Kd.R_new' ho0 (Kd.R_lt (by apply_rules only [HO126.out, Kd.R_alloc, Kd.R_drewN, Kd.R_drew]))) (below_size k23_)); replace HO126 := Aside0.mk (Kd.R_elder' (by apply_rules only [HO126.out, Kd.R_alloc, Kd.R_drewN, Kd.R_drew]) (Kd.R_base ho0) hb); replace HB := HB.mw hb; (try clear hb ho0)) | (go_at_call 16; (with_reducible refine (impl_CountAsFour.calls k t102 t131 t132 _ A16.out).mono ?_); rintro e w28 ⟨rfl, hb⟩; replace HO106 := HO106.mw hb; replace HO110 := HO110.mw hb; replace HO126 := HO126.mw hb; replace HO130 := HO130.mw hb; replace HB := HB.mw hb; (try clear hb)) | (go_at_call 17; (with_reducible refine (spec_CountAsFour.calls k t102 t133 t134 _ A17.out).mono ?_); rintro e w' ⟨rfl, ⟨nd, rfl⟩⟩; (try first | exact ⟨rfl, _, World.drewN_drewN _ _ _⟩ | exact ⟨rfl, _, Eq.trans (World.drewN_drewN _ _ _) (congrArg (World.drewN _) (Nat.add_assoc _ _ _))⟩)) | (go_at_call 18; (with_reducible refine (impl_CountInCircle.calls k t102 t135 t136 _ A18.out).mono ?_); rintro e w' ⟨rfl, ⟨nd, rfl⟩⟩; (try first | exact ⟨rfl, _, World.drewN_drewN _ _ _⟩ | exact ⟨rfl, _, Eq.trans (World.drewN_drewN _ _ _) (congrArg (World.drewN _) (Nat.add_assoc _ _ _))⟩)) | (go_at_call 19; (with_reducible refine (spec_CountInCircle.calls k t102 t137 t138 _ A19.out).mono ?_); rintro e w' ⟨rfl, ⟨nd, rfl⟩⟩; (try first | exact ⟨rfl, _, World.drewN_drewN _ _ _⟩ | exact ⟨rfl, _, Eq.trans (World.drewN_drewN _ _ _) (congrArg (World.drewN _) (Nat.add_assoc _ _ _))⟩))); go_upto_region 18 with (first | (go_at_call 4; (with_reducible refine (laws_big.calls _ _ l0 _ _ l1 false _ ?side1 ?side2 ?side3 ?side4 A3.out).mono ?_); (case side1 => exact k15_); (case side2 => exact HC0.out); (case side3 => exact k16_); (case side4 => exact HC1.out); rintro e w' ⟨rfl, ⟨nd, rfl⟩⟩; (try first | exact ⟨rfl, _, World.drewN_drewN _ _ _⟩ | exact ⟨rfl, _, Eq.trans (World.drewN_drewN _ _ _) (congrArg (World.drewN _) (Nat.add_assoc _ _ _))⟩)) | (go_at_call 5; (with_reducible refine (spec_DrawTwoSquares.calls _ _ l0 t102 _ ?side1 ?side2 A5.out).mono ?_); (case side1 => exact k15_); (case side2 => exact HC0.out); rintro e w21 ⟨rfl, hb⟩; replace HB := HB.mw hb; (try clear hb)) | (go_at_call 6; (with_reducible refine (impl_TwoSquares.calls k t102 t103 t104 _ A6.out).mono ?_); rintro e w22 ⟨v105, rfl, ho0, hb⟩; have HO106 := Aside0.mk (Kd.S_lower ho0 (below_size k23_)); replace HB := HB.mw hb; (try clear hb ho0)) | (go_at_call 7; (with_reducible refine (spec_TwoSquares.calls k t102 t107 t108 _ A7.out).mono ?_); rintro e w23 ⟨v109, rfl, ho0, hb⟩; have HO110 := Aside0.mk (Kd.S_lower (Kd.S_new' ho0 (Kd.S_lt k25_)) (below_size k23_)); replace HO106 := Aside0.mk (Kd.S_elder' k25_ (Kd.S_base ho0) hb); replace HB := HB.mw hb; (try clear hb ho0)) | (go_at_call 8; (with_reducible refine (impl_CountAsTwo.calls k t102 t111 t112 _ A8.out).mono ?_); rintro e w24 ⟨rfl, hb⟩; replace HO106 := HO106.mw hb; replace HO110 := HO110.mw hb; replace HB := HB.mw hb; (try clear hb)) | (go_at_call 9; (with_reducible refine (spec_CountAsTwo.calls k t102 t113 t114 _ A9.out).mono ?_); rintro e w' ⟨rfl, ⟨nd, rfl⟩⟩; (try first | exact ⟨rfl, _, World.drewN_drewN _ _ _⟩ | exact ⟨rfl, _, Eq.trans (World.drewN_drewN _ _ _) (congrArg (World.drewN _) (Nat.add_assoc _ _ _))⟩)) | (go_at_call 10; (with_reducible refine (impl_IsSumOfTwo.calls k t102 t115 t116 _ A10.out).mono ?_); rintro e w25 ⟨rfl, hb⟩; replace HO106 := HO106.mw hb; replace HO110 := HO110.mw hb; replace HB := HB.mw hb; (try clear hb)) | (go_at_call 11; (with_reducible refine (spec_IsSumOfTwo.calls k t102 t117 t118 _ A11.out).mono ?_); rintro e w' ⟨rfl, ⟨nd, rfl⟩⟩; (try first | exact ⟨rfl, _, World.drewN_drewN _ _ _⟩ | exact ⟨rfl, _, Eq.trans (World.drewN_drewN _ _ _) (congrArg (World.drewN _) (Nat.add_assoc _ _ _))⟩)) | (go_at_call 12; (with_reducible refine (impl_IsSumOfThree.calls k t102 t119 t120 _ A12.out).mono ?_); rintro e w' ⟨rfl, ⟨nd, rfl⟩⟩; (try first | exact ⟨rfl, _, World.drewN_drewN _ _ _⟩ | exact ⟨rfl, _, Eq.trans (World.drewN_drewN _ _ _) (congrArg (World.drewN _) (Nat.add_assoc _ _ _))⟩)) | (go_at_call 13; (with_reducible refine (spec_IsSumOfThree.calls k t102 t121 t122 _ A13.out).mono ?_); rintro e w' ⟨rfl, ⟨nd, rfl⟩⟩; (try first | exact ⟨rfl, _, World.drewN_drewN _ _ _⟩ | exact ⟨rfl, _, Eq.trans (World.drewN_drewN _ _ _) (congrArg (World.drewN _) (Nat.add_assoc _ _ _))⟩)) | (go_at_call 14; (with_reducible refine (impl_FourSquares.calls k t102 t123 t124 _ A14.out).mono ?_); rintro e w26 ⟨v125, rfl, ho0, hb⟩; replace HO106 := Aside0.mk (Kd.S_elder' k25_ (Kd.R_base ho0) hb); replace HO110 := Aside0.mk (Kd.S_elder' k26_ (Kd.R_base ho0) hb); have HO126 := Aside0.mk (Kd.R_lower ho0 (below_size k23_)); replace HB := HB.mw hb; (try clear hb ho0)) | (go_at_call 15; (with_reducible refine (spec_FourSquares.calls k t102 t127 t128 _ A15.out).mono ?_); rintro e w27 ⟨v129, rfl, ho0, hb⟩; replace HO106 := Aside0.mk (Kd.S_elder' k25_ (Kd.R_base ho0) hb); replace HO110 := Aside0.mk (Kd.S_elder' k26_ (Kd.R_base ho0) hb); have HO130 := Aside0.mk (Kd.R_lower (Kd.R_new' ho0 (Kd.R_lt (by apply_rules only [HO126.out, Kd.R_alloc, Kd.R_drewN, Kd.R_drew]))) (below_size k23_)); replace HO126 := Aside0.mk (Kd.R_elder' (by apply_rules only [HO126.out, Kd.R_alloc, Kd.R_drewN, Kd.R_drew]) (Kd.R_base ho0) hb); replace HB := HB.mw hb; (try clear hb ho0)) | (go_at_call 16; (with_reducible refine (impl_CountAsFour.calls k t102 t131 t132 _ A16.out).mono ?_); rintro e w28 ⟨rfl, hb⟩; replace HO106 := HO106.mw hb; replace HO110 := HO110.mw hb; replace HO126 := HO126.mw hb; replace HO130 := HO130.mw hb; replace HB := HB.mw hb; (try clear hb)) | (go_at_call 17; (with_reducible refine (spec_CountAsFour.calls k t102 t133 t134 _ A17.out).mono ?_); rintro e w' ⟨rfl, ⟨nd, rfl⟩⟩; (try first | exact ⟨rfl, _, World.drewN_drewN _ _ _⟩ | exact ⟨rfl, _, Eq.trans (World.drewN_drewN _ _ _) (congrArg (World.drewN _) (Nat.add_assoc _ _ _))⟩)) | (go_at_call 18; (with_reducible refine (impl_CountInCircle.calls k t102 t135 t136 _ A18.out).mono ?_); rintro e w' ⟨rfl, ⟨nd, rfl⟩⟩; (try first | exact ⟨rfl, _, World.drewN_drewN _ _ _⟩ | exact ⟨rfl, _, Eq.trans (World.drewN_drewN _ _ _) (congrArg (World.drewN _) (Nat.add_assoc _ _ _))⟩)) | (go_at_call 19; (with_reducible refine (spec_CountInCircle.calls k t102 t137 t138 _ A19.out).mono ?_); rintro e w' ⟨rfl, ⟨nd, rfl⟩⟩; (try first | exact ⟨rfl, _, World.drewN_drewN _ _ _⟩ | exact ⟨rfl, _, Eq.trans (World.drewN_drewN _ _ _) (congrArg (World.drewN _) (Nat.add_assoc _ _ _))⟩))))
  (try simp only [Act.put, List.setIfInBounds_toArray, List.set_cons_zero, List.set_cons_succ])
  go_cut [233] from 1 to 0 (fun v233 wc => ∃ (kq : Nat) (x233_19 : Bool), v233 = .bool x233_19 ∧ Aside0 (laws_FnSumsOfSquares.j0 kq l1 t102 t103 t104 t111 t115 t119 t123 t124 t131 t135 x233_19 = some true) ∧ Aside0 (kq ≤ k) ∧ Aside0 (Kd.S (Kd.slice 3 (Kd.int .i64)) 32 wc w.heap.size (fun k_ => some k_ ≠ (v125 : Value).ownBlock) v105 t103) ∧ Aside0 (Kd.R (Kd.int .i64) 3 wc w.heap.size (fun _ => True) v125 t123) ∧ Aside0 (Below w.heap.size w wc))
  case first =>
   as_aux_lemma =>
    have H := HC20.out
    clear HC20
    by_cases c29 : (t104 != t108) = true
    ·rw [if_pos c29] at H
     have c29b0 : (t104 != t108) = true := c29
     (try (have c29b1 : decide (t104 = t108) = false := by simpa using c29))
     (try (have c29b2 : (t104 == t108) = false := by simpa using c29))
     (try (have c29b3 : ¬ (t104 = t108) := by simpa using c29))
     clear c29
     (first | rw [c29b0] | rw [c29b1] | (simp only [i64_w, i32_w]; rw [c29b0]) | skip)
     exact absurd H (by simp)
    ·rw [if_neg c29] at H
     have c29b0 : (t104 != t108) = false := by simpa using c29
     (try (have c29b1 : decide (t104 = t108) = true := by simpa using c29))
     (try (have c29b2 : (t104 == t108) = true := by simpa using c29))
     clear c29
     (first | rw [c29b0] | rw [c29b1] | (simp only [i64_w, i32_w]; rw [c29b0]) | skip)
     obtain ⟨t139, A30, H⟩ := obnd_ H
     (try dsimp only at H)
     by_cases c31 : t139 = true
     ·subst c31
      rw [if_pos rfl] at H
      by_cases c32 : (t112 != t114) = true
      ·rw [if_pos c32] at H
       have c32b0 : (t112 != t114) = true := c32
       (try (have c32b1 : decide (t112 = t114) = false := by simpa using c32))
       (try (have c32b2 : (t112 == t114) = false := by simpa using c32))
       (try (have c32b3 : ¬ (t112 = t114) := by simpa using c32))
       clear c32
       exact absurd H (by simp)
      ·rw [if_neg c32] at H
       have c32b0 : (t112 != t114) = false := by simpa using c32
       (try (have c32b1 : decide (t112 = t114) = true := by simpa using c32))
       (try (have c32b2 : (t112 == t114) = true := by simpa using c32))
       clear c32
       by_cases c33 : t111 = t113
       ·rw [if_pos c33] at H
        have c33b0 : (t111 == t113) = true := beq_iff_eq.mpr c33
        have c33b1 : (t111 != t113) = false := bne_eq_false_iff_eq.mpr c33
        clear c33
        by_cases c34 : (t116 != t118) = true
        ·rw [if_pos c34] at H
         have c34b0 : (t116 != t118) = true := c34
         (try (have c34b1 : decide (t116 = t118) = false := by simpa using c34))
         (try (have c34b2 : (t116 == t118) = false := by simpa using c34))
         (try (have c34b3 : ¬ (t116 = t118) := by simpa using c34))
         clear c34
         exact absurd H (by simp)
        ·rw [if_neg c34] at H
         have c34b0 : (t116 != t118) = false := by simpa using c34
         (try (have c34b1 : decide (t116 = t118) = true := by simpa using c34))
         (try (have c34b2 : (t116 == t118) = true := by simpa using c34))
         clear c34
         by_cases c35 : (t115 != t117) = true
         ·rw [if_pos c35] at H
          have c35b0 : (t115 != t117) = true := c35
          (try (have c35b1 : decide (t115 = t117) = false := by simpa using c35))
          (try (have c35b2 : (t115 == t117) = false := by simpa using c35))
          (try (have c35b3 : ¬ (t115 = t117) := by simpa using c35))
          clear c35
          exact absurd H (by simp)
         ·rw [if_neg c35] at H
          have c35b0 : (t115 != t117) = false := by simpa using c35
          (try (have c35b1 : decide (t115 = t117) = true := by simpa using c35))
          (try (have c35b2 : (t115 == t117) = true := by simpa using c35))
          clear c35
          by_cases c36 : (t120 != t122) = true
          ·rw [if_pos c36] at H
           have c36b0 : (t120 != t122) = true := c36
           (try (have c36b1 : decide (t120 = t122) = false := by simpa using c36))
           (try (have c36b2 : (t120 == t122) = false := by simpa using c36))
           (try (have c36b3 : ¬ (t120 = t122) := by simpa using c36))
           clear c36
           exact absurd H (by simp)
          ·rw [if_neg c36] at H
           have c36b0 : (t120 != t122) = false := by simpa using c36
           (try (have c36b1 : decide (t120 = t122) = true := by simpa using c36))
           (try (have c36b2 : (t120 == t122) = true := by simpa using c36))
           clear c36
           by_cases c37 : (t119 != t121) = true
           ·rw [if_pos c37] at H
            have c37b0 : (t119 != t121) = true := c37
            (try (have c37b1 : decide (t119 = t121) = false := by simpa using c37))
            (try (have c37b2 : (t119 == t121) = false := by simpa using c37))
            (try (have c37b3 : ¬ (t119 = t121) := by simpa using c37))
            clear c37
            exact absurd H (by simp)
           ·rw [if_neg c37] at H
            have c37b0 : (t119 != t121) = false := by simpa using c37
            (try (have c37b1 : decide (t119 = t121) = true := by simpa using c37))
            (try (have c37b2 : (t119 == t121) = true := by simpa using c37))
            clear c37
            by_cases c38 : (t124 != t128) = true
            ·rw [if_pos c38] at H
             have c38b0 : (t124 != t128) = true := c38
             (try (have c38b1 : decide (t124 = t128) = false := by simpa using c38))
             (try (have c38b2 : (t124 == t128) = false := by simpa using c38))
             (try (have c38b3 : ¬ (t124 = t128) := by simpa using c38))
             clear c38
             exact absurd H (by simp)
            ·rw [if_neg c38] at H
             have c38b0 : (t124 != t128) = false := by simpa using c38
             (try (have c38b1 : decide (t124 = t128) = true := by simpa using c38))
             (try (have c38b2 : (t124 == t128) = true := by simpa using c38))
             clear c38
             obtain ⟨t140, A39, H⟩ := obnd_ H
             (try dsimp only at H)
             by_cases c40 : t140 = true
             ·subst c40
              rw [if_pos rfl] at H
              by_cases c41 : (t132 != t134) = true
              ·rw [if_pos c41] at H
               have c41b0 : (t132 != t134) = true := c41
               (try (have c41b1 : decide (t132 = t134) = false := by simpa using c41))
               (try (have c41b2 : (t132 == t134) = false := by simpa using c41))
               (try (have c41b3 : ¬ (t132 = t134) := by simpa using c41))
               clear c41
               exact absurd H (by simp)
              ·rw [if_neg c41] at H
               have c41b0 : (t132 != t134) = false := by simpa using c41
               (try (have c41b1 : decide (t132 = t134) = true := by simpa using c41))
               (try (have c41b2 : (t132 == t134) = true := by simpa using c41))
               clear c41
               by_cases c42 : t131 = t133
               ·rw [if_pos c42] at H
                have c42b0 : (t131 == t133) = true := beq_iff_eq.mpr c42
                have c42b1 : (t131 != t133) = false := bne_eq_false_iff_eq.mpr c42
                clear c42
                by_cases c43 : (t136 != t138) = true
                ·rw [if_pos c43] at H
                 have c43b0 : (t136 != t138) = true := c43
                 (try (have c43b1 : decide (t136 = t138) = false := by simpa using c43))
                 (try (have c43b2 : (t136 == t138) = false := by simpa using c43))
                 (try (have c43b3 : ¬ (t136 = t138) := by simpa using c43))
                 clear c43
                 exact absurd H (by simp)
                ·rw [if_neg c43] at H
                 have c43b0 : (t136 != t138) = false := by simpa using c43
                 (try (have c43b1 : decide (t136 = t138) = true := by simpa using c43))
                 (try (have c43b2 : (t136 == t138) = true := by simpa using c43))
                 clear c43
                 by_cases c44 : t135 = t137
                 ·rw [if_pos c44] at H
                  have c44b0 : (t135 == t137) = true := beq_iff_eq.mpr c44
                  have c44b1 : (t135 != t137) = false := bne_eq_false_iff_eq.mpr c44
                  clear c44
                  by_cases c45 : (t112 != t104) = true
                  ·rw [if_pos c45] at H
                   have c45b0 : (t112 != t104) = true := c45
                   (try (have c45b1 : decide (t112 = t104) = false := by simpa using c45))
                   (try (have c45b2 : (t112 == t104) = false := by simpa using c45))
                   (try (have c45b3 : ¬ (t112 = t104) := by simpa using c45))
                   clear c45
                   exact absurd H (by simp)
                  ·rw [if_neg c45] at H
                   have c45b0 : (t112 != t104) = false := by simpa using c45
                   (try (have c45b1 : decide (t112 = t104) = true := by simpa using c45))
                   (try (have c45b2 : (t112 == t104) = true := by simpa using c45))
                   clear c45
                   by_cases c46 : (t116 != t104) = true
                   ·rw [if_pos c46] at H
                    have c46b0 : (t116 != t104) = true := c46
                    (try (have c46b1 : decide (t116 = t104) = false := by simpa using c46))
                    (try (have c46b2 : (t116 == t104) = false := by simpa using c46))
                    (try (have c46b3 : ¬ (t116 = t104) := by simpa using c46))
                    clear c46
                    exact absurd H (by simp)
                   ·rw [if_neg c46] at H
                    have c46b0 : (t116 != t104) = false := by simpa using c46
                    (try (have c46b1 : decide (t116 = t104) = true := by simpa using c46))
                    (try (have c46b2 : (t116 == t104) = true := by simpa using c46))
                    clear c46
                    by_cases c47 : (t120 != t104) = true
                    ·rw [if_pos c47] at H
                     have c47b0 : (t120 != t104) = true := c47
                     (try (have c47b1 : decide (t120 = t104) = false := by simpa using c47))
                     (try (have c47b2 : (t120 == t104) = false := by simpa using c47))
                     (try (have c47b3 : ¬ (t120 = t104) := by simpa using c47))
                     clear c47
                     exact absurd H (by simp)
                    ·rw [if_neg c47] at H
                     have c47b0 : (t120 != t104) = false := by simpa using c47
                     (try (have c47b1 : decide (t120 = t104) = true := by simpa using c47))
                     (try (have c47b2 : (t120 == t104) = true := by simpa using c47))
                     clear c47
                     by_cases c48 : t104 = true
                     ·subst c48
                      rw [if_pos rfl] at H
                      by_cases c49 : (t124 != (decide (t102 ≤ 5000))) = true
                      ·rw [if_pos c49] at H
                       have c49b0 : (t124 != (decide (t102 ≤ 5000))) = true := c49
                       (try (have c49b1 : decide (t124 = (decide (t102 ≤ 5000))) = false := by simpa using c49))
                       (try (have c49b2 : (t124 == (decide (t102 ≤ 5000))) = false := by simpa using c49))
                       (try (have c49b3 : ¬ (t124 = (decide (t102 ≤ 5000))) := by simpa using c49))
                       clear c49
                       exact absurd H (by simp)
                      ·rw [if_neg c49] at H
                       have c49b0 : (t124 != (decide (t102 ≤ 5000))) = false := by simpa using c49
                       (try (have c49b1 : decide (t124 = (decide (t102 ≤ 5000))) = true := by simpa using c49))
                       (try (have c49b2 : (t124 == (decide (t102 ≤ 5000))) = true := by simpa using c49))
                       clear c49
                       by_cases c50 : (t132 != true) = true
                       ·rw [if_pos c50] at H
                        have c50b0 : (t132 != true) = true := c50
                        (try (have c50b1 : decide (t132 = true) = false := by simpa using c50))
                        (try (have c50b2 : (t132 == true) = false := by simpa using c50))
                        (try (have c50b3 : ¬ (t132 = true) := by simpa using c50))
                        clear c50
                        exact absurd H (by simp)
                       ·rw [if_neg c50] at H
                        have c50b0 : (t132 != true) = false := by simpa using c50
                        (try (have c50b1 : decide (t132 = true) = true := by simpa using c50))
                        (try (have c50b2 : (t132 == true) = true := by simpa using c50))
                        clear c50
                        have H' := Aside0.mk H
                        clear H
                        obtain ⟨Ao51, co51, eo51⟩ := Kd.S_slice HO106.out
                        subst eo51
                        obtain ⟨Ao52, co52, eo52⟩ := Kd.S_slice HO110.out
                        subst eo52
                        go_wp2_with (first | (go_at_call 20; (with_reducible refine (laws_tRows.calls k _ _ t103 _ _ t107 true _ ?side1 ?side2 ?side3 ?side4 A30.out).mono ?_); (case side1 => exact k10_); (case side2 => exact (Kd.S_reads' HO106.out).2.1); (case side3 => exact k11_); (case side4 => exact (Kd.S_reads' HO110.out).2.1); rintro e w' ⟨rfl, ⟨nd, rfl⟩⟩; (try first | exact ⟨rfl, _, World.drewN_drewN _ _ _⟩ | exact ⟨rfl, _, Eq.trans (World.drewN_drewN _ _ _) (congrArg (World.drewN _) (Nat.add_assoc _ _ _))⟩); obtain ⟨Ao53, co53, eo53⟩ := Kd.R_slice HO126.out; subst eo53; obtain ⟨Ao54, co54, eo54⟩ := Kd.R_slice HO130.out; subst eo54) | (go_at_call 21; (with_reducible refine (laws_tSame.calls k _ _ t123 _ _ t127 true _ ?side1 ?side2 ?side3 ?side4 A39.out).mono ?_); (case side1 => exact k5_); (case side2 => exact (Kd.R_reads' HO126.out).2.1); (case side3 => exact k6_); (case side4 => exact (Kd.R_reads' HO130.out).2.1); rintro e w' ⟨rfl, ⟨nd, rfl⟩⟩; (try first | exact ⟨rfl, _, World.drewN_drewN _ _ _⟩ | exact ⟨rfl, _, Eq.trans (World.drewN_drewN _ _ _) (congrArg (World.drewN _) (Nat.add_assoc _ _ _))⟩)))
                        repeat (go_quiet (first | (go_at_call 20; (with_reducible refine (laws_tRows.calls k _ _ t103 _ _ t107 true _ ?side1 ?side2 ?side3 ?side4 A30.out).mono ?_); (case side1 => exact k10_); (case side2 => exact (Kd.S_reads' HO106.out).2.1); (case side3 => exact k11_); (case side4 => exact (Kd.S_reads' HO110.out).2.1); rintro e w' ⟨rfl, ⟨nd, rfl⟩⟩; (try first | exact ⟨rfl, _, World.drewN_drewN _ _ _⟩ | exact ⟨rfl, _, Eq.trans (World.drewN_drewN _ _ _) (congrArg (World.drewN _) (Nat.add_assoc _ _ _))⟩); obtain ⟨Ao53, co53, eo53⟩ := Kd.R_slice HO126.out; subst eo53; obtain ⟨Ao54, co54, eo54⟩ := Kd.R_slice HO130.out; subst eo54) | (go_at_call 21; (with_reducible refine (laws_tSame.calls k _ _ t123 _ _ t127 true _ ?side1 ?side2 ?side3 ?side4 A39.out).mono ?_); (case side1 => exact k5_); (case side2 => exact (Kd.R_reads' HO126.out).2.1); (case side3 => exact k6_); (case side4 => exact (Kd.R_reads' HO130.out).2.1); rintro e w' ⟨rfl, ⟨nd, rfl⟩⟩; (try first | exact ⟨rfl, _, World.drewN_drewN _ _ _⟩ | exact ⟨rfl, _, Eq.trans (World.drewN_drewN _ _ _) (congrArg (World.drewN _) (Nat.add_assoc _ _ _))⟩))); try go_wp2_with (first | (go_at_call 20; (with_reducible refine (laws_tRows.calls k _ _ t103 _ _ t107 true _ ?side1 ?side2 ?side3 ?side4 A30.out).mono ?_); (case side1 => exact k10_); (case side2 => exact (Kd.S_reads' HO106.out).2.1); (case side3 => exact k11_); (case side4 => exact (Kd.S_reads' HO110.out).2.1); rintro e w' ⟨rfl, ⟨nd, rfl⟩⟩; (try first | exact ⟨rfl, _, World.drewN_drewN _ _ _⟩ | exact ⟨rfl, _, Eq.trans (World.drewN_drewN _ _ _) (congrArg (World.drewN _) (Nat.add_assoc _ _ _))⟩); obtain ⟨Ao53, co53, eo53⟩ := Kd.R_slice HO126.out; subst eo53; obtain ⟨Ao54, co54, eo54⟩ := Kd.R_slice HO130.out; subst eo54) | (go_at_call 21; (with_reducible refine (laws_tSame.calls k _ _ t123 _ _ t127 true _ ?side1 ?side2 ?side3 ?side4 A39.out).mono ?_); (case side1 => exact k5_); (case side2 => exact (Kd.R_reads' HO126.out).2.1); (case side3 => exact k6_); (case side4 => exact (Kd.R_reads' HO130.out).2.1); rintro e w' ⟨rfl, ⟨nd, rfl⟩⟩; (try first | exact ⟨rfl, _, World.drewN_drewN _ _ _⟩ | exact ⟨rfl, _, Eq.trans (World.drewN_drewN _ _ _) (congrArg (World.drewN _) (Nat.add_assoc _ _ _))⟩))))
                        go_meet
                        case rel => exact ⟨_, ((t136 != true)), k32_, H', ⟨by first | omega | exact Nat.le_refl _⟩, ⟨by (with_reducible repeat (first | apply Kd.S_alloc | apply Kd.S_drewN | apply Kd.S_drew)); exact Kd.S_mono HO106.out (fun _ hk => hk.1.2)⟩, ⟨by (with_reducible repeat (first | apply Kd.R_alloc | apply Kd.R_drewN | apply Kd.R_drew)); exact Kd.R_mono HO126.out (fun _ hk => trivial)⟩, ⟨k23_⟩⟩
                     ·replace c48 := Bool.eq_false_iff.mpr c48
                      subst c48
                      rw [if_neg (show ¬ (false = true) by decide)] at H
                      by_cases c55 : (t124 != false) = true
                      ·rw [if_pos c55] at H
                       have c55b0 : (t124 != false) = true := c55
                       (try (have c55b1 : decide (t124 = false) = false := by simpa using c55))
                       (try (have c55b2 : (t124 == false) = false := by simpa using c55))
                       (try (have c55b3 : ¬ (t124 = false) := by simpa using c55))
                       clear c55
                       exact absurd H (by simp)
                      ·rw [if_neg c55] at H
                       have c55b0 : (t124 != false) = false := by simpa using c55
                       (try (have c55b1 : decide (t124 = false) = true := by simpa using c55))
                       (try (have c55b2 : (t124 == false) = true := by simpa using c55))
                       clear c55
                       by_cases c56 : (t132 != false) = true
                       ·rw [if_pos c56] at H
                        have c56b0 : (t132 != false) = true := c56
                        (try (have c56b1 : decide (t132 = false) = false := by simpa using c56))
                        (try (have c56b2 : (t132 == false) = false := by simpa using c56))
                        (try (have c56b3 : ¬ (t132 = false) := by simpa using c56))
                        clear c56
                        exact absurd H (by simp)
                       ·rw [if_neg c56] at H
                        have c56b0 : (t132 != false) = false := by simpa using c56
                        (try (have c56b1 : decide (t132 = false) = true := by simpa using c56))
                        (try (have c56b2 : (t132 == false) = true := by simpa using c56))
                        clear c56
                        have H' := Aside0.mk H
                        clear H
                        obtain ⟨Ao57, co57, eo57⟩ := Kd.S_slice HO106.out
                        subst eo57
                        obtain ⟨Ao58, co58, eo58⟩ := Kd.S_slice HO110.out
                        subst eo58
                        go_wp2_with (first | (go_at_call 20; (with_reducible refine (laws_tRows.calls k _ _ t103 _ _ t107 true _ ?side1 ?side2 ?side3 ?side4 A30.out).mono ?_); (case side1 => exact k10_); (case side2 => exact (Kd.S_reads' HO106.out).2.1); (case side3 => exact k11_); (case side4 => exact (Kd.S_reads' HO110.out).2.1); rintro e w' ⟨rfl, ⟨nd, rfl⟩⟩; (try first | exact ⟨rfl, _, World.drewN_drewN _ _ _⟩ | exact ⟨rfl, _, Eq.trans (World.drewN_drewN _ _ _) (congrArg (World.drewN _) (Nat.add_assoc _ _ _))⟩); obtain ⟨Ao59, co59, eo59⟩ := Kd.R_slice HO126.out; subst eo59; obtain ⟨Ao60, co60, eo60⟩ := Kd.R_slice HO130.out; subst eo60) | (go_at_call 21; (with_reducible refine (laws_tSame.calls k _ _ t123 _ _ t127 true _ ?side1 ?side2 ?side3 ?side4 A39.out).mono ?_); (case side1 => exact k5_); (case side2 => exact (Kd.R_reads' HO126.out).2.1); (case side3 => exact k6_); (case side4 => exact (Kd.R_reads' HO130.out).2.1); rintro e w' ⟨rfl, ⟨nd, rfl⟩⟩; (try first | exact ⟨rfl, _, World.drewN_drewN _ _ _⟩ | exact ⟨rfl, _, Eq.trans (World.drewN_drewN _ _ _) (congrArg (World.drewN _) (Nat.add_assoc _ _ _))⟩)))
                        repeat (go_quiet (first | (go_at_call 20; (with_reducible refine (laws_tRows.calls k _ _ t103 _ _ t107 true _ ?side1 ?side2 ?side3 ?side4 A30.out).mono ?_); (case side1 => exact k10_); (case side2 => exact (Kd.S_reads' HO106.out).2.1); (case side3 => exact k11_); (case side4 => exact (Kd.S_reads' HO110.out).2.1); rintro e w' ⟨rfl, ⟨nd, rfl⟩⟩; (try first | exact ⟨rfl, _, World.drewN_drewN _ _ _⟩ | exact ⟨rfl, _, Eq.trans (World.drewN_drewN _ _ _) (congrArg (World.drewN _) (Nat.add_assoc _ _ _))⟩); obtain ⟨Ao59, co59, eo59⟩ := Kd.R_slice HO126.out; subst eo59; obtain ⟨Ao60, co60, eo60⟩ := Kd.R_slice HO130.out; subst eo60) | (go_at_call 21; (with_reducible refine (laws_tSame.calls k _ _ t123 _ _ t127 true _ ?side1 ?side2 ?side3 ?side4 A39.out).mono ?_); (case side1 => exact k5_); (case side2 => exact (Kd.R_reads' HO126.out).2.1); (case side3 => exact k6_); (case side4 => exact (Kd.R_reads' HO130.out).2.1); rintro e w' ⟨rfl, ⟨nd, rfl⟩⟩; (try first | exact ⟨rfl, _, World.drewN_drewN _ _ _⟩ | exact ⟨rfl, _, Eq.trans (World.drewN_drewN _ _ _) (congrArg (World.drewN _) (Nat.add_assoc _ _ _))⟩))); try go_wp2_with (first | (go_at_call 20; (with_reducible refine (laws_tRows.calls k _ _ t103 _ _ t107 true _ ?side1 ?side2 ?side3 ?side4 A30.out).mono ?_); (case side1 => exact k10_); (case side2 => exact (Kd.S_reads' HO106.out).2.1); (case side3 => exact k11_); (case side4 => exact (Kd.S_reads' HO110.out).2.1); rintro e w' ⟨rfl, ⟨nd, rfl⟩⟩; (try first | exact ⟨rfl, _, World.drewN_drewN _ _ _⟩ | exact ⟨rfl, _, Eq.trans (World.drewN_drewN _ _ _) (congrArg (World.drewN _) (Nat.add_assoc _ _ _))⟩); obtain ⟨Ao59, co59, eo59⟩ := Kd.R_slice HO126.out; subst eo59; obtain ⟨Ao60, co60, eo60⟩ := Kd.R_slice HO130.out; subst eo60) | (go_at_call 21; (with_reducible refine (laws_tSame.calls k _ _ t123 _ _ t127 true _ ?side1 ?side2 ?side3 ?side4 A39.out).mono ?_); (case side1 => exact k5_); (case side2 => exact (Kd.R_reads' HO126.out).2.1); (case side3 => exact k6_); (case side4 => exact (Kd.R_reads' HO130.out).2.1); rintro e w' ⟨rfl, ⟨nd, rfl⟩⟩; (try first | exact ⟨rfl, _, World.drewN_drewN _ _ _⟩ | exact ⟨rfl, _, Eq.trans (World.drewN_drewN _ _ _) (congrArg (World.drewN _) (Nat.add_assoc _ _ _))⟩))))
                        go_meet
                        case rel => exact ⟨_, ((t136 != false)), k32_, H', ⟨by first | omega | exact Nat.le_refl _⟩, ⟨by (with_reducible repeat (first | apply Kd.S_alloc | apply Kd.S_drewN | apply Kd.S_drew)); exact Kd.S_mono HO106.out (fun _ hk => hk.1.2)⟩, ⟨by (with_reducible repeat (first | apply Kd.R_alloc | apply Kd.R_drewN | apply Kd.R_drew)); exact Kd.R_mono HO126.out (fun _ hk => trivial)⟩, ⟨k23_⟩⟩
                 ·rw [if_neg c44] at H
                  have c44b0 : (t135 == t137) = false := beq_eq_false_iff_ne.mpr c44
                  have c44b1 : (t135 != t137) = true := bne_iff_ne.mpr c44
                  exact absurd H (by simp)
               ·rw [if_neg c42] at H
                have c42b0 : (t131 == t133) = false := beq_eq_false_iff_ne.mpr c42
                have c42b1 : (t131 != t133) = true := bne_iff_ne.mpr c42
                exact absurd H (by simp)
             ·replace c40 := Bool.eq_false_iff.mpr c40
              subst c40
              rw [if_neg (show ¬ (false = true) by decide)] at H
              exact absurd H (by simp)
       ·rw [if_neg c33] at H
        have c33b0 : (t111 == t113) = false := beq_eq_false_iff_ne.mpr c33
        have c33b1 : (t111 != t113) = true := bne_iff_ne.mpr c33
        exact absurd H (by simp)
     ·replace c31 := Bool.eq_false_iff.mpr c31
      subst c31
      rw [if_neg (show ¬ (false = true) by decide)] at H
      exact absurd H (by simp)
  case rest =>
   clear HC20
   (try clear c4)
   obtain ⟨kq, x233_19, rfl, HA, HJ19, HO_6, HO_22, HB⟩ := hcut
   cases kq with
   | zero => exact absurd HA.out (by simp [laws_FnSumsOfSquares.j0])
   | succ kj19 =>
    have H := HA.out
    clear HA
    simp only [laws_FnSumsOfSquares.j0] at H
    by_cases c61 : x233_19 = true
    ·subst c61
     rw [if_pos rfl] at H
     exact absurd H (by simp)
    ·replace c61 := Bool.eq_false_iff.mpr c61
     subst c61
     rw [if_neg (show ¬ (false = true) by decide)] at H
     have HC62 := Aside0.mk H
     clear H
     go_upto_if 234 with (fail)
     repeat (go_quiet (fail); go_upto_if 234 with (fail))
     go_cut [] from 234 to 234 (fun wc => ∃ (kq : Nat), Aside0 (laws_FnSumsOfSquares.j3 kq l1 t102 t104 t115 t119 t123 t124 = some true) ∧ Aside0 (kq ≤ kj19) ∧ Aside0 (Kd.R (Kd.int .i64) 3 wc w.heap.size (fun _ => True) v125 t123) ∧ Aside0 (Below w.heap.size w wc))
     case first =>
      as_aux_lemma =>
       have H := HC62.out
       clear HC62
       by_cases c63 : t104 = true
       ·subst c63
        rw [if_pos rfl] at H
        have H' := Aside0.mk H
        clear H
        obtain ⟨Ao64, co64, eo64⟩ := Kd.S_slice HO_6.out
        subst eo64
        go_wp2
        repeat (go_quiet (fail); try go_wp2)
        go_loopg [34, 237] kj19 (fun kq v34 v237 w' => ∃ (x34_2 : Int) (x237_2 : Int), v34 = .int .i64 x34_2 ∧ v237 = .int .i64 x237_2 ∧ Aside0 (laws_FnSumsOfSquares.l0 kq l1 t102 t103 true t111 t115 t119 t123 t124 t131 t135 x34_2 t103 (t103.length : Int) x237_2 = some true) ∧ Aside0 (kq ≤ kj19) ∧ Aside0 (Kd.S (Kd.slice 3 (Kd.int .i64)) 32 w' w.heap.size (fun k_ => some k_ ≠ (v125 : Value).ownBlock) (.slice Ao64 t103.length co64) t103) ∧ Aside0 (Kd.R (Kd.int .i64) 3 w' w.heap.size (fun _ => True) v125 t123) ∧ Aside0 (Kd.S (Kd.slice 3 (Kd.int .i64)) 32 w' w.heap.size (fun k_ => some k_ ≠ (v125 : Value).ownBlock) (.slice Ao64 t103.length co64) t103) ∧ Aside0 (Below w.heap.size w w'))
        case atStart => exact ⟨(0), (0), k32_, k32_, H', ⟨Nat.le_refl _⟩, ⟨k29_⟩, ⟨k28_⟩, ⟨k29_⟩, ⟨k23_⟩⟩
        case round =>
         clear H'
         skip
         obtain ⟨x34_2, x237_2, rfl, rfl, HA, HK2, HO_6, HO_22, HO_235, HB⟩ := hrel
         cases gk with
         | zero => exact absurd HA.out (by simp [laws_FnSumsOfSquares.l0])
         | succ k2 =>
          have H := HA.out
          clear HA
          simp only [laws_FnSumsOfSquares.l0] at H
          by_cases c65 : x237_2 < (t103.length : Int)
          ·rw [if_pos c65] at H
           have c65b0 : decide (x237_2 < (t103.length : Int)) = true := decide_eq_true c65
           clear c65
           (first | rw [c65b0] | rw [c65b1] | (simp only [i64_w, i32_w]; rw [c65b0]) | skip)
           by_cases c66 : 0 ≤ x237_2
           ·rw [if_pos c66] at H
            have c66b0 : decide (0 ≤ x237_2) = true := decide_eq_true c66
            clear c66
            by_cases c67 : x237_2 < (t103.length : Int)
            ·rw [if_pos c67] at H
             have c67b0 : decide (x237_2 < (t103.length : Int)) = true := decide_eq_true c67
             clear c67
             by_cases c68 : ((rd_Ints t103 x237_2).length : Int) = 2
             ·rw [if_pos c68] at H
              have c68b0 : (((rd_Ints t103 x237_2).length : Int) == 2) = true := beq_iff_eq.mpr c68
              have c68b1 : (((rd_Ints t103 x237_2).length : Int) != 2) = false := bne_eq_false_iff_eq.mpr c68
              clear c68
              by_cases c69 : 0 < ((rd_Ints t103 x237_2).length : Int)
              ·rw [if_pos c69] at H
               have c69b0 : decide (0 < ((rd_Ints t103 x237_2).length : Int)) = true := decide_eq_true c69
               have c69b1 : decide (0 < (rd_Ints t103 x237_2).length) = true := decide_eq_true (by omega)
               clear c69
               by_cases c70 : (rd (rd_Ints t103 x237_2) 0) < 0
               ·rw [if_pos c70] at H
                have c70b0 : decide ((rd (rd_Ints t103 x237_2) 0) < 0) = true := decide_eq_true c70
                clear c70
                exact absurd H (by simp)
               ·rw [if_neg c70] at H
                have c70b0 : decide ((rd (rd_Ints t103 x237_2) 0) < 0) = false := decide_eq_false c70
                clear c70
                by_cases c71 : 1 < ((rd_Ints t103 x237_2).length : Int)
                ·rw [if_pos c71] at H
                 have c71b0 : decide (1 < ((rd_Ints t103 x237_2).length : Int)) = true := decide_eq_true c71
                 have c71b1 : decide (1 < (rd_Ints t103 x237_2).length) = true := decide_eq_true (by omega)
                 clear c71
                 by_cases c72 : (rd (rd_Ints t103 x237_2) 0) > (rd (rd_Ints t103 x237_2) 1)
                 ·rw [if_pos c72] at H
                  have c72b0 : decide ((rd (rd_Ints t103 x237_2) 1) < (rd (rd_Ints t103 x237_2) 0)) = true := decide_eq_true c72
                  clear c72
                  exact absurd H (by simp)
                 ·rw [if_neg c72] at H
                  have c72b0 : decide ((rd (rd_Ints t103 x237_2) 1) < (rd (rd_Ints t103 x237_2) 0)) = false := decide_eq_false c72
                  clear c72
                  by_cases c73 : (wrap64 ((wrap64 ((rd (rd_Ints t103 x237_2) 0) * (rd (rd_Ints t103 x237_2) 0))) + (wrap64 ((rd (rd_Ints t103 x237_2) 1) * (rd (rd_Ints t103 x237_2) 1))))) = t102
                  ·rw [if_pos c73] at H
                   have c73b0 : ((wrap64 ((wrap64 ((rd (rd_Ints t103 x237_2) 0) * (rd (rd_Ints t103 x237_2) 0))) + (wrap64 ((rd (rd_Ints t103 x237_2) 1) * (rd (rd_Ints t103 x237_2) 1))))) == t102) = true := beq_iff_eq.mpr c73
                   have c73b1 : ((wrap64 ((wrap64 ((rd (rd_Ints t103 x237_2) 0) * (rd (rd_Ints t103 x237_2) 0))) + (wrap64 ((rd (rd_Ints t103 x237_2) 1) * (rd (rd_Ints t103 x237_2) 1))))) != t102) = false := bne_eq_false_iff_eq.mpr c73
                   clear c73
                   by_cases c74 : x237_2 > 0
                   ·rw [if_pos c74] at H
                    have c74b0 : decide (0 < x237_2) = true := decide_eq_true c74
                    clear c74
                    obtain ⟨ji75, hji75⟩ : ∃ j_ : Int, (wrap64 (x237_2 - 1)) = j_ := ⟨_, rfl⟩
                    replace H : (if 0 ≤ (ji75) then (if (ji75) < (t103.length : Int) then (if 0 < ((rd_Ints t103 (ji75)).length : Int) then (if (rd (rd_Ints t103 (ji75)) 0) ≥ (rd (rd_Ints t103 x237_2) 0) then (some false) else (if (rd (rd_Ints t103 x237_2) 0) = 0 then (laws_FnSumsOfSquares.l0 k2 l1 t102 t103 true t111 t115 t119 t123 t124 t131 t135 (wrap64 (x34_2 + 4)) t103 (t103.length : Int) (wrap64 (x237_2 + 1))) else (if (rd (rd_Ints t103 x237_2) 0) = (rd (rd_Ints t103 x237_2) 1) then (laws_FnSumsOfSquares.l0 k2 l1 t102 t103 true t111 t115 t119 t123 t124 t131 t135 (wrap64 (x34_2 + 4)) t103 (t103.length : Int) (wrap64 (x237_2 + 1))) else (laws_FnSumsOfSquares.l0 k2 l1 t102 t103 true t111 t115 t119 t123 t124 t131 t135 (wrap64 (x34_2 + 8)) t103 (t103.length : Int) (wrap64 (x237_2 + 1)))))) else (none)) else (none)) else (none)) = some true := by first | (rw [hji75] at H; exact H) | (simp only [hji75] at H ⊢; exact H)
                    have hji75w : (IntKind.i64.wrap (x237_2 - 1)) = ji75 := (i64_w _).trans hji75
                    by_cases c76 : 0 ≤ (ji75)
                    ·rw [if_pos c76] at H
                     have c76b0 : decide (0 ≤ (ji75)) = true := decide_eq_true c76
                     clear c76
                     by_cases c77 : (ji75) < (t103.length : Int)
                     ·rw [if_pos c77] at H
                      have c77b0 : decide ((ji75) < (t103.length : Int)) = true := decide_eq_true c77
                      clear c77
                      by_cases c78 : 0 < ((rd_Ints t103 (ji75)).length : Int)
                      ·rw [if_pos c78] at H
                       have c78b0 : decide (0 < ((rd_Ints t103 (ji75)).length : Int)) = true := decide_eq_true c78
                       have c78b1 : decide (0 < (rd_Ints t103 (ji75)).length) = true := decide_eq_true (by omega)
                       clear c78
                       by_cases c79 : (rd (rd_Ints t103 (ji75)) 0) ≥ (rd (rd_Ints t103 x237_2) 0)
                       ·rw [if_pos c79] at H
                        have c79b0 : decide ((rd (rd_Ints t103 x237_2) 0) ≤ (rd (rd_Ints t103 (ji75)) 0)) = true := decide_eq_true c79
                        clear c79
                        exact absurd H (by simp)
                       ·rw [if_neg c79] at H
                        have c79b0 : decide ((rd (rd_Ints t103 x237_2) 0) ≤ (rd (rd_Ints t103 (ji75)) 0)) = false := decide_eq_false c79
                        clear c79
                        by_cases c80 : (rd (rd_Ints t103 x237_2) 0) = 0
                        ·rw [if_pos c80] at H
                         have c80b0 : ((rd (rd_Ints t103 x237_2) 0) == 0) = true := beq_iff_eq.mpr c80
                         have c80b1 : ((rd (rd_Ints t103 x237_2) 0) != 0) = false := bne_eq_false_iff_eq.mpr c80
                         clear c80
                         have H' := Aside0.mk H
                         clear H
                         have p141 : 0 ≤ (x237_2 : Int) := of_decide_eq_true k31_
                         have q141 : x237_2 < (t103.length : Int) := of_decide_eq_true k31_
                         obtain ⟨ad141, A141_0, c141_0, e141, hx141_0, hl141_0, hi141_0⟩ := at_Ints (Kd.S_reads' HO_235.out).2.2 x237_2 p141 q141
                         cases e141
                         obtain ⟨ce141, hce141, hMe141, hcc141⟩ := Kd.S_get HO_235.out [] x237_2 p141 k17_
                         obtain ⟨ve141_0, rfl, ge141_0⟩ := hMe141
                         have hv141_0 := hcc141 0 _ rfl
                         rw [Nat.add_zero, show ((Kd.slice 3 (Kd.int .i64))).sz = 1 from rfl, Nat.mul_one] at hv141_0
                         replace hv141_0 := Option.some.inj (hv141_0.symm.trans hx141_0)
                         rw [hv141_0] at ge141_0
                         have HL141_0 := Aside0.mk (show Kd.R (Kd.int .i64) 3 _ _ _ _ (rd_Ints t103 x237_2) from ge141_0)
                         clear hv141_0 ge141_0
                         clear hcc141 hce141
                         have HR141_0 := Aside0.mk hi141_0
                         have HC141_0 := Aside0.mk hl141_0
                         clear hi141_0 hl141_0
                         replace p141 := eq_true p141
                         replace q141 := eq_true q141
                         have p142 : 0 ≤ (0 : Int) := (by omega)
                         have q142 : 0 < ((rd_Ints t103 x237_2).length : Int) := of_decide_eq_true k31_
                         obtain ⟨ad142, e142, hx142_0⟩ := Kd.at_int k1_ 0 p142 q142
                         cases e142
                         have qi142 : (0 < (rd_Ints t103 x237_2).length) = True := eq_true (by omega)
                         (try rw [show ((0 : Int)).toNat = 0 from rfl] at hx142_0)
                         (try rw [Addr.add_zero'] at hx142_0)
                         replace p142 := eq_true p142
                         replace q142 := eq_true q142
                         have p143 : 0 ≤ (0 : Int) := (by omega)
                         have q143 : 0 < ((rd_Ints t103 x237_2).length : Int) := of_decide_eq_true k31_
                         obtain ⟨ad143, e143, hx143_0⟩ := Kd.at_int k1_ 0 p143 q143
                         obtain rfl : ad142 = ad143 := (by injection e143)
                         have qi143 : (0 < (rd_Ints t103 x237_2).length) = True := eq_true (by omega)
                         (try rw [show ((0 : Int)).toNat = 0 from rfl] at hx143_0)
                         (try rw [Addr.add_zero'] at hx143_0)
                         replace p143 := eq_true p143
                         replace q143 := eq_true q143
                         have p144 : 0 ≤ (1 : Int) := (by omega)
                         have q144 : 1 < ((rd_Ints t103 x237_2).length : Int) := of_decide_eq_true k31_
                         obtain ⟨ad144, e144, hx144_0⟩ := Kd.at_int k1_ 1 p144 q144
                         obtain rfl : ad142 = ad144 := (by injection e144)
                         (try simp only [show (1 : Int).toNat = 1 from rfl, Nat.reduceMul, Nat.reduceEqDiff, Go.Addr.add, ↓reduceIte] at hx144_0)
                         have qi144 : (1 < (rd_Ints t103 x237_2).length) = True := eq_true (by omega)
                         (try rw [show ((1 : Int)).toNat = 1 from rfl] at hx144_0)
                         replace p144 := eq_true p144
                         replace q144 := eq_true q144
                         have p145 : 0 ≤ (0 : Int) := (by omega)
                         have q145 : 0 < ((rd_Ints t103 x237_2).length : Int) := of_decide_eq_true k31_
                         obtain ⟨ad145, e145, hx145_0⟩ := Kd.at_int k1_ 0 p145 q145
                         obtain rfl : ad142 = ad145 := (by injection e145)
                         have qi145 : (0 < (rd_Ints t103 x237_2).length) = True := eq_true (by omega)
                         (try rw [show ((0 : Int)).toNat = 0 from rfl] at hx145_0)
                         (try rw [Addr.add_zero'] at hx145_0)
                         replace p145 := eq_true p145
                         replace q145 := eq_true q145
                         have p146 : 0 ≤ (0 : Int) := (by omega)
                         have q146 : 0 < ((rd_Ints t103 x237_2).length : Int) := of_decide_eq_true k31_
                         obtain ⟨ad146, e146, hx146_0⟩ := Kd.at_int k1_ 0 p146 q146
                         obtain rfl : ad142 = ad146 := (by injection e146)
                         have qi146 : (0 < (rd_Ints t103 x237_2).length) = True := eq_true (by omega)
                         (try rw [show ((0 : Int)).toNat = 0 from rfl] at hx146_0)
                         (try rw [Addr.add_zero'] at hx146_0)
                         replace p146 := eq_true p146
                         replace q146 := eq_true q146
                         have p147 : 0 ≤ (1 : Int) := (by omega)
                         have q147 : 1 < ((rd_Ints t103 x237_2).length : Int) := of_decide_eq_true k31_
                         obtain ⟨ad147, e147, hx147_0⟩ := Kd.at_int k1_ 1 p147 q147
                         obtain rfl : ad142 = ad147 := (by injection e147)
                         (try simp only [show (1 : Int).toNat = 1 from rfl, Nat.reduceMul, Nat.reduceEqDiff, Go.Addr.add, ↓reduceIte] at hx147_0)
                         have qi147 : (1 < (rd_Ints t103 x237_2).length) = True := eq_true (by omega)
                         (try rw [show ((1 : Int)).toNat = 1 from rfl] at hx147_0)
                         replace p147 := eq_true p147
                         replace q147 := eq_true q147
                         have p148 : 0 ≤ (1 : Int) := (by omega)
                         have q148 : 1 < ((rd_Ints t103 x237_2).length : Int) := of_decide_eq_true k31_
                         obtain ⟨ad148, e148, hx148_0⟩ := Kd.at_int k1_ 1 p148 q148
                         obtain rfl : ad142 = ad148 := (by injection e148)
                         (try simp only [show (1 : Int).toNat = 1 from rfl, Nat.reduceMul, Nat.reduceEqDiff, Go.Addr.add, ↓reduceIte] at hx148_0)
                         have qi148 : (1 < (rd_Ints t103 x237_2).length) = True := eq_true (by omega)
                         (try rw [show ((1 : Int)).toNat = 1 from rfl] at hx148_0)
                         replace p148 := eq_true p148
                         replace q148 := eq_true q148
                         have p149 : 0 ≤ ((ji75) : Int) := of_decide_eq_true k31_
                         have q149 : (ji75) < (t103.length : Int) := of_decide_eq_true k31_
                         obtain ⟨ad149, A149_0, c149_0, e149, hx149_0, hl149_0, hi149_0⟩ := at_Ints (Kd.S_reads' HO_6.out).2.2 (ji75) p149 q149
                         obtain rfl : ad141 = ad149 := (by injection e149)
                         obtain ⟨ce149, hce149, hMe149, hcc149⟩ := Kd.S_get HO_6.out [] (ji75) p149 (by first | exact q149 | exact of_decide_eq_true k31_ | (have e_ := (Kd.S_reads' HO_6.out).1; omega))
                         obtain ⟨ve149_0, rfl, ge149_0⟩ := hMe149
                         have hv149_0 := hcc149 0 _ rfl
                         rw [Nat.add_zero, show ((Kd.slice 3 (Kd.int .i64))).sz = 1 from rfl, Nat.mul_one] at hv149_0
                         replace hv149_0 := Option.some.inj (hv149_0.symm.trans hx149_0)
                         rw [hv149_0] at ge149_0
                         have HL149_0 := Aside0.mk (show Kd.R (Kd.int .i64) 3 _ _ _ _ (rd_Ints t103 (ji75)) from ge149_0)
                         clear hv149_0 ge149_0
                         clear hcc149 hce149
                         have HR149_0 := Aside0.mk hi149_0
                         have HC149_0 := Aside0.mk hl149_0
                         clear hi149_0 hl149_0
                         replace p149 := eq_true p149
                         replace q149 := eq_true q149
                         have p150 : 0 ≤ (0 : Int) := (by omega)
                         have q150 : 0 < ((rd_Ints t103 (ji75)).length : Int) := of_decide_eq_true k31_
                         obtain ⟨ad150, e150, hx150_0⟩ := Kd.at_int k2_ 0 p150 q150
                         cases e150
                         have qi150 : (0 < (rd_Ints t103 (ji75)).length) = True := eq_true (by omega)
                         (try rw [show ((0 : Int)).toNat = 0 from rfl] at hx150_0)
                         (try rw [Addr.add_zero'] at hx150_0)
                         replace p150 := eq_true p150
                         replace q150 := eq_true q150
                         have p151 : 0 ≤ (0 : Int) := (by omega)
                         have q151 : 0 < ((rd_Ints t103 x237_2).length : Int) := of_decide_eq_true k31_
                         obtain ⟨ad151, e151, hx151_0⟩ := Kd.at_int k1_ 0 p151 q151
                         obtain rfl : ad142 = ad151 := (by injection e151)
                         have qi151 : (0 < (rd_Ints t103 x237_2).length) = True := eq_true (by omega)
                         (try rw [show ((0 : Int)).toNat = 0 from rfl] at hx151_0)
                         (try rw [Addr.add_zero'] at hx151_0)
                         replace p151 := eq_true p151
                         replace q151 := eq_true q151
                         have p152 : 0 ≤ (0 : Int) := (by omega)
                         have q152 : 0 < ((rd_Ints t103 x237_2).length : Int) := of_decide_eq_true k31_
                         obtain ⟨ad152, e152, hx152_0⟩ := Kd.at_int k1_ 0 p152 q152
                         obtain rfl : ad142 = ad152 := (by injection e152)
                         have qi152 : (0 < (rd_Ints t103 x237_2).length) = True := eq_true (by omega)
                         (try rw [show ((0 : Int)).toNat = 0 from rfl] at hx152_0)
                         (try rw [Addr.add_zero'] at hx152_0)
                         replace p152 := eq_true p152
                         replace q152 := eq_true q152
                         go_wp2
                         repeat (go_quiet (fail); try go_wp2)
                         go_roundg k2
                         case measure => have := HJ19.out; have := HK2.out; omega
                         case rel => exact ⟨(wrap64 (x34_2 + 4)), (wrap64 (x237_2 + 1)), k32_, k32_, H', ⟨by have := HJ19.out; have := HK2.out; omega⟩, ⟨k29_⟩, ⟨k28_⟩, ⟨by apply_rules only [HO_235.out, Kd.S_alloc, Kd.S_drewN, Kd.S_drew]⟩, ⟨k23_⟩⟩
                        ·rw [if_neg c80] at H
                         have c80b0 : ((rd (rd_Ints t103 x237_2) 0) == 0) = false := beq_eq_false_iff_ne.mpr c80
                         have c80b1 : ((rd (rd_Ints t103 x237_2) 0) != 0) = true := bne_iff_ne.mpr c80
                         by_cases c81 : (rd (rd_Ints t103 x237_2) 0) = (rd (rd_Ints t103 x237_2) 1)
                         ·rw [if_pos c81] at H
                          have c81b0 : ((rd (rd_Ints t103 x237_2) 0) == (rd (rd_Ints t103 x237_2) 1)) = true := beq_iff_eq.mpr c81
                          have c81b1 : ((rd (rd_Ints t103 x237_2) 0) != (rd (rd_Ints t103 x237_2) 1)) = false := bne_eq_false_iff_eq.mpr c81
                          clear c81
                          have H' := Aside0.mk H
                          clear H
                          have p141 : 0 ≤ (x237_2 : Int) := of_decide_eq_true k31_
                          have q141 : x237_2 < (t103.length : Int) := of_decide_eq_true k31_
                          obtain ⟨ad141, A141_0, c141_0, e141, hx141_0, hl141_0, hi141_0⟩ := at_Ints (Kd.S_reads' HO_235.out).2.2 x237_2 p141 q141
                          cases e141
                          obtain ⟨ce141, hce141, hMe141, hcc141⟩ := Kd.S_get HO_235.out [] x237_2 p141 k17_
                          obtain ⟨ve141_0, rfl, ge141_0⟩ := hMe141
                          have hv141_0 := hcc141 0 _ rfl
                          rw [Nat.add_zero, show ((Kd.slice 3 (Kd.int .i64))).sz = 1 from rfl, Nat.mul_one] at hv141_0
                          replace hv141_0 := Option.some.inj (hv141_0.symm.trans hx141_0)
                          rw [hv141_0] at ge141_0
                          have HL141_0 := Aside0.mk (show Kd.R (Kd.int .i64) 3 _ _ _ _ (rd_Ints t103 x237_2) from ge141_0)
                          clear hv141_0 ge141_0
                          clear hcc141 hce141
                          have HR141_0 := Aside0.mk hi141_0
                          have HC141_0 := Aside0.mk hl141_0
                          clear hi141_0 hl141_0
                          replace p141 := eq_true p141
                          replace q141 := eq_true q141
                          have p142 : 0 ≤ (0 : Int) := (by omega)
                          have q142 : 0 < ((rd_Ints t103 x237_2).length : Int) := of_decide_eq_true k31_
                          obtain ⟨ad142, e142, hx142_0⟩ := Kd.at_int k1_ 0 p142 q142
                          cases e142
                          have qi142 : (0 < (rd_Ints t103 x237_2).length) = True := eq_true (by omega)
                          (try rw [show ((0 : Int)).toNat = 0 from rfl] at hx142_0)
                          (try rw [Addr.add_zero'] at hx142_0)
                          replace p142 := eq_true p142
                          replace q142 := eq_true q142
                          have p143 : 0 ≤ (0 : Int) := (by omega)
                          have q143 : 0 < ((rd_Ints t103 x237_2).length : Int) := of_decide_eq_true k31_
                          obtain ⟨ad143, e143, hx143_0⟩ := Kd.at_int k1_ 0 p143 q143
                          obtain rfl : ad142 = ad143 := (by injection e143)
                          have qi143 : (0 < (rd_Ints t103 x237_2).length) = True := eq_true (by omega)
                          (try rw [show ((0 : Int)).toNat = 0 from rfl] at hx143_0)
                          (try rw [Addr.add_zero'] at hx143_0)
                          replace p143 := eq_true p143
                          replace q143 := eq_true q143
                          have p144 : 0 ≤ (1 : Int) := (by omega)
                          have q144 : 1 < ((rd_Ints t103 x237_2).length : Int) := of_decide_eq_true k31_
                          obtain ⟨ad144, e144, hx144_0⟩ := Kd.at_int k1_ 1 p144 q144
                          obtain rfl : ad142 = ad144 := (by injection e144)
                          (try simp only [show (1 : Int).toNat = 1 from rfl, Nat.reduceMul, Nat.reduceEqDiff, Go.Addr.add, ↓reduceIte] at hx144_0)
                          have qi144 : (1 < (rd_Ints t103 x237_2).length) = True := eq_true (by omega)
                          (try rw [show ((1 : Int)).toNat = 1 from rfl] at hx144_0)
                          replace p144 := eq_true p144
                          replace q144 := eq_true q144
                          have p145 : 0 ≤ (0 : Int) := (by omega)
                          have q145 : 0 < ((rd_Ints t103 x237_2).length : Int) := of_decide_eq_true k31_
                          obtain ⟨ad145, e145, hx145_0⟩ := Kd.at_int k1_ 0 p145 q145
                          obtain rfl : ad142 = ad145 := (by injection e145)
                          have qi145 : (0 < (rd_Ints t103 x237_2).length) = True := eq_true (by omega)
                          (try rw [show ((0 : Int)).toNat = 0 from rfl] at hx145_0)
                          (try rw [Addr.add_zero'] at hx145_0)
                          replace p145 := eq_true p145
                          replace q145 := eq_true q145
                          have p146 : 0 ≤ (0 : Int) := (by omega)
                          have q146 : 0 < ((rd_Ints t103 x237_2).length : Int) := of_decide_eq_true k31_
                          obtain ⟨ad146, e146, hx146_0⟩ := Kd.at_int k1_ 0 p146 q146
                          obtain rfl : ad142 = ad146 := (by injection e146)
                          have qi146 : (0 < (rd_Ints t103 x237_2).length) = True := eq_true (by omega)
                          (try rw [show ((0 : Int)).toNat = 0 from rfl] at hx146_0)
                          (try rw [Addr.add_zero'] at hx146_0)
                          replace p146 := eq_true p146
                          replace q146 := eq_true q146
                          have p147 : 0 ≤ (1 : Int) := (by omega)
                          have q147 : 1 < ((rd_Ints t103 x237_2).length : Int) := of_decide_eq_true k31_
                          obtain ⟨ad147, e147, hx147_0⟩ := Kd.at_int k1_ 1 p147 q147
                          obtain rfl : ad142 = ad147 := (by injection e147)
                          (try simp only [show (1 : Int).toNat = 1 from rfl, Nat.reduceMul, Nat.reduceEqDiff, Go.Addr.add, ↓reduceIte] at hx147_0)
                          have qi147 : (1 < (rd_Ints t103 x237_2).length) = True := eq_true (by omega)
                          (try rw [show ((1 : Int)).toNat = 1 from rfl] at hx147_0)
                          replace p147 := eq_true p147
                          replace q147 := eq_true q147
                          have p148 : 0 ≤ (1 : Int) := (by omega)
                          have q148 : 1 < ((rd_Ints t103 x237_2).length : Int) := of_decide_eq_true k31_
                          obtain ⟨ad148, e148, hx148_0⟩ := Kd.at_int k1_ 1 p148 q148
                          obtain rfl : ad142 = ad148 := (by injection e148)
                          (try simp only [show (1 : Int).toNat = 1 from rfl, Nat.reduceMul, Nat.reduceEqDiff, Go.Addr.add, ↓reduceIte] at hx148_0)
                          have qi148 : (1 < (rd_Ints t103 x237_2).length) = True := eq_true (by omega)
                          (try rw [show ((1 : Int)).toNat = 1 from rfl] at hx148_0)
                          replace p148 := eq_true p148
                          replace q148 := eq_true q148
                          have p149 : 0 ≤ ((ji75) : Int) := of_decide_eq_true k31_
                          have q149 : (ji75) < (t103.length : Int) := of_decide_eq_true k31_
                          obtain ⟨ad149, A149_0, c149_0, e149, hx149_0, hl149_0, hi149_0⟩ := at_Ints (Kd.S_reads' HO_6.out).2.2 (ji75) p149 q149
                          obtain rfl : ad141 = ad149 := (by injection e149)
                          obtain ⟨ce149, hce149, hMe149, hcc149⟩ := Kd.S_get HO_6.out [] (ji75) p149 (by first | exact q149 | exact of_decide_eq_true k31_ | (have e_ := (Kd.S_reads' HO_6.out).1; omega))
                          obtain ⟨ve149_0, rfl, ge149_0⟩ := hMe149
                          have hv149_0 := hcc149 0 _ rfl
                          rw [Nat.add_zero, show ((Kd.slice 3 (Kd.int .i64))).sz = 1 from rfl, Nat.mul_one] at hv149_0
                          replace hv149_0 := Option.some.inj (hv149_0.symm.trans hx149_0)
                          rw [hv149_0] at ge149_0
                          have HL149_0 := Aside0.mk (show Kd.R (Kd.int .i64) 3 _ _ _ _ (rd_Ints t103 (ji75)) from ge149_0)
                          clear hv149_0 ge149_0
                          clear hcc149 hce149
                          have HR149_0 := Aside0.mk hi149_0
                          have HC149_0 := Aside0.mk hl149_0
                          clear hi149_0 hl149_0
                          replace p149 := eq_true p149
                          replace q149 := eq_true q149
                          have p150 : 0 ≤ (0 : Int) := (by omega)
                          have q150 : 0 < ((rd_Ints t103 (ji75)).length : Int) := of_decide_eq_true k31_
                          obtain ⟨ad150, e150, hx150_0⟩ := Kd.at_int k2_ 0 p150 q150
                          cases e150
                          have qi150 : (0 < (rd_Ints t103 (ji75)).length) = True := eq_true (by omega)
                          (try rw [show ((0 : Int)).toNat = 0 from rfl] at hx150_0)
                          (try rw [Addr.add_zero'] at hx150_0)
                          replace p150 := eq_true p150
                          replace q150 := eq_true q150
                          have p151 : 0 ≤ (0 : Int) := (by omega)
                          have q151 : 0 < ((rd_Ints t103 x237_2).length : Int) := of_decide_eq_true k31_
                          obtain ⟨ad151, e151, hx151_0⟩ := Kd.at_int k1_ 0 p151 q151
                          obtain rfl : ad142 = ad151 := (by injection e151)
                          have qi151 : (0 < (rd_Ints t103 x237_2).length) = True := eq_true (by omega)
                          (try rw [show ((0 : Int)).toNat = 0 from rfl] at hx151_0)
                          (try rw [Addr.add_zero'] at hx151_0)
                          replace p151 := eq_true p151
                          replace q151 := eq_true q151
                          have p152 : 0 ≤ (0 : Int) := (by omega)
                          have q152 : 0 < ((rd_Ints t103 x237_2).length : Int) := of_decide_eq_true k31_
                          obtain ⟨ad152, e152, hx152_0⟩ := Kd.at_int k1_ 0 p152 q152
                          obtain rfl : ad142 = ad152 := (by injection e152)
                          have qi152 : (0 < (rd_Ints t103 x237_2).length) = True := eq_true (by omega)
                          (try rw [show ((0 : Int)).toNat = 0 from rfl] at hx152_0)
                          (try rw [Addr.add_zero'] at hx152_0)
                          replace p152 := eq_true p152
                          replace q152 := eq_true q152
                          have p153 : 0 ≤ (0 : Int) := (by omega)
                          have q153 : 0 < ((rd_Ints t103 x237_2).length : Int) := of_decide_eq_true k31_
                          obtain ⟨ad153, e153, hx153_0⟩ := Kd.at_int k1_ 0 p153 q153
                          obtain rfl : ad142 = ad153 := (by injection e153)
                          have qi153 : (0 < (rd_Ints t103 x237_2).length) = True := eq_true (by omega)
                          (try rw [show ((0 : Int)).toNat = 0 from rfl] at hx153_0)
                          (try rw [Addr.add_zero'] at hx153_0)
                          replace p153 := eq_true p153
                          replace q153 := eq_true q153
                          have p154 : 0 ≤ (1 : Int) := (by omega)
                          have q154 : 1 < ((rd_Ints t103 x237_2).length : Int) := of_decide_eq_true k31_
                          obtain ⟨ad154, e154, hx154_0⟩ := Kd.at_int k1_ 1 p154 q154
                          obtain rfl : ad142 = ad154 := (by injection e154)
                          (try simp only [show (1 : Int).toNat = 1 from rfl, Nat.reduceMul, Nat.reduceEqDiff, Go.Addr.add, ↓reduceIte] at hx154_0)
                          have qi154 : (1 < (rd_Ints t103 x237_2).length) = True := eq_true (by omega)
                          (try rw [show ((1 : Int)).toNat = 1 from rfl] at hx154_0)
                          replace p154 := eq_true p154
                          replace q154 := eq_true q154
                          go_wp2
                          repeat (go_quiet (fail); try go_wp2)
                          go_roundg k2
                          case measure => have := HJ19.out; have := HK2.out; omega
                          case rel => exact ⟨(wrap64 (x34_2 + 4)), (wrap64 (x237_2 + 1)), k32_, k32_, H', ⟨by have := HJ19.out; have := HK2.out; omega⟩, ⟨k29_⟩, ⟨k28_⟩, ⟨by apply_rules only [HO_235.out, Kd.S_alloc, Kd.S_drewN, Kd.S_drew]⟩, ⟨k23_⟩⟩
                         ·rw [if_neg c81] at H
                          have c81b0 : ((rd (rd_Ints t103 x237_2) 0) == (rd (rd_Ints t103 x237_2) 1)) = false := beq_eq_false_iff_ne.mpr c81
                          have c81b1 : ((rd (rd_Ints t103 x237_2) 0) != (rd (rd_Ints t103 x237_2) 1)) = true := bne_iff_ne.mpr c81
                          have H' := Aside0.mk H
                          clear H
                          have p141 : 0 ≤ (x237_2 : Int) := of_decide_eq_true k31_
                          have q141 : x237_2 < (t103.length : Int) := of_decide_eq_true k31_
                          obtain ⟨ad141, A141_0, c141_0, e141, hx141_0, hl141_0, hi141_0⟩ := at_Ints (Kd.S_reads' HO_235.out).2.2 x237_2 p141 q141
                          cases e141
                          obtain ⟨ce141, hce141, hMe141, hcc141⟩ := Kd.S_get HO_235.out [] x237_2 p141 k17_
                          obtain ⟨ve141_0, rfl, ge141_0⟩ := hMe141
                          have hv141_0 := hcc141 0 _ rfl
                          rw [Nat.add_zero, show ((Kd.slice 3 (Kd.int .i64))).sz = 1 from rfl, Nat.mul_one] at hv141_0
                          replace hv141_0 := Option.some.inj (hv141_0.symm.trans hx141_0)
                          rw [hv141_0] at ge141_0
                          have HL141_0 := Aside0.mk (show Kd.R (Kd.int .i64) 3 _ _ _ _ (rd_Ints t103 x237_2) from ge141_0)
                          clear hv141_0 ge141_0
                          clear hcc141 hce141
                          have HR141_0 := Aside0.mk hi141_0
                          have HC141_0 := Aside0.mk hl141_0
                          clear hi141_0 hl141_0
                          replace p141 := eq_true p141
                          replace q141 := eq_true q141
                          have p142 : 0 ≤ (0 : Int) := (by omega)
                          have q142 : 0 < ((rd_Ints t103 x237_2).length : Int) := of_decide_eq_true k31_
                          obtain ⟨ad142, e142, hx142_0⟩ := Kd.at_int k1_ 0 p142 q142
                          cases e142
                          have qi142 : (0 < (rd_Ints t103 x237_2).length) = True := eq_true (by omega)
                          (try rw [show ((0 : Int)).toNat = 0 from rfl] at hx142_0)
                          (try rw [Addr.add_zero'] at hx142_0)
                          replace p142 := eq_true p142
                          replace q142 := eq_true q142
                          have p143 : 0 ≤ (0 : Int) := (by omega)
                          have q143 : 0 < ((rd_Ints t103 x237_2).length : Int) := of_decide_eq_true k31_
                          obtain ⟨ad143, e143, hx143_0⟩ := Kd.at_int k1_ 0 p143 q143
                          obtain rfl : ad142 = ad143 := (by injection e143)
                          have qi143 : (0 < (rd_Ints t103 x237_2).length) = True := eq_true (by omega)
                          (try rw [show ((0 : Int)).toNat = 0 from rfl] at hx143_0)
                          (try rw [Addr.add_zero'] at hx143_0)
                          replace p143 := eq_true p143
                          replace q143 := eq_true q143
                          have p144 : 0 ≤ (1 : Int) := (by omega)
                          have q144 : 1 < ((rd_Ints t103 x237_2).length : Int) := of_decide_eq_true k31_
                          obtain ⟨ad144, e144, hx144_0⟩ := Kd.at_int k1_ 1 p144 q144
                          obtain rfl : ad142 = ad144 := (by injection e144)
                          (try simp only [show (1 : Int).toNat = 1 from rfl, Nat.reduceMul, Nat.reduceEqDiff, Go.Addr.add, ↓reduceIte] at hx144_0)
                          have qi144 : (1 < (rd_Ints t103 x237_2).length) = True := eq_true (by omega)
                          (try rw [show ((1 : Int)).toNat = 1 from rfl] at hx144_0)
                          replace p144 := eq_true p144
                          replace q144 := eq_true q144
                          have p145 : 0 ≤ (0 : Int) := (by omega)
                          have q145 : 0 < ((rd_Ints t103 x237_2).length : Int) := of_decide_eq_true k31_
                          obtain ⟨ad145, e145, hx145_0⟩ := Kd.at_int k1_ 0 p145 q145
                          obtain rfl : ad142 = ad145 := (by injection e145)
                          have qi145 : (0 < (rd_Ints t103 x237_2).length) = True := eq_true (by omega)
                          (try rw [show ((0 : Int)).toNat = 0 from rfl] at hx145_0)
                          (try rw [Addr.add_zero'] at hx145_0)
                          replace p145 := eq_true p145
                          replace q145 := eq_true q145
                          have p146 : 0 ≤ (0 : Int) := (by omega)
                          have q146 : 0 < ((rd_Ints t103 x237_2).length : Int) := of_decide_eq_true k31_
                          obtain ⟨ad146, e146, hx146_0⟩ := Kd.at_int k1_ 0 p146 q146
                          obtain rfl : ad142 = ad146 := (by injection e146)
                          have qi146 : (0 < (rd_Ints t103 x237_2).length) = True := eq_true (by omega)
                          (try rw [show ((0 : Int)).toNat = 0 from rfl] at hx146_0)
                          (try rw [Addr.add_zero'] at hx146_0)
                          replace p146 := eq_true p146
                          replace q146 := eq_true q146
                          have p147 : 0 ≤ (1 : Int) := (by omega)
                          have q147 : 1 < ((rd_Ints t103 x237_2).length : Int) := of_decide_eq_true k31_
                          obtain ⟨ad147, e147, hx147_0⟩ := Kd.at_int k1_ 1 p147 q147
                          obtain rfl : ad142 = ad147 := (by injection e147)
                          (try simp only [show (1 : Int).toNat = 1 from rfl, Nat.reduceMul, Nat.reduceEqDiff, Go.Addr.add, ↓reduceIte] at hx147_0)
                          have qi147 : (1 < (rd_Ints t103 x237_2).length) = True := eq_true (by omega)
                          (try rw [show ((1 : Int)).toNat = 1 from rfl] at hx147_0)
                          replace p147 := eq_true p147
                          replace q147 := eq_true q147
                          have p148 : 0 ≤ (1 : Int) := (by omega)
                          have q148 : 1 < ((rd_Ints t103 x237_2).length : Int) := of_decide_eq_true k31_
                          obtain ⟨ad148, e148, hx148_0⟩ := Kd.at_int k1_ 1 p148 q148
                          obtain rfl : ad142 = ad148 := (by injection e148)
                          (try simp only [show (1 : Int).toNat = 1 from rfl, Nat.reduceMul, Nat.reduceEqDiff, Go.Addr.add, ↓reduceIte] at hx148_0)
                          have qi148 : (1 < (rd_Ints t103 x237_2).length) = True := eq_true (by omega)
                          (try rw [show ((1 : Int)).toNat = 1 from rfl] at hx148_0)
                          replace p148 := eq_true p148
                          replace q148 := eq_true q148
                          have p149 : 0 ≤ ((ji75) : Int) := of_decide_eq_true k31_
                          have q149 : (ji75) < (t103.length : Int) := of_decide_eq_true k31_
                          obtain ⟨ad149, A149_0, c149_0, e149, hx149_0, hl149_0, hi149_0⟩ := at_Ints (Kd.S_reads' HO_6.out).2.2 (ji75) p149 q149
                          obtain rfl : ad141 = ad149 := (by injection e149)
                          obtain ⟨ce149, hce149, hMe149, hcc149⟩ := Kd.S_get HO_6.out [] (ji75) p149 (by first | exact q149 | exact of_decide_eq_true k31_ | (have e_ := (Kd.S_reads' HO_6.out).1; omega))
                          obtain ⟨ve149_0, rfl, ge149_0⟩ := hMe149
                          have hv149_0 := hcc149 0 _ rfl
                          rw [Nat.add_zero, show ((Kd.slice 3 (Kd.int .i64))).sz = 1 from rfl, Nat.mul_one] at hv149_0
                          replace hv149_0 := Option.some.inj (hv149_0.symm.trans hx149_0)
                          rw [hv149_0] at ge149_0
                          have HL149_0 := Aside0.mk (show Kd.R (Kd.int .i64) 3 _ _ _ _ (rd_Ints t103 (ji75)) from ge149_0)
                          clear hv149_0 ge149_0
                          clear hcc149 hce149
                          have HR149_0 := Aside0.mk hi149_0
                          have HC149_0 := Aside0.mk hl149_0
                          clear hi149_0 hl149_0
                          replace p149 := eq_true p149
                          replace q149 := eq_true q149
                          have p150 : 0 ≤ (0 : Int) := (by omega)
                          have q150 : 0 < ((rd_Ints t103 (ji75)).length : Int) := of_decide_eq_true k31_
                          obtain ⟨ad150, e150, hx150_0⟩ := Kd.at_int k2_ 0 p150 q150
                          cases e150
                          have qi150 : (0 < (rd_Ints t103 (ji75)).length) = True := eq_true (by omega)
                          (try rw [show ((0 : Int)).toNat = 0 from rfl] at hx150_0)
                          (try rw [Addr.add_zero'] at hx150_0)
                          replace p150 := eq_true p150
                          replace q150 := eq_true q150
                          have p151 : 0 ≤ (0 : Int) := (by omega)
                          have q151 : 0 < ((rd_Ints t103 x237_2).length : Int) := of_decide_eq_true k31_
                          obtain ⟨ad151, e151, hx151_0⟩ := Kd.at_int k1_ 0 p151 q151
                          obtain rfl : ad142 = ad151 := (by injection e151)
                          have qi151 : (0 < (rd_Ints t103 x237_2).length) = True := eq_true (by omega)
                          (try rw [show ((0 : Int)).toNat = 0 from rfl] at hx151_0)
                          (try rw [Addr.add_zero'] at hx151_0)
                          replace p151 := eq_true p151
                          replace q151 := eq_true q151
                          have p152 : 0 ≤ (0 : Int) := (by omega)
                          have q152 : 0 < ((rd_Ints t103 x237_2).length : Int) := of_decide_eq_true k31_
                          obtain ⟨ad152, e152, hx152_0⟩ := Kd.at_int k1_ 0 p152 q152
                          obtain rfl : ad142 = ad152 := (by injection e152)
                          have qi152 : (0 < (rd_Ints t103 x237_2).length) = True := eq_true (by omega)
                          (try rw [show ((0 : Int)).toNat = 0 from rfl] at hx152_0)
                          (try rw [Addr.add_zero'] at hx152_0)
                          replace p152 := eq_true p152
                          replace q152 := eq_true q152
                          have p153 : 0 ≤ (0 : Int) := (by omega)
                          have q153 : 0 < ((rd_Ints t103 x237_2).length : Int) := of_decide_eq_true k31_
                          obtain ⟨ad153, e153, hx153_0⟩ := Kd.at_int k1_ 0 p153 q153
                          obtain rfl : ad142 = ad153 := (by injection e153)
                          have qi153 : (0 < (rd_Ints t103 x237_2).length) = True := eq_true (by omega)
                          (try rw [show ((0 : Int)).toNat = 0 from rfl] at hx153_0)
                          (try rw [Addr.add_zero'] at hx153_0)
                          replace p153 := eq_true p153
                          replace q153 := eq_true q153
                          have p154 : 0 ≤ (1 : Int) := (by omega)
                          have q154 : 1 < ((rd_Ints t103 x237_2).length : Int) := of_decide_eq_true k31_
                          obtain ⟨ad154, e154, hx154_0⟩ := Kd.at_int k1_ 1 p154 q154
                          obtain rfl : ad142 = ad154 := (by injection e154)
                          (try simp only [show (1 : Int).toNat = 1 from rfl, Nat.reduceMul, Nat.reduceEqDiff, Go.Addr.add, ↓reduceIte] at hx154_0)
                          have qi154 : (1 < (rd_Ints t103 x237_2).length) = True := eq_true (by omega)
                          (try rw [show ((1 : Int)).toNat = 1 from rfl] at hx154_0)
                          replace p154 := eq_true p154
                          replace q154 := eq_true q154
                          go_wp2
                          repeat (go_quiet (fail); try go_wp2)
                          go_roundg k2
                          case measure => have := HJ19.out; have := HK2.out; omega
                          case rel => exact ⟨(wrap64 (x34_2 + 8)), (wrap64 (x237_2 + 1)), k32_, k32_, H', ⟨by have := HJ19.out; have := HK2.out; omega⟩, ⟨k29_⟩, ⟨k28_⟩, ⟨by apply_rules only [HO_235.out, Kd.S_alloc, Kd.S_drewN, Kd.S_drew]⟩, ⟨k23_⟩⟩
                      ·rw [if_neg c78] at H
                       exact absurd H (by simp)
                     ·rw [if_neg c77] at H
                      exact absurd H (by simp)
                    ·rw [if_neg c76] at H
                     exact absurd H (by simp)
                   ·rw [if_neg c74] at H
                    have c74b0 : decide (0 < x237_2) = false := decide_eq_false c74
                    clear c74
                    by_cases c82 : (rd (rd_Ints t103 x237_2) 0) = 0
                    ·rw [if_pos c82] at H
                     have c82b0 : ((rd (rd_Ints t103 x237_2) 0) == 0) = true := beq_iff_eq.mpr c82
                     have c82b1 : ((rd (rd_Ints t103 x237_2) 0) != 0) = false := bne_eq_false_iff_eq.mpr c82
                     clear c82
                     have H' := Aside0.mk H
                     clear H
                     have p141 : 0 ≤ (x237_2 : Int) := of_decide_eq_true k31_
                     have q141 : x237_2 < (t103.length : Int) := of_decide_eq_true k31_
                     obtain ⟨ad141, A141_0, c141_0, e141, hx141_0, hl141_0, hi141_0⟩ := at_Ints (Kd.S_reads' HO_235.out).2.2 x237_2 p141 q141
                     cases e141
                     obtain ⟨ce141, hce141, hMe141, hcc141⟩ := Kd.S_get HO_235.out [] x237_2 p141 k17_
                     obtain ⟨ve141_0, rfl, ge141_0⟩ := hMe141
                     have hv141_0 := hcc141 0 _ rfl
                     rw [Nat.add_zero, show ((Kd.slice 3 (Kd.int .i64))).sz = 1 from rfl, Nat.mul_one] at hv141_0
                     replace hv141_0 := Option.some.inj (hv141_0.symm.trans hx141_0)
                     rw [hv141_0] at ge141_0
                     have HL141_0 := Aside0.mk (show Kd.R (Kd.int .i64) 3 _ _ _ _ (rd_Ints t103 x237_2) from ge141_0)
                     clear hv141_0 ge141_0
                     clear hcc141 hce141
                     have HR141_0 := Aside0.mk hi141_0
                     have HC141_0 := Aside0.mk hl141_0
                     clear hi141_0 hl141_0
                     replace p141 := eq_true p141
                     replace q141 := eq_true q141
                     have p142 : 0 ≤ (0 : Int) := (by omega)
                     have q142 : 0 < ((rd_Ints t103 x237_2).length : Int) := of_decide_eq_true k31_
                     obtain ⟨ad142, e142, hx142_0⟩ := Kd.at_int k1_ 0 p142 q142
                     cases e142
                     have qi142 : (0 < (rd_Ints t103 x237_2).length) = True := eq_true (by omega)
                     (try rw [show ((0 : Int)).toNat = 0 from rfl] at hx142_0)
                     (try rw [Addr.add_zero'] at hx142_0)
                     replace p142 := eq_true p142
                     replace q142 := eq_true q142
                     have p143 : 0 ≤ (0 : Int) := (by omega)
                     have q143 : 0 < ((rd_Ints t103 x237_2).length : Int) := of_decide_eq_true k31_
                     obtain ⟨ad143, e143, hx143_0⟩ := Kd.at_int k1_ 0 p143 q143
                     obtain rfl : ad142 = ad143 := (by injection e143)
                     have qi143 : (0 < (rd_Ints t103 x237_2).length) = True := eq_true (by omega)
                     (try rw [show ((0 : Int)).toNat = 0 from rfl] at hx143_0)
                     (try rw [Addr.add_zero'] at hx143_0)
                     replace p143 := eq_true p143
                     replace q143 := eq_true q143
                     have p144 : 0 ≤ (1 : Int) := (by omega)
                     have q144 : 1 < ((rd_Ints t103 x237_2).length : Int) := of_decide_eq_true k31_
                     obtain ⟨ad144, e144, hx144_0⟩ := Kd.at_int k1_ 1 p144 q144
                     obtain rfl : ad142 = ad144 := (by injection e144)
                     (try simp only [show (1 : Int).toNat = 1 from rfl, Nat.reduceMul, Nat.reduceEqDiff, Go.Addr.add, ↓reduceIte] at hx144_0)
                     have qi144 : (1 < (rd_Ints t103 x237_2).length) = True := eq_true (by omega)
                     (try rw [show ((1 : Int)).toNat = 1 from rfl] at hx144_0)
                     replace p144 := eq_true p144
                     replace q144 := eq_true q144
                     have p145 : 0 ≤ (0 : Int) := (by omega)
                     have q145 : 0 < ((rd_Ints t103 x237_2).length : Int) := of_decide_eq_true k31_
                     obtain ⟨ad145, e145, hx145_0⟩ := Kd.at_int k1_ 0 p145 q145
                     obtain rfl : ad142 = ad145 := (by injection e145)
                     have qi145 : (0 < (rd_Ints t103 x237_2).length) = True := eq_true (by omega)
                     (try rw [show ((0 : Int)).toNat = 0 from rfl] at hx145_0)
                     (try rw [Addr.add_zero'] at hx145_0)
                     replace p145 := eq_true p145
                     replace q145 := eq_true q145
                     have p146 : 0 ≤ (0 : Int) := (by omega)
                     have q146 : 0 < ((rd_Ints t103 x237_2).length : Int) := of_decide_eq_true k31_
                     obtain ⟨ad146, e146, hx146_0⟩ := Kd.at_int k1_ 0 p146 q146
                     obtain rfl : ad142 = ad146 := (by injection e146)
                     have qi146 : (0 < (rd_Ints t103 x237_2).length) = True := eq_true (by omega)
                     (try rw [show ((0 : Int)).toNat = 0 from rfl] at hx146_0)
                     (try rw [Addr.add_zero'] at hx146_0)
                     replace p146 := eq_true p146
                     replace q146 := eq_true q146
                     have p147 : 0 ≤ (1 : Int) := (by omega)
                     have q147 : 1 < ((rd_Ints t103 x237_2).length : Int) := of_decide_eq_true k31_
                     obtain ⟨ad147, e147, hx147_0⟩ := Kd.at_int k1_ 1 p147 q147
                     obtain rfl : ad142 = ad147 := (by injection e147)
                     (try simp only [show (1 : Int).toNat = 1 from rfl, Nat.reduceMul, Nat.reduceEqDiff, Go.Addr.add, ↓reduceIte] at hx147_0)
                     have qi147 : (1 < (rd_Ints t103 x237_2).length) = True := eq_true (by omega)
                     (try rw [show ((1 : Int)).toNat = 1 from rfl] at hx147_0)
                     replace p147 := eq_true p147
                     replace q147 := eq_true q147
                     have p148 : 0 ≤ (1 : Int) := (by omega)
                     have q148 : 1 < ((rd_Ints t103 x237_2).length : Int) := of_decide_eq_true k31_
                     obtain ⟨ad148, e148, hx148_0⟩ := Kd.at_int k1_ 1 p148 q148
                     obtain rfl : ad142 = ad148 := (by injection e148)
                     (try simp only [show (1 : Int).toNat = 1 from rfl, Nat.reduceMul, Nat.reduceEqDiff, Go.Addr.add, ↓reduceIte] at hx148_0)
                     have qi148 : (1 < (rd_Ints t103 x237_2).length) = True := eq_true (by omega)
                     (try rw [show ((1 : Int)).toNat = 1 from rfl] at hx148_0)
                     replace p148 := eq_true p148
                     replace q148 := eq_true q148
                     have p155 : 0 ≤ (0 : Int) := (by omega)
                     have q155 : 0 < ((rd_Ints t103 x237_2).length : Int) := of_decide_eq_true k31_
                     obtain ⟨ad155, e155, hx155_0⟩ := Kd.at_int k1_ 0 p155 q155
                     obtain rfl : ad142 = ad155 := (by injection e155)
                     have qi155 : (0 < (rd_Ints t103 x237_2).length) = True := eq_true (by omega)
                     (try rw [show ((0 : Int)).toNat = 0 from rfl] at hx155_0)
                     (try rw [Addr.add_zero'] at hx155_0)
                     replace p155 := eq_true p155
                     replace q155 := eq_true q155
                     go_wp2
                     repeat (go_quiet (fail); try go_wp2)
                     go_roundg k2
                     case measure => have := HJ19.out; have := HK2.out; omega
                     case rel => exact ⟨(wrap64 (x34_2 + 4)), (wrap64 (x237_2 + 1)), k32_, k32_, H', ⟨by have := HJ19.out; have := HK2.out; omega⟩, ⟨k29_⟩, ⟨k28_⟩, ⟨by apply_rules only [HO_235.out, Kd.S_alloc, Kd.S_drewN, Kd.S_drew]⟩, ⟨k23_⟩⟩
                    ·rw [if_neg c82] at H
                     have c82b0 : ((rd (rd_Ints t103 x237_2) 0) == 0) = false := beq_eq_false_iff_ne.mpr c82
                     have c82b1 : ((rd (rd_Ints t103 x237_2) 0) != 0) = true := bne_iff_ne.mpr c82
                     by_cases c83 : (rd (rd_Ints t103 x237_2) 0) = (rd (rd_Ints t103 x237_2) 1)
                     ·rw [if_pos c83] at H
                      have c83b0 : ((rd (rd_Ints t103 x237_2) 0) == (rd (rd_Ints t103 x237_2) 1)) = true := beq_iff_eq.mpr c83
                      have c83b1 : ((rd (rd_Ints t103 x237_2) 0) != (rd (rd_Ints t103 x237_2) 1)) = false := bne_eq_false_iff_eq.mpr c83
                      clear c83
                      have H' := Aside0.mk H
                      clear H
                      have p141 : 0 ≤ (x237_2 : Int) := of_decide_eq_true k31_
                      have q141 : x237_2 < (t103.length : Int) := of_decide_eq_true k31_
                      obtain ⟨ad141, A141_0, c141_0, e141, hx141_0, hl141_0, hi141_0⟩ := at_Ints (Kd.S_reads' HO_235.out).2.2 x237_2 p141 q141
                      cases e141
                      obtain ⟨ce141, hce141, hMe141, hcc141⟩ := Kd.S_get HO_235.out [] x237_2 p141 k17_
                      obtain ⟨ve141_0, rfl, ge141_0⟩ := hMe141
                      have hv141_0 := hcc141 0 _ rfl
                      rw [Nat.add_zero, show ((Kd.slice 3 (Kd.int .i64))).sz = 1 from rfl, Nat.mul_one] at hv141_0
                      replace hv141_0 := Option.some.inj (hv141_0.symm.trans hx141_0)
                      rw [hv141_0] at ge141_0
                      have HL141_0 := Aside0.mk (show Kd.R (Kd.int .i64) 3 _ _ _ _ (rd_Ints t103 x237_2) from ge141_0)
                      clear hv141_0 ge141_0
                      clear hcc141 hce141
                      have HR141_0 := Aside0.mk hi141_0
                      have HC141_0 := Aside0.mk hl141_0
                      clear hi141_0 hl141_0
                      replace p141 := eq_true p141
                      replace q141 := eq_true q141
                      have p142 : 0 ≤ (0 : Int) := (by omega)
                      have q142 : 0 < ((rd_Ints t103 x237_2).length : Int) := of_decide_eq_true k31_
                      obtain ⟨ad142, e142, hx142_0⟩ := Kd.at_int k1_ 0 p142 q142
                      cases e142
                      have qi142 : (0 < (rd_Ints t103 x237_2).length) = True := eq_true (by omega)
                      (try rw [show ((0 : Int)).toNat = 0 from rfl] at hx142_0)
                      (try rw [Addr.add_zero'] at hx142_0)
                      replace p142 := eq_true p142
                      replace q142 := eq_true q142
                      have p143 : 0 ≤ (0 : Int) := (by omega)
                      have q143 : 0 < ((rd_Ints t103 x237_2).length : Int) := of_decide_eq_true k31_
                      obtain ⟨ad143, e143, hx143_0⟩ := Kd.at_int k1_ 0 p143 q143
                      obtain rfl : ad142 = ad143 := (by injection e143)
                      have qi143 : (0 < (rd_Ints t103 x237_2).length) = True := eq_true (by omega)
                      (try rw [show ((0 : Int)).toNat = 0 from rfl] at hx143_0)
                      (try rw [Addr.add_zero'] at hx143_0)
                      replace p143 := eq_true p143
                      replace q143 := eq_true q143
                      have p144 : 0 ≤ (1 : Int) := (by omega)
                      have q144 : 1 < ((rd_Ints t103 x237_2).length : Int) := of_decide_eq_true k31_
                      obtain ⟨ad144, e144, hx144_0⟩ := Kd.at_int k1_ 1 p144 q144
                      obtain rfl : ad142 = ad144 := (by injection e144)
                      (try simp only [show (1 : Int).toNat = 1 from rfl, Nat.reduceMul, Nat.reduceEqDiff, Go.Addr.add, ↓reduceIte] at hx144_0)
                      have qi144 : (1 < (rd_Ints t103 x237_2).length) = True := eq_true (by omega)
                      (try rw [show ((1 : Int)).toNat = 1 from rfl] at hx144_0)
                      replace p144 := eq_true p144
                      replace q144 := eq_true q144
                      have p145 : 0 ≤ (0 : Int) := (by omega)
                      have q145 : 0 < ((rd_Ints t103 x237_2).length : Int) := of_decide_eq_true k31_
                      obtain ⟨ad145, e145, hx145_0⟩ := Kd.at_int k1_ 0 p145 q145
                      obtain rfl : ad142 = ad145 := (by injection e145)
                      have qi145 : (0 < (rd_Ints t103 x237_2).length) = True := eq_true (by omega)
                      (try rw [show ((0 : Int)).toNat = 0 from rfl] at hx145_0)
                      (try rw [Addr.add_zero'] at hx145_0)
                      replace p145 := eq_true p145
                      replace q145 := eq_true q145
                      have p146 : 0 ≤ (0 : Int) := (by omega)
                      have q146 : 0 < ((rd_Ints t103 x237_2).length : Int) := of_decide_eq_true k31_
                      obtain ⟨ad146, e146, hx146_0⟩ := Kd.at_int k1_ 0 p146 q146
                      obtain rfl : ad142 = ad146 := (by injection e146)
                      have qi146 : (0 < (rd_Ints t103 x237_2).length) = True := eq_true (by omega)
                      (try rw [show ((0 : Int)).toNat = 0 from rfl] at hx146_0)
                      (try rw [Addr.add_zero'] at hx146_0)
                      replace p146 := eq_true p146
                      replace q146 := eq_true q146
                      have p147 : 0 ≤ (1 : Int) := (by omega)
                      have q147 : 1 < ((rd_Ints t103 x237_2).length : Int) := of_decide_eq_true k31_
                      obtain ⟨ad147, e147, hx147_0⟩ := Kd.at_int k1_ 1 p147 q147
                      obtain rfl : ad142 = ad147 := (by injection e147)
                      (try simp only [show (1 : Int).toNat = 1 from rfl, Nat.reduceMul, Nat.reduceEqDiff, Go.Addr.add, ↓reduceIte] at hx147_0)
                      have qi147 : (1 < (rd_Ints t103 x237_2).length) = True := eq_true (by omega)
                      (try rw [show ((1 : Int)).toNat = 1 from rfl] at hx147_0)
                      replace p147 := eq_true p147
                      replace q147 := eq_true q147
                      have p148 : 0 ≤ (1 : Int) := (by omega)
                      have q148 : 1 < ((rd_Ints t103 x237_2).length : Int) := of_decide_eq_true k31_
                      obtain ⟨ad148, e148, hx148_0⟩ := Kd.at_int k1_ 1 p148 q148
                      obtain rfl : ad142 = ad148 := (by injection e148)
                      (try simp only [show (1 : Int).toNat = 1 from rfl, Nat.reduceMul, Nat.reduceEqDiff, Go.Addr.add, ↓reduceIte] at hx148_0)
                      have qi148 : (1 < (rd_Ints t103 x237_2).length) = True := eq_true (by omega)
                      (try rw [show ((1 : Int)).toNat = 1 from rfl] at hx148_0)
                      replace p148 := eq_true p148
                      replace q148 := eq_true q148
                      have p155 : 0 ≤ (0 : Int) := (by omega)
                      have q155 : 0 < ((rd_Ints t103 x237_2).length : Int) := of_decide_eq_true k31_
                      obtain ⟨ad155, e155, hx155_0⟩ := Kd.at_int k1_ 0 p155 q155
                      obtain rfl : ad142 = ad155 := (by injection e155)
                      have qi155 : (0 < (rd_Ints t103 x237_2).length) = True := eq_true (by omega)
                      (try rw [show ((0 : Int)).toNat = 0 from rfl] at hx155_0)
                      (try rw [Addr.add_zero'] at hx155_0)
                      replace p155 := eq_true p155
                      replace q155 := eq_true q155
                      have p156 : 0 ≤ (0 : Int) := (by omega)
                      have q156 : 0 < ((rd_Ints t103 x237_2).length : Int) := of_decide_eq_true k31_
                      obtain ⟨ad156, e156, hx156_0⟩ := Kd.at_int k1_ 0 p156 q156
                      obtain rfl : ad142 = ad156 := (by injection e156)
                      have qi156 : (0 < (rd_Ints t103 x237_2).length) = True := eq_true (by omega)
                      (try rw [show ((0 : Int)).toNat = 0 from rfl] at hx156_0)
                      (try rw [Addr.add_zero'] at hx156_0)
                      replace p156 := eq_true p156
                      replace q156 := eq_true q156
                      have p157 : 0 ≤ (1 : Int) := (by omega)
                      have q157 : 1 < ((rd_Ints t103 x237_2).length : Int) := of_decide_eq_true k31_
                      obtain ⟨ad157, e157, hx157_0⟩ := Kd.at_int k1_ 1 p157 q157
                      obtain rfl : ad142 = ad157 := (by injection e157)
                      (try simp only [show (1 : Int).toNat = 1 from rfl, Nat.reduceMul, Nat.reduceEqDiff, Go.Addr.add, ↓reduceIte] at hx157_0)
                      have qi157 : (1 < (rd_Ints t103 x237_2).length) = True := eq_true (by omega)
                      (try rw [show ((1 : Int)).toNat = 1 from rfl] at hx157_0)
                      replace p157 := eq_true p157
                      replace q157 := eq_true q157
                      go_wp2
                      repeat (go_quiet (fail); try go_wp2)
                      go_roundg k2
                      case measure => have := HJ19.out; have := HK2.out; omega
                      case rel => exact ⟨(wrap64 (x34_2 + 4)), (wrap64 (x237_2 + 1)), k32_, k32_, H', ⟨by have := HJ19.out; have := HK2.out; omega⟩, ⟨k29_⟩, ⟨k28_⟩, ⟨by apply_rules only [HO_235.out, Kd.S_alloc, Kd.S_drewN, Kd.S_drew]⟩, ⟨k23_⟩⟩
                     ·rw [if_neg c83] at H
                      have c83b0 : ((rd (rd_Ints t103 x237_2) 0) == (rd (rd_Ints t103 x237_2) 1)) = false := beq_eq_false_iff_ne.mpr c83
                      have c83b1 : ((rd (rd_Ints t103 x237_2) 0) != (rd (rd_Ints t103 x237_2) 1)) = true := bne_iff_ne.mpr c83
                      have H' := Aside0.mk H
                      clear H
                      have p141 : 0 ≤ (x237_2 : Int) := of_decide_eq_true k31_
                      have q141 : x237_2 < (t103.length : Int) := of_decide_eq_true k31_
                      obtain ⟨ad141, A141_0, c141_0, e141, hx141_0, hl141_0, hi141_0⟩ := at_Ints (Kd.S_reads' HO_235.out).2.2 x237_2 p141 q141
                      cases e141
                      obtain ⟨ce141, hce141, hMe141, hcc141⟩ := Kd.S_get HO_235.out [] x237_2 p141 k17_
                      obtain ⟨ve141_0, rfl, ge141_0⟩ := hMe141
                      have hv141_0 := hcc141 0 _ rfl
                      rw [Nat.add_zero, show ((Kd.slice 3 (Kd.int .i64))).sz = 1 from rfl, Nat.mul_one] at hv141_0
                      replace hv141_0 := Option.some.inj (hv141_0.symm.trans hx141_0)
                      rw [hv141_0] at ge141_0
                      have HL141_0 := Aside0.mk (show Kd.R (Kd.int .i64) 3 _ _ _ _ (rd_Ints t103 x237_2) from ge141_0)
                      clear hv141_0 ge141_0
                      clear hcc141 hce141
                      have HR141_0 := Aside0.mk hi141_0
                      have HC141_0 := Aside0.mk hl141_0
                      clear hi141_0 hl141_0
                      replace p141 := eq_true p141
                      replace q141 := eq_true q141
                      have p142 : 0 ≤ (0 : Int) := (by omega)
                      have q142 : 0 < ((rd_Ints t103 x237_2).length : Int) := of_decide_eq_true k31_
                      obtain ⟨ad142, e142, hx142_0⟩ := Kd.at_int k1_ 0 p142 q142
                      cases e142
                      have qi142 : (0 < (rd_Ints t103 x237_2).length) = True := eq_true (by omega)
                      (try rw [show ((0 : Int)).toNat = 0 from rfl] at hx142_0)
                      (try rw [Addr.add_zero'] at hx142_0)
                      replace p142 := eq_true p142
                      replace q142 := eq_true q142
                      have p143 : 0 ≤ (0 : Int) := (by omega)
                      have q143 : 0 < ((rd_Ints t103 x237_2).length : Int) := of_decide_eq_true k31_
                      obtain ⟨ad143, e143, hx143_0⟩ := Kd.at_int k1_ 0 p143 q143
                      obtain rfl : ad142 = ad143 := (by injection e143)
                      have qi143 : (0 < (rd_Ints t103 x237_2).length) = True := eq_true (by omega)
                      (try rw [show ((0 : Int)).toNat = 0 from rfl] at hx143_0)
                      (try rw [Addr.add_zero'] at hx143_0)
                      replace p143 := eq_true p143
                      replace q143 := eq_true q143
                      have p144 : 0 ≤ (1 : Int) := (by omega)
                      have q144 : 1 < ((rd_Ints t103 x237_2).length : Int) := of_decide_eq_true k31_
                      obtain ⟨ad144, e144, hx144_0⟩ := Kd.at_int k1_ 1 p144 q144
                      obtain rfl : ad142 = ad144 := (by injection e144)
                      (try simp only [show (1 : Int).toNat = 1 from rfl, Nat.reduceMul, Nat.reduceEqDiff, Go.Addr.add, ↓reduceIte] at hx144_0)
                      have qi144 : (1 < (rd_Ints t103 x237_2).length) = True := eq_true (by omega)
                      (try rw [show ((1 : Int)).toNat = 1 from rfl] at hx144_0)
                      replace p144 := eq_true p144
                      replace q144 := eq_true q144
                      have p145 : 0 ≤ (0 : Int) := (by omega)
                      have q145 : 0 < ((rd_Ints t103 x237_2).length : Int) := of_decide_eq_true k31_
                      obtain ⟨ad145, e145, hx145_0⟩ := Kd.at_int k1_ 0 p145 q145
                      obtain rfl : ad142 = ad145 := (by injection e145)
                      have qi145 : (0 < (rd_Ints t103 x237_2).length) = True := eq_true (by omega)
                      (try rw [show ((0 : Int)).toNat = 0 from rfl] at hx145_0)
                      (try rw [Addr.add_zero'] at hx145_0)
                      replace p145 := eq_true p145
                      replace q145 := eq_true q145
                      have p146 : 0 ≤ (0 : Int) := (by omega)
                      have q146 : 0 < ((rd_Ints t103 x237_2).length : Int) := of_decide_eq_true k31_
                      obtain ⟨ad146, e146, hx146_0⟩ := Kd.at_int k1_ 0 p146 q146
                      obtain rfl : ad142 = ad146 := (by injection e146)
                      have qi146 : (0 < (rd_Ints t103 x237_2).length) = True := eq_true (by omega)
                      (try rw [show ((0 : Int)).toNat = 0 from rfl] at hx146_0)
                      (try rw [Addr.add_zero'] at hx146_0)
                      replace p146 := eq_true p146
                      replace q146 := eq_true q146
                      have p147 : 0 ≤ (1 : Int) := (by omega)
                      have q147 : 1 < ((rd_Ints t103 x237_2).length : Int) := of_decide_eq_true k31_
                      obtain ⟨ad147, e147, hx147_0⟩ := Kd.at_int k1_ 1 p147 q147
                      obtain rfl : ad142 = ad147 := (by injection e147)
                      (try simp only [show (1 : Int).toNat = 1 from rfl, Nat.reduceMul, Nat.reduceEqDiff, Go.Addr.add, ↓reduceIte] at hx147_0)
                      have qi147 : (1 < (rd_Ints t103 x237_2).length) = True := eq_true (by omega)
                      (try rw [show ((1 : Int)).toNat = 1 from rfl] at hx147_0)
                      replace p147 := eq_true p147
                      replace q147 := eq_true q147
                      have p148 : 0 ≤ (1 : Int) := (by omega)
                      have q148 : 1 < ((rd_Ints t103 x237_2).length : Int) := of_decide_eq_true k31_
                      obtain ⟨ad148, e148, hx148_0⟩ := Kd.at_int k1_ 1 p148 q148
                      obtain rfl : ad142 = ad148 := (by injection e148)
                      (try simp only [show (1 : Int).toNat = 1 from rfl, Nat.reduceMul, Nat.reduceEqDiff, Go.Addr.add, ↓reduceIte] at hx148_0)
                      have qi148 : (1 < (rd_Ints t103 x237_2).length) = True := eq_true (by omega)
                      (try rw [show ((1 : Int)).toNat = 1 from rfl] at hx148_0)
                      replace p148 := eq_true p148
                      replace q148 := eq_true q148
                      have p155 : 0 ≤ (0 : Int) := (by omega)
                      have q155 : 0 < ((rd_Ints t103 x237_2).length : Int) := of_decide_eq_true k31_
                      obtain ⟨ad155, e155, hx155_0⟩ := Kd.at_int k1_ 0 p155 q155
                      obtain rfl : ad142 = ad155 := (by injection e155)
                      have qi155 : (0 < (rd_Ints t103 x237_2).length) = True := eq_true (by omega)
                      (try rw [show ((0 : Int)).toNat = 0 from rfl] at hx155_0)
                      (try rw [Addr.add_zero'] at hx155_0)
                      replace p155 := eq_true p155
                      replace q155 := eq_true q155
                      have p156 : 0 ≤ (0 : Int) := (by omega)
                      have q156 : 0 < ((rd_Ints t103 x237_2).length : Int) := of_decide_eq_true k31_
                      obtain ⟨ad156, e156, hx156_0⟩ := Kd.at_int k1_ 0 p156 q156
                      obtain rfl : ad142 = ad156 := (by injection e156)
                      have qi156 : (0 < (rd_Ints t103 x237_2).length) = True := eq_true (by omega)
                      (try rw [show ((0 : Int)).toNat = 0 from rfl] at hx156_0)
                      (try rw [Addr.add_zero'] at hx156_0)
                      replace p156 := eq_true p156
                      replace q156 := eq_true q156
                      have p157 : 0 ≤ (1 : Int) := (by omega)
                      have q157 : 1 < ((rd_Ints t103 x237_2).length : Int) := of_decide_eq_true k31_
                      obtain ⟨ad157, e157, hx157_0⟩ := Kd.at_int k1_ 1 p157 q157
                      obtain rfl : ad142 = ad157 := (by injection e157)
                      (try simp only [show (1 : Int).toNat = 1 from rfl, Nat.reduceMul, Nat.reduceEqDiff, Go.Addr.add, ↓reduceIte] at hx157_0)
                      have qi157 : (1 < (rd_Ints t103 x237_2).length) = True := eq_true (by omega)
                      (try rw [show ((1 : Int)).toNat = 1 from rfl] at hx157_0)
                      replace p157 := eq_true p157
                      replace q157 := eq_true q157
                      go_wp2
                      repeat (go_quiet (fail); try go_wp2)
                      go_roundg k2
                      case measure => have := HJ19.out; have := HK2.out; omega
                      case rel => exact ⟨(wrap64 (x34_2 + 8)), (wrap64 (x237_2 + 1)), k32_, k32_, H', ⟨by have := HJ19.out; have := HK2.out; omega⟩, ⟨k29_⟩, ⟨k28_⟩, ⟨by apply_rules only [HO_235.out, Kd.S_alloc, Kd.S_drewN, Kd.S_drew]⟩, ⟨k23_⟩⟩
                  ·rw [if_neg c73] at H
                   have c73b0 : ((wrap64 ((wrap64 ((rd (rd_Ints t103 x237_2) 0) * (rd (rd_Ints t103 x237_2) 0))) + (wrap64 ((rd (rd_Ints t103 x237_2) 1) * (rd (rd_Ints t103 x237_2) 1))))) == t102) = false := beq_eq_false_iff_ne.mpr c73
                   have c73b1 : ((wrap64 ((wrap64 ((rd (rd_Ints t103 x237_2) 0) * (rd (rd_Ints t103 x237_2) 0))) + (wrap64 ((rd (rd_Ints t103 x237_2) 1) * (rd (rd_Ints t103 x237_2) 1))))) != t102) = true := bne_iff_ne.mpr c73
                   exact absurd H (by simp)
                ·rw [if_neg c71] at H
                 exact absurd H (by simp)
              ·rw [if_neg c69] at H
               exact absurd H (by simp)
             ·rw [if_neg c68] at H
              have c68b0 : (((rd_Ints t103 x237_2).length : Int) == 2) = false := beq_eq_false_iff_ne.mpr c68
              have c68b1 : (((rd_Ints t103 x237_2).length : Int) != 2) = true := bne_iff_ne.mpr c68
              exact absurd H (by simp)
            ·rw [if_neg c67] at H
             exact absurd H (by simp)
           ·rw [if_neg c66] at H
            exact absurd H (by simp)
          ·rw [if_neg c65] at H
           have c65b0 : decide (x237_2 < (t103.length : Int)) = false := decide_eq_false c65
           clear c65
           (first | rw [c65b0] | rw [c65b1] | (simp only [i64_w, i32_w]; rw [c65b0]) | skip)
           have HC84 := Aside0.mk H
           clear H
           go_upto_region 32 with (fail)
           repeat (go_quiet (fail); go_upto_region 32 with (fail))
           go_cut [333] from 238 to 333 (fun v333 wc => ∃ (kq : Nat) (x333_83 : Bool), v333 = .bool x333_83 ∧ Aside0 (laws_FnSumsOfSquares.j2 kq l1 t102 true t111 t115 t119 t123 t124 t135 x333_83 = some true) ∧ Aside0 (kq ≤ k2) ∧ Aside0 (Kd.R (Kd.int .i64) 3 wc w.heap.size (fun _ => True) v125 t123) ∧ Aside0 (Below w.heap.size w wc))
           case first =>
            as_aux_lemma =>
             have H := HC84.out
             clear HC84
             by_cases c85 : x34_2 = t111
             ·rw [if_pos c85] at H
              have c85b0 : (x34_2 == t111) = true := beq_iff_eq.mpr c85
              have c85b1 : (x34_2 != t111) = false := bne_eq_false_iff_eq.mpr c85
              clear c85
              (first | rw [c85b0] | rw [c85b1] | (simp only [i64_w, i32_w]; rw [c85b0]) | skip)
              by_cases c86 : (t115 != (decide ((t103.length : Int) > 0))) = true
              ·rw [if_pos c86] at H
               have c86b0 : (t115 != (decide ((t103.length : Int) > 0))) = true := c86
               (try (have c86b1 : decide (t115 = (decide ((t103.length : Int) > 0))) = false := by simpa using c86))
               (try (have c86b2 : (t115 == (decide ((t103.length : Int) > 0))) = false := by simpa using c86))
               (try (have c86b3 : ¬ (t115 = (decide ((t103.length : Int) > 0))) := by simpa using c86))
               clear c86
               exact absurd H (by simp)
              ·rw [if_neg c86] at H
               have c86b0 : (t115 != (decide ((t103.length : Int) > 0))) = false := by simpa using c86
               (try (have c86b1 : decide (t115 = (decide ((t103.length : Int) > 0))) = true := by simpa using c86))
               (try (have c86b2 : (t115 == (decide ((t103.length : Int) > 0))) = true := by simpa using c86))
               have HQ_ := Aside0.mk (show decide (0 < (t103.length : Int)) = t115 ∧ decide (0 < t103.length) = t115 from bne_dec c86)
               clear c86
               by_cases c87 : t115 = true
               ·subst c87
                clear c86b0 c86b1 c86b2
                have hq0_ : decide (0 < (t103.length : Int)) = true := HQ_.out.1
                have hq1_ : decide (0 < t103.length) = true := HQ_.out.2
                rw [if_pos rfl] at H
                by_cases c88 : t119 = true
                ·subst c88
                 rw [if_pos rfl] at H
                 have H' := Aside0.mk H
                 clear H
                 go_wp2
                 repeat (go_quiet (fail); try go_wp2)
                 go_meet
                 case rel => exact ⟨_, (decide (t131 < 8)), k32_, H', ⟨by have := HJ19.out; have := HK2.out; first | omega | exact Nat.le_refl _⟩, ⟨k28_⟩, ⟨k23_⟩⟩
                ·replace c88 := Bool.eq_false_iff.mpr c88
                 subst c88
                 rw [if_neg (show ¬ (false = true) by decide)] at H
                 exact absurd H (by simp)
               ·replace c87 := Bool.eq_false_iff.mpr c87
                subst c87
                clear c86b0 c86b1 c86b2
                have hq0_ : decide (0 < (t103.length : Int)) = false := HQ_.out.1
                have hq1_ : decide (0 < t103.length) = false := HQ_.out.2
                rw [if_neg (show ¬ (false = true) by decide)] at H
                have H' := Aside0.mk H
                clear H
                go_wp2
                repeat (go_quiet (fail); try go_wp2)
                go_meet
                case rel => exact ⟨_, (decide (t131 < 8)), k32_, H', ⟨by have := HJ19.out; have := HK2.out; first | omega | exact Nat.le_refl _⟩, ⟨k28_⟩, ⟨k23_⟩⟩
             ·rw [if_neg c85] at H
              have c85b0 : (x34_2 == t111) = false := beq_eq_false_iff_ne.mpr c85
              have c85b1 : (x34_2 != t111) = true := bne_iff_ne.mpr c85
              (first | rw [c85b0] | rw [c85b1] | (simp only [i64_w, i32_w]; rw [c85b0]) | skip)
              exact absurd H (by simp)
           case rest =>
            as_aux_lemma =>
             clear HC84
             (try clear c65); (try clear c65b0); (try clear c65b1)
             obtain ⟨kq, x333_83, rfl, HA, HJ83, HO_22, HB⟩ := hcut
             cases kq with
             | zero => exact absurd HA.out (by simp [laws_FnSumsOfSquares.j2])
             | succ kj83 =>
              have H := HA.out
              clear HA
              simp only [laws_FnSumsOfSquares.j2] at H
              by_cases c89 : x333_83 = true
              ·subst c89
               rw [if_pos rfl] at H
               exact absurd H (by simp)
              ·replace c89 := Bool.eq_false_iff.mpr c89
               subst c89
               rw [if_neg (show ¬ (false = true) by decide)] at H
               by_cases c90 : t102 > 1
               ·rw [if_pos c90] at H
                have c90b0 : decide (1 < t102) = true := decide_eq_true c90
                clear c90
                obtain ⟨⟨t158, t159⟩, A91, H⟩ := obnd_ H
                (try dsimp only at H)
                by_cases c92 : t159 = true
                ·subst c92
                 rw [if_pos rfl] at H
                 by_cases c93 : (wrap64 (t135 - t158)) = t111
                 ·rw [if_pos c93] at H
                  have c93b0 : ((wrap64 (t135 - t158)) == t111) = true := beq_iff_eq.mpr c93
                  have c93b1 : ((wrap64 (t135 - t158)) != t111) = false := bne_eq_false_iff_eq.mpr c93
                  clear c93
                  have H' := Aside0.mk H
                  clear H
                  go_wp2_with (first | (go_at_call 18; (with_reducible refine (impl_CountInCircle.calls kj83 (wrap64 (t102 - 1)) t158 true _ A91.out).mono ?_); rintro e w' ⟨rfl, ⟨nd, rfl⟩⟩; (try first | exact ⟨rfl, _, World.drewN_drewN _ _ _⟩ | exact ⟨rfl, _, Eq.trans (World.drewN_drewN _ _ _) (congrArg (World.drewN _) (Nat.add_assoc _ _ _))⟩)))
                  repeat (go_quiet (first | (go_at_call 18; (with_reducible refine (impl_CountInCircle.calls kj83 (wrap64 (t102 - 1)) t158 true _ A91.out).mono ?_); rintro e w' ⟨rfl, ⟨nd, rfl⟩⟩; (try first | exact ⟨rfl, _, World.drewN_drewN _ _ _⟩ | exact ⟨rfl, _, Eq.trans (World.drewN_drewN _ _ _) (congrArg (World.drewN _) (Nat.add_assoc _ _ _))⟩))); try go_wp2_with (first | (go_at_call 18; (with_reducible refine (impl_CountInCircle.calls kj83 (wrap64 (t102 - 1)) t158 true _ A91.out).mono ?_); rintro e w' ⟨rfl, ⟨nd, rfl⟩⟩; (try first | exact ⟨rfl, _, World.drewN_drewN _ _ _⟩ | exact ⟨rfl, _, Eq.trans (World.drewN_drewN _ _ _) (congrArg (World.drewN _) (Nat.add_assoc _ _ _))⟩))))
                  go_meet
                  case rel => exact ⟨_, H', ⟨by have := HJ19.out; have := HK2.out; have := HJ83.out; first | omega | exact Nat.le_refl _⟩, ⟨k28_⟩, ⟨k23_⟩⟩
                 ·rw [if_neg c93] at H
                  have c93b0 : ((wrap64 (t135 - t158)) == t111) = false := beq_eq_false_iff_ne.mpr c93
                  have c93b1 : ((wrap64 (t135 - t158)) != t111) = true := bne_iff_ne.mpr c93
                  exact absurd H (by simp)
                ·replace c92 := Bool.eq_false_iff.mpr c92
                 subst c92
                 rw [if_neg (show ¬ (false = true) by decide)] at H
                 exact absurd H (by simp)
               ·rw [if_neg c90] at H
                have c90b0 : decide (1 < t102) = false := decide_eq_false c90
                clear c90
                by_cases c94 : t135 = 5
                ·rw [if_pos c94] at H
                 have c94b0 : (t135 == 5) = true := beq_iff_eq.mpr c94
                 have c94b1 : (t135 != 5) = false := bne_eq_false_iff_eq.mpr c94
                 clear c94
                 have H' := Aside0.mk H
                 clear H
                 go_wp2
                 repeat (go_quiet (fail); try go_wp2)
                 go_meet
                 case rel => exact ⟨_, H', ⟨by have := HJ19.out; have := HK2.out; have := HJ83.out; first | omega | exact Nat.le_refl _⟩, ⟨k28_⟩, ⟨k23_⟩⟩
                ·rw [if_neg c94] at H
                 have c94b0 : (t135 == 5) = false := beq_eq_false_iff_ne.mpr c94
                 have c94b1 : (t135 != 5) = true := bne_iff_ne.mpr c94
                 exact absurd H (by simp)
       ·replace c63 := Bool.eq_false_iff.mpr c63
        subst c63
        rw [if_neg (show ¬ (false = true) by decide)] at H
        have H' := Aside0.mk H
        clear H
        go_wp2
        repeat (go_quiet (fail); try go_wp2)
        go_meet
        case rel => exact ⟨_, H', ⟨by have := HJ19.out; first | omega | exact Nat.le_refl _⟩, ⟨k28_⟩, ⟨k23_⟩⟩
     case rest =>
      as_aux_lemma =>
       clear HC62
       obtain ⟨kq, HA, HJ61, HO_22, HB⟩ := hcut
       cases kq with
       | zero => exact absurd HA.out (by simp [laws_FnSumsOfSquares.j3])
       | succ kj61 =>
        have H := HA.out
        clear HA
        simp only [laws_FnSumsOfSquares.j3] at H
        have HC95 := Aside0.mk H
        clear H
        go_upto_if 353 with (fail)
        repeat (go_quiet (fail); go_upto_if 353 with (fail))
        go_cut [] from 353 to 353 (fun wc => ∃ (kq : Nat), Aside0 (laws_FnSumsOfSquares.j5 kq l1 t102 t104 t115 = some true) ∧ Aside0 (kq ≤ kj61) ∧ Aside0 (Below w.heap.size w wc))
        case first =>
         as_aux_lemma =>
          have H := HC95.out
          clear HC95
          by_cases c96 : t124 = true
          ·subst c96
           rw [if_pos rfl] at H
           have H' := Aside0.mk H
           clear H
           obtain ⟨Ao97, co97, eo97⟩ := Kd.R_slice HO_22.out
           subst eo97
           go_wp2
           repeat (go_quiet (fail); try go_wp2)
           go_loopg [40, 356] kj61 (fun kq v40 v356 w' => ∃ (x40_3 : Int) (x356_3 : Int), v40 = .int .i64 x40_3 ∧ v356 = .int .i64 x356_3 ∧ Aside0 (laws_FnSumsOfSquares.l1 kq l1 t102 t104 t115 t119 t123 x40_3 t123 (t123.length : Int) x356_3 = some true) ∧ Aside0 (kq ≤ kj61) ∧ Aside0 (Kd.R (Kd.int .i64) 3 w' w.heap.size (fun _ => True) (.slice Ao97 t123.length co97) t123) ∧ Aside0 (Kd.R (Kd.int .i64) 3 w' w.heap.size (fun _ => True) (.slice Ao97 t123.length co97) t123) ∧ Aside0 (Below w.heap.size w w'))
           case atStart => exact ⟨(0), (0), k32_, k32_, H', ⟨Nat.le_refl _⟩, ⟨k28_⟩, ⟨k28_⟩, ⟨k23_⟩⟩
           case round =>
            clear H'
            (try clear c96)
            obtain ⟨x40_3, x356_3, rfl, rfl, HA, HK3, HO_22, HO_354, HB⟩ := hrel
            cases gk with
            | zero => exact absurd HA.out (by simp [laws_FnSumsOfSquares.l1])
            | succ k3 =>
             have H := HA.out
             clear HA
             simp only [laws_FnSumsOfSquares.l1] at H
             by_cases c98 : x356_3 < (t123.length : Int)
             ·rw [if_pos c98] at H
              have c98b0 : decide (x356_3 < (t123.length : Int)) = true := decide_eq_true c98
              clear c98
              (first | rw [c98b0] | rw [c98b1] | (simp only [i64_w, i32_w]; rw [c98b0]) | skip)
              by_cases c99 : 0 ≤ x356_3
              ·rw [if_pos c99] at H
               have c99b0 : decide (0 ≤ x356_3) = true := decide_eq_true c99
               clear c99
               by_cases c100 : x356_3 < (t123.length : Int)
               ·rw [if_pos c100] at H
                have c100b0 : decide (x356_3 < (t123.length : Int)) = true := decide_eq_true c100
                clear c100
                by_cases c101 : (rd t123 x356_3) < 0
                ·rw [if_pos c101] at H
                 have c101b0 : decide ((rd t123 x356_3) < 0) = true := decide_eq_true c101
                 clear c101
                 exact absurd H (by simp)
                ·rw [if_neg c101] at H
                 have c101b0 : decide ((rd t123 x356_3) < 0) = false := decide_eq_false c101
                 clear c101
                 by_cases c102 : x356_3 > 0
                 ·rw [if_pos c102] at H
                  have c102b0 : decide (0 < x356_3) = true := decide_eq_true c102
                  clear c102
                  obtain ⟨ji103, hji103⟩ : ∃ j_ : Int, (wrap64 (x356_3 - 1)) = j_ := ⟨_, rfl⟩
                  replace H : (if 0 ≤ (ji103) then (if (ji103) < (t123.length : Int) then (if (rd t123 (ji103)) > (rd t123 x356_3) then (some false) else (laws_FnSumsOfSquares.l1 k3 l1 t102 t104 t115 t119 t123 (wrap64 (x40_3 + (wrap64 ((rd t123 x356_3) * (rd t123 x356_3))))) t123 (t123.length : Int) (wrap64 (x356_3 + 1)))) else (none)) else (none)) = some true := by first | (rw [hji103] at H; exact H) | (simp only [hji103] at H ⊢; exact H)
                  have hji103w : (IntKind.i64.wrap (x356_3 - 1)) = ji103 := (i64_w _).trans hji103
                  by_cases c104 : 0 ≤ (ji103)
                  ·rw [if_pos c104] at H
                   have c104b0 : decide (0 ≤ (ji103)) = true := decide_eq_true c104
                   clear c104
                   by_cases c105 : (ji103) < (t123.length : Int)
                   ·rw [if_pos c105] at H
                    have c105b0 : decide ((ji103) < (t123.length : Int)) = true := decide_eq_true c105
                    clear c105
                    by_cases c106 : (rd t123 (ji103)) > (rd t123 x356_3)
                    ·rw [if_pos c106] at H
                     have c106b0 : decide ((rd t123 x356_3) < (rd t123 (ji103))) = true := decide_eq_true c106
                     clear c106
                     exact absurd H (by simp)
                    ·rw [if_neg c106] at H
                     have c106b0 : decide ((rd t123 x356_3) < (rd t123 (ji103))) = false := decide_eq_false c106
                     clear c106
                     have H' := Aside0.mk H
                     clear H
                     have p160 : 0 ≤ (x356_3 : Int) := of_decide_eq_true k31_
                     have q160 : x356_3 < (t123.length : Int) := of_decide_eq_true k31_
                     obtain ⟨ad160, e160, hx160_0⟩ := Kd.at_int (Kd.R_reads' HO_354.out).2.2 x356_3 p160 q160
                     cases e160
                     replace p160 := eq_true p160
                     replace q160 := eq_true q160
                     have p161 : 0 ≤ ((ji103) : Int) := of_decide_eq_true k31_
                     have q161 : (ji103) < (t123.length : Int) := of_decide_eq_true k31_
                     obtain ⟨ad161, e161, hx161_0⟩ := Kd.at_int (Kd.R_reads' HO_22.out).2.2 (ji103) p161 q161
                     obtain rfl : ad160 = ad161 := (by injection e161)
                     replace p161 := eq_true p161
                     replace q161 := eq_true q161
                     go_wp2
                     repeat (go_quiet (fail); try go_wp2)
                     go_roundg k3
                     case measure => have := HJ19.out; have := HJ61.out; have := HK3.out; omega
                     case rel => exact ⟨(wrap64 (x40_3 + (wrap64 ((rd t123 x356_3) * (rd t123 x356_3))))), (wrap64 (x356_3 + 1)), k32_, k32_, H', ⟨by have := HJ19.out; have := HJ61.out; have := HK3.out; omega⟩, ⟨k28_⟩, ⟨by apply_rules only [HO_354.out, Kd.R_alloc, Kd.R_drewN, Kd.R_drew]⟩, ⟨k23_⟩⟩
                   ·rw [if_neg c105] at H
                    exact absurd H (by simp)
                  ·rw [if_neg c104] at H
                   exact absurd H (by simp)
                 ·rw [if_neg c102] at H
                  have c102b0 : decide (0 < x356_3) = false := decide_eq_false c102
                  clear c102
                  have H' := Aside0.mk H
                  clear H
                  have p160 : 0 ≤ (x356_3 : Int) := of_decide_eq_true k31_
                  have q160 : x356_3 < (t123.length : Int) := of_decide_eq_true k31_
                  obtain ⟨ad160, e160, hx160_0⟩ := Kd.at_int (Kd.R_reads' HO_354.out).2.2 x356_3 p160 q160
                  cases e160
                  replace p160 := eq_true p160
                  replace q160 := eq_true q160
                  go_wp2
                  repeat (go_quiet (fail); try go_wp2)
                  go_roundg k3
                  case measure => have := HJ19.out; have := HJ61.out; have := HK3.out; omega
                  case rel => exact ⟨(wrap64 (x40_3 + (wrap64 ((rd t123 x356_3) * (rd t123 x356_3))))), (wrap64 (x356_3 + 1)), k32_, k32_, H', ⟨by have := HJ19.out; have := HJ61.out; have := HK3.out; omega⟩, ⟨k28_⟩, ⟨by apply_rules only [HO_354.out, Kd.R_alloc, Kd.R_drewN, Kd.R_drew]⟩, ⟨k23_⟩⟩
               ·rw [if_neg c100] at H
                exact absurd H (by simp)
              ·rw [if_neg c99] at H
               exact absurd H (by simp)
             ·rw [if_neg c98] at H
              have c98b0 : decide (x356_3 < (t123.length : Int)) = false := decide_eq_false c98
              clear c98
              (first | rw [c98b0] | rw [c98b1] | (simp only [i64_w, i32_w]; rw [c98b0]) | skip)
              by_cases c107 : (t123.length : Int) = 4
              ·rw [if_pos c107] at H
               have c107b0 : ((t123.length : Int) == 4) = true := beq_iff_eq.mpr c107
               have c107b1 : ((t123.length : Int) != 4) = false := bne_eq_false_iff_eq.mpr c107
               clear c107
               by_cases c108 : x40_3 = t102
               ·rw [if_pos c108] at H
                have c108b0 : (x40_3 == t102) = true := beq_iff_eq.mpr c108
                have c108b1 : (x40_3 != t102) = false := bne_eq_false_iff_eq.mpr c108
                clear c108
                by_cases c109 : 0 < (t123.length : Int)
                ·rw [if_pos c109] at H
                 have c109b0 : decide (0 < (t123.length : Int)) = true := decide_eq_true c109
                 have c109b1 : decide (0 < t123.length) = true := decide_eq_true (by omega)
                 clear c109
                 by_cases c110 : (t119 != ((rd t123 0) == 0)) = true
                 ·rw [if_pos c110] at H
                  have c110b0 : (t119 != ((rd t123 0) == 0)) = true := c110
                  (try (have c110b1 : decide (t119 = ((rd t123 0) == 0)) = false := by simpa using c110))
                  (try (have c110b2 : (t119 == ((rd t123 0) == 0)) = false := by simpa using c110))
                  (try (have c110b3 : ¬ (t119 = ((rd t123 0) == 0)) := by simpa using c110))
                  clear c110
                  exact absurd H (by simp)
                 ·rw [if_neg c110] at H
                  have c110b0 : (t119 != ((rd t123 0) == 0)) = false := by simpa using c110
                  (try (have c110b1 : decide (t119 = ((rd t123 0) == 0)) = true := by simpa using c110))
                  (try (have c110b2 : (t119 == ((rd t123 0) == 0)) = true := by simpa using c110))
                  clear c110
                  have H' := Aside0.mk H
                  clear H
                  have p162 : 0 ≤ (0 : Int) := (by omega)
                  have q162 : 0 < (t123.length : Int) := of_decide_eq_true k31_
                  obtain ⟨ad162, e162, hx162_0⟩ := Kd.at_int (Kd.R_reads' HO_22.out).2.2 0 p162 q162
                  cases e162
                  have qi162 : (0 < t123.length) = True := eq_true (by omega)
                  (try rw [show ((0 : Int)).toNat = 0 from rfl] at hx162_0)
                  (try rw [Addr.add_zero'] at hx162_0)
                  replace p162 := eq_true p162
                  replace q162 := eq_true q162
                  go_wp2
                  repeat (go_quiet (fail); try go_wp2)
                  go_meet
                  case rel => exact ⟨_, H', ⟨by have := HJ19.out; have := HJ61.out; have := HK3.out; first | omega | exact Nat.le_refl _⟩, ⟨k23_⟩⟩
                ·rw [if_neg c109] at H
                 exact absurd H (by simp)
               ·rw [if_neg c108] at H
                have c108b0 : (x40_3 == t102) = false := beq_eq_false_iff_ne.mpr c108
                have c108b1 : (x40_3 != t102) = true := bne_iff_ne.mpr c108
                exact absurd H (by simp)
              ·rw [if_neg c107] at H
               have c107b0 : ((t123.length : Int) == 4) = false := beq_eq_false_iff_ne.mpr c107
               have c107b1 : ((t123.length : Int) != 4) = true := bne_iff_ne.mpr c107
               exact absurd H (by simp)
          ·replace c96 := Bool.eq_false_iff.mpr c96
           subst c96
           rw [if_neg (show ¬ (false = true) by decide)] at H
           have H' := Aside0.mk H
           clear H
           go_wp2
           repeat (go_quiet (fail); try go_wp2)
           go_meet
           case rel => exact ⟨_, H', ⟨by have := HJ19.out; have := HJ61.out; first | omega | exact Nat.le_refl _⟩, ⟨k23_⟩⟩
        case rest =>
         as_aux_lemma =>
          clear HC95
          obtain ⟨kq, HA, HJ94, HB⟩ := hcut
          cases kq with
          | zero => exact absurd HA.out (by simp [laws_FnSumsOfSquares.j5])
          | succ kj94 =>
           have H := HA.out
           clear HA
           simp only [laws_FnSumsOfSquares.j5] at H
           obtain ⟨t163, A111, H⟩ := obnd_ H
           (try dsimp only at H)
           obtain ⟨⟨t164, t165⟩, A112, H⟩ := obnd_ H
           (try dsimp only at H)
           obtain ⟨⟨t168, t169⟩, A113, H⟩ := obnd_ H
           (try dsimp only at H)
           by_cases c114 : (t165 != t169) = true
           ·rw [if_pos c114] at H
            have c114b0 : (t165 != t169) = true := c114
            (try (have c114b1 : decide (t165 = t169) = false := by simpa using c114))
            (try (have c114b2 : (t165 == t169) = false := by simpa using c114))
            (try (have c114b3 : ¬ (t165 = t169) := by simpa using c114))
            clear c114
            exact absurd H (by simp)
           ·rw [if_neg c114] at H
            have c114b0 : (t165 != t169) = false := by simpa using c114
            (try (have c114b1 : decide (t165 = t169) = true := by simpa using c114))
            (try (have c114b2 : (t165 == t169) = true := by simpa using c114))
            clear c114
            obtain ⟨t172, A115, H⟩ := obnd_ H
            (try dsimp only at H)
            by_cases c116 : t172 = true
            ·subst c116
             rw [if_pos rfl] at H
             by_cases c117 : t165 = true
             ·subst c117
              rw [if_pos rfl] at H
              have H' := Aside0.mk H
              clear H
              go_wp2_with (first | (go_at_call 22; (with_reducible refine (spec_DrawSumsOfTwoUpTo.calls _ _ l1 t163 _ ?side1 ?side2 A111.out).mono ?_); (case side1 => exact k4_); (case side2 => exact HC1.out); rintro e w118 ⟨rfl, hb⟩; replace HB := HB.mw hb; (try clear hb)) | (go_at_call 23; (with_reducible refine (impl_SumsOfTwoUpTo.calls kj94 t163 t164 true _ A112.out).mono ?_); rintro e w119 ⟨v166, rfl, ho0, hb⟩; have HO167 := Aside0.mk (Kd.R_lower ho0 (below_size k23_)); replace HB := HB.mw hb; (try clear hb ho0)) | (go_at_call 24; (with_reducible refine (spec_SumsOfTwoUpTo.calls kj94 t163 t168 t169 _ A113.out).mono ?_); rintro e w120 ⟨v170, rfl, ho0, hb⟩; have HO171 := Aside0.mk (Kd.R_lower (Kd.R_new' ho0 (Kd.R_lt k27_)) (below_size k23_)); replace HO167 := Aside0.mk (Kd.R_elder' k27_ (Kd.R_base ho0) hb); replace HB := HB.mw hb; (try clear hb ho0); obtain ⟨Ao121, co121, eo121⟩ := Kd.R_slice HO167.out; subst eo121; obtain ⟨Ao122, co122, eo122⟩ := Kd.R_slice HO171.out; subst eo122) | (go_at_call 21; (with_reducible refine (laws_tSame.calls kj94 _ _ t164 _ _ t168 true _ ?side1 ?side2 ?side3 ?side4 A115.out).mono ?_); (case side1 => exact k7_); (case side2 => exact (Kd.R_reads' HO167.out).2.1); (case side3 => exact k8_); (case side4 => exact (Kd.R_reads' HO171.out).2.1); rintro e w' ⟨rfl, ⟨nd, rfl⟩⟩; (try first | exact ⟨rfl, _, World.drewN_drewN _ _ _⟩ | exact ⟨rfl, _, Eq.trans (World.drewN_drewN _ _ _) (congrArg (World.drewN _) (Nat.add_assoc _ _ _))⟩)))
              repeat (go_quiet (first | (go_at_call 22; (with_reducible refine (spec_DrawSumsOfTwoUpTo.calls _ _ l1 t163 _ ?side1 ?side2 A111.out).mono ?_); (case side1 => exact k4_); (case side2 => exact HC1.out); rintro e w118 ⟨rfl, hb⟩; replace HB := HB.mw hb; (try clear hb)) | (go_at_call 23; (with_reducible refine (impl_SumsOfTwoUpTo.calls kj94 t163 t164 true _ A112.out).mono ?_); rintro e w119 ⟨v166, rfl, ho0, hb⟩; have HO167 := Aside0.mk (Kd.R_lower ho0 (below_size k23_)); replace HB := HB.mw hb; (try clear hb ho0)) | (go_at_call 24; (with_reducible refine (spec_SumsOfTwoUpTo.calls kj94 t163 t168 t169 _ A113.out).mono ?_); rintro e w120 ⟨v170, rfl, ho0, hb⟩; have HO171 := Aside0.mk (Kd.R_lower (Kd.R_new' ho0 (Kd.R_lt k27_)) (below_size k23_)); replace HO167 := Aside0.mk (Kd.R_elder' k27_ (Kd.R_base ho0) hb); replace HB := HB.mw hb; (try clear hb ho0); obtain ⟨Ao121, co121, eo121⟩ := Kd.R_slice HO167.out; subst eo121; obtain ⟨Ao122, co122, eo122⟩ := Kd.R_slice HO171.out; subst eo122) | (go_at_call 21; (with_reducible refine (laws_tSame.calls kj94 _ _ t164 _ _ t168 true _ ?side1 ?side2 ?side3 ?side4 A115.out).mono ?_); (case side1 => exact k7_); (case side2 => exact (Kd.R_reads' HO167.out).2.1); (case side3 => exact k8_); (case side4 => exact (Kd.R_reads' HO171.out).2.1); rintro e w' ⟨rfl, ⟨nd, rfl⟩⟩; (try first | exact ⟨rfl, _, World.drewN_drewN _ _ _⟩ | exact ⟨rfl, _, Eq.trans (World.drewN_drewN _ _ _) (congrArg (World.drewN _) (Nat.add_assoc _ _ _))⟩))); try go_wp2_with (first | (go_at_call 22; (with_reducible refine (spec_DrawSumsOfTwoUpTo.calls _ _ l1 t163 _ ?side1 ?side2 A111.out).mono ?_); (case side1 => exact k4_); (case side2 => exact HC1.out); rintro e w118 ⟨rfl, hb⟩; replace HB := HB.mw hb; (try clear hb)) | (go_at_call 23; (with_reducible refine (impl_SumsOfTwoUpTo.calls kj94 t163 t164 true _ A112.out).mono ?_); rintro e w119 ⟨v166, rfl, ho0, hb⟩; have HO167 := Aside0.mk (Kd.R_lower ho0 (below_size k23_)); replace HB := HB.mw hb; (try clear hb ho0)) | (go_at_call 24; (with_reducible refine (spec_SumsOfTwoUpTo.calls kj94 t163 t168 t169 _ A113.out).mono ?_); rintro e w120 ⟨v170, rfl, ho0, hb⟩; have HO171 := Aside0.mk (Kd.R_lower (Kd.R_new' ho0 (Kd.R_lt k27_)) (below_size k23_)); replace HO167 := Aside0.mk (Kd.R_elder' k27_ (Kd.R_base ho0) hb); replace HB := HB.mw hb; (try clear hb ho0); obtain ⟨Ao121, co121, eo121⟩ := Kd.R_slice HO167.out; subst eo121; obtain ⟨Ao122, co122, eo122⟩ := Kd.R_slice HO171.out; subst eo122) | (go_at_call 21; (with_reducible refine (laws_tSame.calls kj94 _ _ t164 _ _ t168 true _ ?side1 ?side2 ?side3 ?side4 A115.out).mono ?_); (case side1 => exact k7_); (case side2 => exact (Kd.R_reads' HO167.out).2.1); (case side3 => exact k8_); (case side4 => exact (Kd.R_reads' HO171.out).2.1); rintro e w' ⟨rfl, ⟨nd, rfl⟩⟩; (try first | exact ⟨rfl, _, World.drewN_drewN _ _ _⟩ | exact ⟨rfl, _, Eq.trans (World.drewN_drewN _ _ _) (congrArg (World.drewN _) (Nat.add_assoc _ _ _))⟩))))
              go_loopg [48] kj94 (fun kq v48 w' => ∃ (x48_4 : Int), v48 = .int .i64 x48_4 ∧ Aside0 (laws_FnSumsOfSquares.l2 kq t102 t104 t115 t163 t164 x48_4 = some true) ∧ Aside0 (kq ≤ kj94) ∧ Aside0 (Kd.R (Kd.int .i64) 3 w' w.heap.size (fun _ => True) (.slice Ao121 t164.length co121) t164) ∧ Aside0 (Below w.heap.size w w'))
              case atStart => exact ⟨(1), k32_, H', ⟨Nat.le_refl _⟩, ⟨by (with_reducible repeat (first | apply Kd.R_alloc | apply Kd.R_drewN | apply Kd.R_drew)); exact Kd.R_mono HO167.out (fun _ hk => trivial)⟩, ⟨k23_⟩⟩
              case round =>
               clear H'
               skip
               obtain ⟨x48_4, rfl, HA, HK4, HO_44, HB⟩ := hrel
               cases gk with
               | zero => exact absurd HA.out (by simp [laws_FnSumsOfSquares.l2])
               | succ k4 =>
                have H := HA.out
                clear HA
                simp only [laws_FnSumsOfSquares.l2] at H
                by_cases c123 : x48_4 ≤ t163
                ·rw [if_pos c123] at H
                 have c123b0 : decide (x48_4 ≤ t163) = true := decide_eq_true c123
                 clear c123
                 obtain ⟨⟨t173, t174⟩, A124, H⟩ := obnd_ H
                 (try dsimp only at H)
                 by_cases c125 : t174 = true
                 ·subst c125
                  rw [if_pos rfl] at H
                  obtain ⟨t175, A126, H⟩ := obnd_ H
                  (try dsimp only at H)
                  by_cases c127 : (t173 != t175) = true
                  ·rw [if_pos c127] at H
                   have c127b0 : (t173 != t175) = true := c127
                   (try (have c127b1 : decide (t173 = t175) = false := by simpa using c127))
                   (try (have c127b2 : (t173 == t175) = false := by simpa using c127))
                   (try (have c127b3 : ¬ (t173 = t175) := by simpa using c127))
                   clear c127
                   exact absurd H (by simp)
                  ·rw [if_neg c127] at H
                   have c127b0 : (t173 != t175) = false := by simpa using c127
                   (try (have c127b1 : decide (t173 = t175) = true := by simpa using c127))
                   (try (have c127b2 : (t173 == t175) = true := by simpa using c127))
                   clear c127
                   have H' := Aside0.mk H
                   clear H
                   go_wp2_with (first | (go_at_call 10; (with_reducible refine (impl_IsSumOfTwo.calls k4 x48_4 t173 true _ A124.out).mono ?_); rintro e w128 ⟨rfl, hb⟩; replace HO_44 := HO_44.mw hb; replace HB := HB.mw hb; (try clear hb)) | (go_at_call 25; (with_reducible refine (laws_tHas.calls k4 _ _ t164 x48_4 t175 _ ?side1 ?side2 A126.out).mono ?_); (case side1 => exact k9_); (case side2 => exact (Kd.R_reads' HO_44.out).2.1); rintro e w' ⟨rfl, ⟨nd, rfl⟩⟩; (try first | exact ⟨rfl, _, World.drewN_drewN _ _ _⟩ | exact ⟨rfl, _, Eq.trans (World.drewN_drewN _ _ _) (congrArg (World.drewN _) (Nat.add_assoc _ _ _))⟩)))
                   repeat (go_quiet (first | (go_at_call 10; (with_reducible refine (impl_IsSumOfTwo.calls k4 x48_4 t173 true _ A124.out).mono ?_); rintro e w128 ⟨rfl, hb⟩; replace HO_44 := HO_44.mw hb; replace HB := HB.mw hb; (try clear hb)) | (go_at_call 25; (with_reducible refine (laws_tHas.calls k4 _ _ t164 x48_4 t175 _ ?side1 ?side2 A126.out).mono ?_); (case side1 => exact k9_); (case side2 => exact (Kd.R_reads' HO_44.out).2.1); rintro e w' ⟨rfl, ⟨nd, rfl⟩⟩; (try first | exact ⟨rfl, _, World.drewN_drewN _ _ _⟩ | exact ⟨rfl, _, Eq.trans (World.drewN_drewN _ _ _) (congrArg (World.drewN _) (Nat.add_assoc _ _ _))⟩))); try go_wp2_with (first | (go_at_call 10; (with_reducible refine (impl_IsSumOfTwo.calls k4 x48_4 t173 true _ A124.out).mono ?_); rintro e w128 ⟨rfl, hb⟩; replace HO_44 := HO_44.mw hb; replace HB := HB.mw hb; (try clear hb)) | (go_at_call 25; (with_reducible refine (laws_tHas.calls k4 _ _ t164 x48_4 t175 _ ?side1 ?side2 A126.out).mono ?_); (case side1 => exact k9_); (case side2 => exact (Kd.R_reads' HO_44.out).2.1); rintro e w' ⟨rfl, ⟨nd, rfl⟩⟩; (try first | exact ⟨rfl, _, World.drewN_drewN _ _ _⟩ | exact ⟨rfl, _, Eq.trans (World.drewN_drewN _ _ _) (congrArg (World.drewN _) (Nat.add_assoc _ _ _))⟩))))
                   go_roundg k4
                   case measure => have := HJ19.out; have := HJ61.out; have := HJ94.out; have := HK4.out; omega
                   case rel => exact ⟨(wrap64 (x48_4 + 1)), k32_, H', ⟨by have := HJ19.out; have := HJ61.out; have := HJ94.out; have := HK4.out; omega⟩, ⟨by apply_rules only [HO_44.out, Kd.R_alloc, Kd.R_drewN, Kd.R_drew]⟩, ⟨k23_⟩⟩
                 ·replace c125 := Bool.eq_false_iff.mpr c125
                  subst c125
                  rw [if_neg (show ¬ (false = true) by decide)] at H
                  exact absurd H (by simp)
                ·rw [if_neg c123] at H
                 have c123b0 : decide (x48_4 ≤ t163) = false := decide_eq_false c123
                 clear c123
                 have H' := Aside0.mk H
                 clear H
                 go_wp2
                 repeat (go_quiet (fail); try go_wp2)
                 go_loopg [441] k4 (fun kq v441 w' => ∃ (x441_5 : Int), v441 = .int .i64 x441_5 ∧ Aside0 (laws_FnSumsOfSquares.l3 kq t102 t104 t115 t164 (t164.length : Int) x441_5 = some true) ∧ Aside0 (kq ≤ k4) ∧ Aside0 (Kd.R (Kd.int .i64) 3 w' w.heap.size (fun _ => True) (.slice Ao121 t164.length co121) t164) ∧ Aside0 (Below w.heap.size w w'))
                 case atStart => exact ⟨(0), k32_, H', ⟨Nat.le_refl _⟩, ⟨by apply_rules only [HO_44.out, Kd.R_alloc, Kd.R_drewN, Kd.R_drew]⟩, ⟨k23_⟩⟩
                 case round =>
                  clear H'
                  skip
                  obtain ⟨x441_5, rfl, HA, HK5, HO_439, HB⟩ := hrel
                  cases gk with
                  | zero => exact absurd HA.out (by simp [laws_FnSumsOfSquares.l3])
                  | succ k5 =>
                   have H := HA.out
                   clear HA
                   simp only [laws_FnSumsOfSquares.l3] at H
                   by_cases c129 : x441_5 < (t164.length : Int)
                   ·rw [if_pos c129] at H
                    have c129b0 : decide (x441_5 < (t164.length : Int)) = true := decide_eq_true c129
                    clear c129
                    by_cases c130 : 0 ≤ x441_5
                    ·rw [if_pos c130] at H
                     have c130b0 : decide (0 ≤ x441_5) = true := decide_eq_true c130
                     clear c130
                     by_cases c131 : x441_5 < (t164.length : Int)
                     ·rw [if_pos c131] at H
                      have c131b0 : decide (x441_5 < (t164.length : Int)) = true := decide_eq_true c131
                      clear c131
                      have HC132 := Aside0.mk H
                      clear H
                      have p176 : 0 ≤ (x441_5 : Int) := of_decide_eq_true k31_
                      have q176 : x441_5 < (t164.length : Int) := of_decide_eq_true k31_
                      obtain ⟨ad176, e176, hx176_0⟩ := Kd.at_int (Kd.R_reads' HO_439.out).2.2 x441_5 p176 q176
                      cases e176
                      replace p176 := eq_true p176
                      replace q176 := eq_true q176
                      go_upto_region 66 with (fail)
                      repeat (go_quiet (fail); go_upto_region 66 with (fail))
                      go_cut [464] from 442 to 464 (fun v464 wc => ∃ (kq : Nat) (x464_131 : Bool), v464 = .bool x464_131 ∧ Aside0 (laws_FnSumsOfSquares.j8 kq t102 t104 t115 (rd t164 x441_5) t164 (t164.length : Int) x441_5 x464_131 = some true) ∧ Aside0 (kq ≤ k5) ∧ Aside0 (Kd.R (Kd.int .i64) 3 wc w.heap.size (fun _ => True) (.slice (some ad176) t164.length co121) t164) ∧ Aside0 (Below w.heap.size w wc))
                      case first =>
                       as_aux_lemma =>
                        have H := HC132.out
                        clear HC132
                        by_cases c133 : x441_5 > 6
                        ·rw [if_pos c133] at H
                         have c133b0 : decide (6 < x441_5) = true := decide_eq_true c133
                         clear c133
                         (first | rw [c133b0] | rw [c133b1] | (simp only [i64_w, i32_w]; rw [c133b0]) | skip)
                         have H' := Aside0.mk H
                         clear H
                         go_wp2
                         repeat (go_quiet (fail); try go_wp2)
                         go_meet
                         case rel => exact ⟨_, (true), k32_, H', ⟨k21_⟩, ⟨k24_⟩, ⟨k23_⟩⟩
                        ·rw [if_neg c133] at H
                         have c133b0 : decide (6 < x441_5) = false := decide_eq_false c133
                         clear c133
                         (first | rw [c133b0] | rw [c133b1] | (simp only [i64_w, i32_w]; rw [c133b0]) | skip)
                         by_cases c134 : t104 = true
                         ·subst c134
                          rw [if_pos rfl] at H
                          by_cases c135 : t115 = true
                          ·subst c135
                           rw [if_pos rfl] at H
                           by_cases c136 : t102 < 1
                           ·rw [if_pos c136] at H
                            have c136b0 : decide (t102 < 1) = true := decide_eq_true c136
                            clear c136
                            have H' := Aside0.mk H
                            clear H
                            go_wp2
                            repeat (go_quiet (fail); try go_wp2)
                            go_meet
                            case rel => exact ⟨_, (true), k32_, H', ⟨k21_⟩, ⟨k24_⟩, ⟨k23_⟩⟩
                           ·rw [if_neg c136] at H
                            have c136b0 : decide (t102 < 1) = false := decide_eq_false c136
                            clear c136
                            by_cases c137 : (rd t164 x441_5) = 0
                            ·rw [if_pos c137] at H
                             exact absurd H (by simp)
                            ·rw [if_neg c137] at H
                             have c137b0 : ((rd t164 x441_5) == 0) = false := beq_eq_false_iff_ne.mpr c137
                             have c137b1 : ((rd t164 x441_5) != 0) = true := bne_iff_ne.mpr c137
                             have H' := Aside0.mk H
                             clear H
                             go_wp2
                             repeat (go_quiet (fail); try go_wp2)
                             go_meet
                             case rel => exact ⟨_, (decide (t102 > (wrap64 (Int.tdiv (100000 : Int) (rd t164 x441_5))))), k32_, H', ⟨k21_⟩, ⟨k24_⟩, ⟨k23_⟩⟩
                          ·replace c135 := Bool.eq_false_iff.mpr c135
                           subst c135
                           rw [if_neg (show ¬ (false = true) by decide)] at H
                           have H' := Aside0.mk H
                           clear H
                           go_wp2
                           repeat (go_quiet (fail); try go_wp2)
                           go_meet
                           case rel => exact ⟨_, (true), k32_, H', ⟨k21_⟩, ⟨k24_⟩, ⟨k23_⟩⟩
                         ·replace c134 := Bool.eq_false_iff.mpr c134
                          subst c134
                          rw [if_neg (show ¬ (false = true) by decide)] at H
                          by_cases c138 : t102 < 1
                          ·rw [if_pos c138] at H
                           have c138b0 : decide (t102 < 1) = true := decide_eq_true c138
                           clear c138
                           have H' := Aside0.mk H
                           clear H
                           go_wp2
                           repeat (go_quiet (fail); try go_wp2)
                           go_meet
                           case rel => exact ⟨_, (true), k32_, H', ⟨k21_⟩, ⟨k24_⟩, ⟨k23_⟩⟩
                          ·rw [if_neg c138] at H
                           have c138b0 : decide (t102 < 1) = false := decide_eq_false c138
                           clear c138
                           by_cases c139 : (rd t164 x441_5) = 0
                           ·rw [if_pos c139] at H
                            exact absurd H (by simp)
                           ·rw [if_neg c139] at H
                            have c139b0 : ((rd t164 x441_5) == 0) = false := beq_eq_false_iff_ne.mpr c139
                            have c139b1 : ((rd t164 x441_5) != 0) = true := bne_iff_ne.mpr c139
                            have H' := Aside0.mk H
                            clear H
                            go_wp2
                            repeat (go_quiet (fail); try go_wp2)
                            go_meet
                            case rel => exact ⟨_, (decide (t102 > (wrap64 (Int.tdiv (100000 : Int) (rd t164 x441_5))))), k32_, H', ⟨k21_⟩, ⟨k24_⟩, ⟨k23_⟩⟩
                      case rest =>
                       as_aux_lemma =>
                        clear HC132
                        (try clear c114); (try clear c114b0); (try clear c114b1); (try clear c114b2); (try clear c116); (try clear c117); (try clear c123); (try clear c123b0); (try clear c129); (try clear c129b0); (try clear c130); (try clear c130b0); (try clear c131); (try clear c131b0); (try clear hx176_0); (try clear p176); (try clear q176)
                        obtain ⟨kq, x464_131, rfl, HA, HJ131, HO_439, HB⟩ := hcut
                        cases kq with
                        | zero => exact absurd HA.out (by simp [laws_FnSumsOfSquares.j8])
                        | succ kj131 =>
                         have H := HA.out
                         clear HA
                         simp only [laws_FnSumsOfSquares.j8] at H
                         by_cases c140 : x464_131 = true
                         ·subst c140
                          have H1 : (some true) = some true := rfl
                          clear H
                          have H := H1
                          clear H1
                          clear H
                          go_wp2
                          repeat (go_quiet (fail); try go_wp2)
                          go_ret
                          exact ⟨k22_, k23_⟩
                         ·replace c140 := Bool.eq_false_iff.mpr c140
                          subst c140
                          rw [if_neg (show ¬ (false = true) by decide)] at H
                          obtain ⟨⟨t177, t178⟩, A141, H⟩ := obnd_ H
                          (try dsimp only at H)
                          by_cases c142 : t104 = true
                          ·subst c142
                           rw [if_pos rfl] at H
                           by_cases c143 : t178 = true
                           ·subst c143
                            rw [if_pos rfl] at H
                            by_cases c144 : t177 = true
                            ·subst c144
                             rw [if_pos rfl] at H
                             have H' := Aside0.mk H
                             clear H
                             go_wp2_with (first | (go_at_call 10; (with_reducible refine (impl_IsSumOfTwo.calls kj131 (wrap64 ((rd t164 x441_5) * t102)) true true _ A141.out).mono ?_); rintro e w145 ⟨rfl, hb⟩; replace HO_439 := HO_439.mw hb; replace HB := HB.mw hb; (try clear hb)))
                             repeat (go_quiet (first | (go_at_call 10; (with_reducible refine (impl_IsSumOfTwo.calls kj131 (wrap64 ((rd t164 x441_5) * t102)) true true _ A141.out).mono ?_); rintro e w145 ⟨rfl, hb⟩; replace HO_439 := HO_439.mw hb; replace HB := HB.mw hb; (try clear hb))); try go_wp2_with (first | (go_at_call 10; (with_reducible refine (impl_IsSumOfTwo.calls kj131 (wrap64 ((rd t164 x441_5) * t102)) true true _ A141.out).mono ?_); rintro e w145 ⟨rfl, hb⟩; replace HO_439 := HO_439.mw hb; replace HB := HB.mw hb; (try clear hb))))
                             go_roundg kj131
                             case measure => have := HJ19.out; have := HJ61.out; have := HJ94.out; have := HK4.out; have := HK5.out; have := HJ131.out; omega
                             case rel => exact ⟨(wrap64 (x441_5 + 1)), k32_, H', ⟨by have := HJ19.out; have := HJ61.out; have := HJ94.out; have := HK4.out; have := HK5.out; have := HJ131.out; omega⟩, ⟨k24_⟩, ⟨k23_⟩⟩
                            ·replace c144 := Bool.eq_false_iff.mpr c144
                             subst c144
                             rw [if_neg (show ¬ (false = true) by decide)] at H
                             exact absurd H (by simp)
                           ·replace c143 := Bool.eq_false_iff.mpr c143
                            subst c143
                            rw [if_neg (show ¬ (false = true) by decide)] at H
                            exact absurd H (by simp)
                          ·replace c142 := Bool.eq_false_iff.mpr c142
                           subst c142
                           rw [if_neg (show ¬ (false = true) by decide)] at H
                           have H' := Aside0.mk H
                           clear H
                           go_wp2_with (first | (go_at_call 10; (with_reducible refine (impl_IsSumOfTwo.calls kj131 (wrap64 ((rd t164 x441_5) * t102)) t177 t178 _ A141.out).mono ?_); rintro e w146 ⟨rfl, hb⟩; replace HO_439 := HO_439.mw hb; replace HB := HB.mw hb; (try clear hb)))
                           repeat (go_quiet (first | (go_at_call 10; (with_reducible refine (impl_IsSumOfTwo.calls kj131 (wrap64 ((rd t164 x441_5) * t102)) t177 t178 _ A141.out).mono ?_); rintro e w146 ⟨rfl, hb⟩; replace HO_439 := HO_439.mw hb; replace HB := HB.mw hb; (try clear hb))); try go_wp2_with (first | (go_at_call 10; (with_reducible refine (impl_IsSumOfTwo.calls kj131 (wrap64 ((rd t164 x441_5) * t102)) t177 t178 _ A141.out).mono ?_); rintro e w146 ⟨rfl, hb⟩; replace HO_439 := HO_439.mw hb; replace HB := HB.mw hb; (try clear hb))))
                           go_roundg kj131
                           case measure => have := HJ19.out; have := HJ61.out; have := HJ94.out; have := HK4.out; have := HK5.out; have := HJ131.out; omega
                           case rel => exact ⟨(wrap64 (x441_5 + 1)), k32_, H', ⟨by have := HJ19.out; have := HJ61.out; have := HJ94.out; have := HK4.out; have := HK5.out; have := HJ131.out; omega⟩, ⟨k24_⟩, ⟨k23_⟩⟩
                     ·rw [if_neg c131] at H
                      exact absurd H (by simp)
                    ·rw [if_neg c130] at H
                     exact absurd H (by simp)
                   ·rw [if_neg c129] at H
                    have c129b0 : decide (x441_5 < (t164.length : Int)) = false := decide_eq_false c129
                    clear c129
                    clear H
                    go_wp2
                    repeat (go_quiet (fail); try go_wp2)
                    go_ret
                    exact ⟨k22_, k23_⟩
             ·replace c117 := Bool.eq_false_iff.mpr c117
              subst c117
              have H1 : (some true) = some true := rfl
              clear H
              have H := H1
              clear H1
              clear H
              go_wp2_with (first | (go_at_call 22; (with_reducible refine (spec_DrawSumsOfTwoUpTo.calls _ _ l1 t163 _ ?side1 ?side2 A111.out).mono ?_); (case side1 => exact k4_); (case side2 => exact HC1.out); rintro e w147 ⟨rfl, hb⟩; replace HB := HB.mw hb; (try clear hb)) | (go_at_call 23; (with_reducible refine (impl_SumsOfTwoUpTo.calls kj94 t163 t164 false _ A112.out).mono ?_); rintro e w148 ⟨v166, rfl, ho0, hb⟩; have HO167 := Aside0.mk (Kd.R_lower ho0 (below_size k23_)); replace HB := HB.mw hb; (try clear hb ho0)) | (go_at_call 24; (with_reducible refine (spec_SumsOfTwoUpTo.calls kj94 t163 t168 t169 _ A113.out).mono ?_); rintro e w149 ⟨v170, rfl, ho0, hb⟩; have HO171 := Aside0.mk (Kd.R_lower (Kd.R_new' ho0 (Kd.R_lt k27_)) (below_size k23_)); replace HO167 := Aside0.mk (Kd.R_elder' k27_ (Kd.R_base ho0) hb); replace HB := HB.mw hb; (try clear hb ho0); obtain ⟨Ao150, co150, eo150⟩ := Kd.R_slice HO167.out; subst eo150; obtain ⟨Ao151, co151, eo151⟩ := Kd.R_slice HO171.out; subst eo151) | (go_at_call 21; (with_reducible refine (laws_tSame.calls kj94 _ _ t164 _ _ t168 true _ ?side1 ?side2 ?side3 ?side4 A115.out).mono ?_); (case side1 => exact k7_); (case side2 => exact (Kd.R_reads' HO167.out).2.1); (case side3 => exact k8_); (case side4 => exact (Kd.R_reads' HO171.out).2.1); rintro e w' ⟨rfl, ⟨nd, rfl⟩⟩; (try first | exact ⟨rfl, _, World.drewN_drewN _ _ _⟩ | exact ⟨rfl, _, Eq.trans (World.drewN_drewN _ _ _) (congrArg (World.drewN _) (Nat.add_assoc _ _ _))⟩)))
              repeat (go_quiet (first | (go_at_call 22; (with_reducible refine (spec_DrawSumsOfTwoUpTo.calls _ _ l1 t163 _ ?side1 ?side2 A111.out).mono ?_); (case side1 => exact k4_); (case side2 => exact HC1.out); rintro e w147 ⟨rfl, hb⟩; replace HB := HB.mw hb; (try clear hb)) | (go_at_call 23; (with_reducible refine (impl_SumsOfTwoUpTo.calls kj94 t163 t164 false _ A112.out).mono ?_); rintro e w148 ⟨v166, rfl, ho0, hb⟩; have HO167 := Aside0.mk (Kd.R_lower ho0 (below_size k23_)); replace HB := HB.mw hb; (try clear hb ho0)) | (go_at_call 24; (with_reducible refine (spec_SumsOfTwoUpTo.calls kj94 t163 t168 t169 _ A113.out).mono ?_); rintro e w149 ⟨v170, rfl, ho0, hb⟩; have HO171 := Aside0.mk (Kd.R_lower (Kd.R_new' ho0 (Kd.R_lt k27_)) (below_size k23_)); replace HO167 := Aside0.mk (Kd.R_elder' k27_ (Kd.R_base ho0) hb); replace HB := HB.mw hb; (try clear hb ho0); obtain ⟨Ao150, co150, eo150⟩ := Kd.R_slice HO167.out; subst eo150; obtain ⟨Ao151, co151, eo151⟩ := Kd.R_slice HO171.out; subst eo151) | (go_at_call 21; (with_reducible refine (laws_tSame.calls kj94 _ _ t164 _ _ t168 true _ ?side1 ?side2 ?side3 ?side4 A115.out).mono ?_); (case side1 => exact k7_); (case side2 => exact (Kd.R_reads' HO167.out).2.1); (case side3 => exact k8_); (case side4 => exact (Kd.R_reads' HO171.out).2.1); rintro e w' ⟨rfl, ⟨nd, rfl⟩⟩; (try first | exact ⟨rfl, _, World.drewN_drewN _ _ _⟩ | exact ⟨rfl, _, Eq.trans (World.drewN_drewN _ _ _) (congrArg (World.drewN _) (Nat.add_assoc _ _ _))⟩))); try go_wp2_with (first | (go_at_call 22; (with_reducible refine (spec_DrawSumsOfTwoUpTo.calls _ _ l1 t163 _ ?side1 ?side2 A111.out).mono ?_); (case side1 => exact k4_); (case side2 => exact HC1.out); rintro e w147 ⟨rfl, hb⟩; replace HB := HB.mw hb; (try clear hb)) | (go_at_call 23; (with_reducible refine (impl_SumsOfTwoUpTo.calls kj94 t163 t164 false _ A112.out).mono ?_); rintro e w148 ⟨v166, rfl, ho0, hb⟩; have HO167 := Aside0.mk (Kd.R_lower ho0 (below_size k23_)); replace HB := HB.mw hb; (try clear hb ho0)) | (go_at_call 24; (with_reducible refine (spec_SumsOfTwoUpTo.calls kj94 t163 t168 t169 _ A113.out).mono ?_); rintro e w149 ⟨v170, rfl, ho0, hb⟩; have HO171 := Aside0.mk (Kd.R_lower (Kd.R_new' ho0 (Kd.R_lt k27_)) (below_size k23_)); replace HO167 := Aside0.mk (Kd.R_elder' k27_ (Kd.R_base ho0) hb); replace HB := HB.mw hb; (try clear hb ho0); obtain ⟨Ao150, co150, eo150⟩ := Kd.R_slice HO167.out; subst eo150; obtain ⟨Ao151, co151, eo151⟩ := Kd.R_slice HO171.out; subst eo151) | (go_at_call 21; (with_reducible refine (laws_tSame.calls kj94 _ _ t164 _ _ t168 true _ ?side1 ?side2 ?side3 ?side4 A115.out).mono ?_); (case side1 => exact k7_); (case side2 => exact (Kd.R_reads' HO167.out).2.1); (case side3 => exact k8_); (case side4 => exact (Kd.R_reads' HO171.out).2.1); rintro e w' ⟨rfl, ⟨nd, rfl⟩⟩; (try first | exact ⟨rfl, _, World.drewN_drewN _ _ _⟩ | exact ⟨rfl, _, Eq.trans (World.drewN_drewN _ _ _) (congrArg (World.drewN _) (Nat.add_assoc _ _ _))⟩))))
              go_ret
              exact ⟨k22_, k23_⟩
            ·replace c116 := Bool.eq_false_iff.mpr c116
             subst c116
             rw [if_neg (show ¬ (false = true) by decide)] at H
             exact absurd H (by simp)
def laws_FnSumsOfSquares.Pure : Prop := ∀ (l0 : List Int) (l1 : List Int), l0.length ≤ 9223372036854775807 → (∀ z_ ∈ l0, (Lit.int .u8 z_).wf = true) → l1.length ≤ 9223372036854775807 → (∀ z_ ∈ l1, (Lit.int .u8 z_).wf = true) → ∃ k, laws_FnSumsOfSquares.f k l0 l1 = some true
end Go.Proofs.Ytidkoannjealfaa.P
