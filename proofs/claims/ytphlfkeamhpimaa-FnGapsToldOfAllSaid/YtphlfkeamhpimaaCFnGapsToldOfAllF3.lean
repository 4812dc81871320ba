/- What functions of the program answer. Proved in this text: its theorems. Conditions: as each theorem states them. -/
import Derived.Test.YtphlfkeamhpimaaCFnGapsToldOfAllP
import Derived.Test.YtphlfkeamhpimaaCFnGapsToldOfAllF0
import Derived.Test.YtphlfkeamhpimaaCFnGapsToldOfAllF1
import Derived.Test.YtphlfkeamhpimaaCFnGapsToldOfAllF2
namespace Go.Proofs.Ytphlfkeamhpimaa.P
open Go.RowKit Go.Proofs.YtphlfkeamhpimaaW.PrintWords Go.Proofs.YtphlfkeamhpimaaW.PrintLast Go.Proofs.YtphlfkeamhpimaaW.PrintMore
attribute [local go_sem] max2_int min2_int max_two min_two max_three min_three max_four min_four
set_option linter.unusedVariables false
set_option linter.unusedSimpArgs false
set_option maxHeartbeats 8000000 in
set_option maxRecDepth 100000 in
theorem laws_FnGapsToldOfAll.calls (k : Nat) (A0 : Option Addr) (c0 : Nat) (l0 : List (SRule)) (A1 : Option Addr) (c1 : Nat) (l1 : List (SRule)) (a2 : Int) (A3 : Option Addr) (c3 : Nat) (l3 : List (SRule)) (a4 : Int) (A5 : Option Addr) (c5 : Nat) (l5 : List (SRule)) (a6 : Int) (A7 : Option Addr) (c7 : Nat) (l7 : List (SRule)) (a8 : Int) (w : World) (hr0 : Kd.C kRule w A0 l0.length l0) (hc0 : l0.length ≤ c0) (hr1 : Kd.C kRule w A1 l1.length l1) (hc1 : l1.length ≤ c1) (hr3 : Kd.C kRule w A3 l3.length l3) (hc3 : l3.length ≤ c3) (hr5 : Kd.C kRule w A5 l5.length l5) (hc5 : l5.length ≤ c5) (hr7 : Kd.C kRule w A7 l7.length l7) (hc7 : l7.length ≤ c7) (h : laws_FnGapsToldOfAll.f k l0 l1 a2 l3 a4 l5 a6 l7 a8 = some true) :
  Calls Try.prog 7 #[.slice A0 l0.length c0, .slice A1 l1.length c1, .int .i64 a2, .slice A3 l3.length c3, .int .i64 a4, .slice A5 l5.length c5, .int .i64 a6, .slice A7 l7.length c7, .int .i64 a8] w fun e w' => e = .returned (.bool true) ∧ Below w.heap.size w w' := by
 have HR0 := Aside0.mk hr0
 have HC0 := Aside0.mk hc0
 clear hr0 hc0
 have HR1 := Aside0.mk hr1
 have HC1 := Aside0.mk hc1
 clear hr1 hc1
 have HR3 := Aside0.mk hr3
 have HC3 := Aside0.mk hc3
 clear hr3 hc3
 have HR5 := Aside0.mk hr5
 have HC5 := Aside0.mk hc5
 clear hr5 hc5
 have HR7 := Aside0.mk hr7
 have HC7 := Aside0.mk hc7
 clear hr7 hc7
 have HB := Aside0.mk (Below.refl w.heap.size w)
 have H : (if (l0.length : Int) > 10000 then (laws_FnGapsToldOfAll.j0 k l0 l1 a2 l3 a4 l5 a6 l7 a8 true) else (if (l1.length : Int) > 10000 then (laws_FnGapsToldOfAll.j0 k l0 l1 a2 l3 a4 l5 a6 l7 a8 true) else (if (l3.length : Int) > 10000 then (laws_FnGapsToldOfAll.j0 k l0 l1 a2 l3 a4 l5 a6 l7 a8 true) else (if (l5.length : Int) > 10000 then (laws_FnGapsToldOfAll.j0 k l0 l1 a2 l3 a4 l5 a6 l7 a8 true) else (laws_FnGapsToldOfAll.j0 k l0 l1 a2 l3 a4 l5 a6 l7 a8 (decide ((l7.length : Int) > 10000))))))) = some true := h
 clear h
 have HC10 := Aside0.mk H
 clear H
 go_enter Try.func7, Try.ntmps7
 go_upto_region 1 with (fail)
 go_cut [113] from 1 to 0 (fun v113 wc => ∃ (kq : Nat) (x113_9 : Bool), v113 = .bool x113_9 ∧ Aside0 (laws_FnGapsToldOfAll.j0 kq l0 l1 a2 l3 a4 l5 a6 l7 a8 x113_9 = some true) ∧ Aside0 (kq ≤ k) ∧ Aside0 (Below w.heap.size w wc))
 case first =>
  have H := HC10.out
  clear HC10
  by_cases c11 : (l0.length : Int) > 10000
  ·rw [if_pos c11] at H
   have c11b0 : decide (10000 < (l0.length : Int)) = true := decide_eq_true c11
   have c11b1 : decide (10000 < l0.length) = true := decide_eq_true (by omega)
   clear c11
   (first | rw [c11b0] | rw [c11b1] | (simp only [i64_w, i32_w]; rw [c11b0]) | skip)
   have H' := Aside0.mk H
   clear H
   go_wp2
   go_meet
   case rel => exact ⟨_, (true), (by first | rfl | (simp; done) | (simp [*]; done)), H', ⟨by first | omega | exact Nat.le_refl _⟩, ⟨by apply_rules only [HB.out, below_alloc, pw_below_drewN, below_drew1]⟩⟩
  ·rw [if_neg c11] at H
   have c11b0 : decide (10000 < (l0.length : Int)) = false := decide_eq_false c11
   have c11b1 : decide (10000 < l0.length) = false := decide_eq_false (by omega)
   clear c11
   (first | rw [c11b0] | rw [c11b1] | (simp only [i64_w, i32_w]; rw [c11b0]) | skip)
   by_cases c12 : (l1.length : Int) > 10000
   ·rw [if_pos c12] at H
    have c12b0 : decide (10000 < (l1.length : Int)) = true := decide_eq_true c12
    have c12b1 : decide (10000 < l1.length) = true := decide_eq_true (by omega)
    clear c12
    have H' := Aside0.mk H
    clear H
    go_wp2
    go_meet
    case rel => exact ⟨_, (true), (by first | rfl | (simp; done) | (simp [*]; done)), H', ⟨by first | omega | exact Nat.le_refl _⟩, ⟨by apply_rules only [HB.out, below_alloc, pw_below_drewN, below_drew1]⟩⟩
   ·rw [if_neg c12] at H
    have c12b0 : decide (10000 < (l1.length : Int)) = false := decide_eq_false c12
    have c12b1 : decide (10000 < l1.length) = false := decide_eq_false (by omega)
    clear c12
    by_cases c13 : (l3.length : Int) > 10000
    ·rw [if_pos c13] at H
     have c13b0 : decide (10000 < (l3.length : Int)) = true := decide_eq_true c13
     have c13b1 : decide (10000 < l3.length) = true := decide_eq_true (by omega)
     clear c13
     have H' := Aside0.mk H
     clear H
     go_wp2
     go_meet
     case rel => exact ⟨_, (true), (by first | rfl | (simp; done) | (simp [*]; done)), H', ⟨by first | omega | exact Nat.le_refl _⟩, ⟨by apply_rules only [HB.out, below_alloc, pw_below_drewN, below_drew1]⟩⟩
    ·rw [if_neg c13] at H
     have c13b0 : decide (10000 < (l3.length : Int)) = false := decide_eq_false c13
     have c13b1 : decide (10000 < l3.length) = false := decide_eq_false (by omega)
     clear c13
     by_cases c14 : (l5.length : Int) > 10000
     ·rw [if_pos c14] at H
      have c14b0 : decide (10000 < (l5.length : Int)) = true := decide_eq_true c14
      have c14b1 : decide (10000 < l5.length) = true := decide_eq_true (by omega)
      clear c14
      have H' := Aside0.mk H
      clear H
      go_wp2
      go_meet
      case rel => exact ⟨_, (true), (by first | rfl | (simp; done) | (simp [*]; done)), H', ⟨by first | omega | exact Nat.le_refl _⟩, ⟨by apply_rules only [HB.out, below_alloc, pw_below_drewN, below_drew1]⟩⟩
     ·rw [if_neg c14] at H
      have c14b0 : decide (10000 < (l5.length : Int)) = false := decide_eq_false c14
      have c14b1 : decide (10000 < l5.length) = false := decide_eq_false (by omega)
      clear c14
      have H' := Aside0.mk H
      clear H
      go_wp2
      go_meet
      case rel => exact ⟨_, (decide ((l7.length : Int) > 10000)), (by first | rfl | (simp; done) | (simp [*]; done)), H', ⟨by first | omega | exact Nat.le_refl _⟩, ⟨by apply_rules only [HB.out, below_alloc, pw_below_drewN, below_drew1]⟩⟩
 case rest =>
  clear HC10
  obtain ⟨kq, x113_9, rfl, HA, HJ9, HB⟩ := hcut
  cases kq with
  | zero => exact absurd HA.out (by simp [laws_FnGapsToldOfAll.j0])
  | succ kj9 =>
   have H := HA.out
   clear HA
   simp only [laws_FnGapsToldOfAll.j0] at H
   by_cases c15 : x113_9 = true
   ·subst c15
    have H1 : (some true) = some true := rfl
    clear H
    have H := H1
    clear H1
    clear H
    go_wp2
    go_ret
    exact ⟨by first | rfl | (simp [errW_none, errW_some] <;> rfl) | (simp [*, errW_none, errW_some] <;> rfl), by apply_rules only [HB.out, below_alloc, pw_below_drewN, below_drew1]⟩
   ·replace c15 := Bool.eq_false_iff.mpr c15
    subst c15
    rw [if_neg (show ¬ (false = true) by decide)] at H
    replace H := Option.bind_eq_some_iff.mp H
    obtain ⟨⟨t101, t102⟩, A160, H⟩ := H
    (try dsimp only at H)
    have A16 := Aside0.mk A160
    clear A160
    replace H := Option.bind_eq_some_iff.mp H
    obtain ⟨⟨t105, t106⟩, A170, H⟩ := H
    (try dsimp only at H)
    have A17 := Aside0.mk A170
    clear A170
    replace H := Option.bind_eq_some_iff.mp H
    obtain ⟨⟨t109, t110, t111⟩, A180, H⟩ := H
    (try dsimp only at H)
    have A18 := Aside0.mk A180
    clear A180
    replace H := Option.bind_eq_some_iff.mp H
    obtain ⟨⟨t112, t113, t114⟩, A190, H⟩ := H
    (try dsimp only at H)
    have A19 := Aside0.mk A190
    clear A190
    replace H := Option.bind_eq_some_iff.mp H
    obtain ⟨⟨t115, t116⟩, A200, H⟩ := H
    (try dsimp only at H)
    have A20 := Aside0.mk A200
    clear A200
    replace H := Option.bind_eq_some_iff.mp H
    obtain ⟨⟨t117, t118⟩, A210, H⟩ := H
    (try dsimp only at H)
    have A21 := Aside0.mk A210
    clear A210
    replace H := Option.bind_eq_some_iff.mp H
    obtain ⟨⟨t119, t120⟩, A220, H⟩ := H
    (try dsimp only at H)
    have A22 := Aside0.mk A220
    clear A220
    replace H := Option.bind_eq_some_iff.mp H
    obtain ⟨⟨t121, t122⟩, A230, H⟩ := H
    (try dsimp only at H)
    have A23 := Aside0.mk A230
    clear A230
    have HC24 := Aside0.mk H
    clear H
    go_upto_region 11 with (first | ((with_reducible refine gate_callee (f := 27) rfl ?_); refine goesL_ (some 116) rfl rfl Try.func27 (by kernel_rfl) rfl #[.slice A0 l0.length c0] rfl (by (try simp only [List.map_toArray, List.map_cons, List.map_nil]); first | done | rfl | (simp only [List.length_drop, List.length_take]; rfl)) ?_; (with_reducible refine (impl_GapsOfPeriod.calls kj9 _ _ l0 t101 t102 _ ?side1 ?side2 A16.out).mono ?_); (case side1 => repeat (first | exact (Kd.C_below HR0.out HB.out) | (with_reducible refine Kd.C_alloc ?_ _) | (with_reducible refine Kd.C_drewN ?_ _) | (with_reducible refine Kd.C_drew ?_))); (case side2 => exact HC0.out); rintro e w25 ⟨v103, rfl, ho0, hb⟩; refine ⟨_, rfl, ?_⟩; have n0_ := Aside0.mk (Kd.R_lower ho0 (below_size (by apply_rules only [HB.out, below_alloc, pw_below_drewN, below_drew1]))); have n1_ := Aside0.mk (below_step (by apply_rules only [HB.out, below_alloc, pw_below_drewN, below_drew1]) hb); clear HB; have HO104 := n0_; have HB := n1_; clear n0_ n1_; (try clear hb); (try clear hb2); (try clear hk); (try clear hi); (try clear ho0)) | ((with_reducible refine gate_callee (f := 28) rfl ?_); refine goesL_ (some 121) rfl rfl Try.func28 (by kernel_rfl) rfl #[.slice A0 l0.length c0] rfl (by (try simp only [List.map_toArray, List.map_cons, List.map_nil]); first | done | rfl | (simp only [List.length_drop, List.length_take]; rfl)) ?_; (with_reducible refine (spec_GapsOfPeriod.calls kj9 _ _ l0 t105 t106 _ ?side1 ?side2 A17.out).mono ?_); (case side1 => repeat (first | exact (Kd.C_below HR0.out HB.out) | (with_reducible refine Kd.C_alloc ?_ _) | (with_reducible refine Kd.C_drewN ?_ _) | (with_reducible refine Kd.C_drew ?_))); (case side2 => exact HC0.out); rintro e w26 ⟨v107, rfl, ho0, hb⟩; refine ⟨_, rfl, ?_⟩; have n0_ := Aside0.mk (Kd.R_elder' (by apply_rules only [HO104.out, Kd.R_alloc, Kd.R_drewN, Kd.R_drew]) (Kd.R_base ho0) hb); have n1_ := Aside0.mk (Kd.R_lower (Kd.R_new' ho0 (Kd.R_lt (by apply_rules only [HO104.out, Kd.R_alloc, Kd.R_drewN, Kd.R_drew]))) (below_size (by apply_rules only [HB.out, below_alloc, pw_below_drewN, below_drew1]))); have n2_ := Aside0.mk (below_step (by apply_rules only [HB.out, below_alloc, pw_below_drewN, below_drew1]) hb); clear HO104; clear HB; have HO104 := n0_; have HO108 := n1_; have HB := n2_; clear n0_ n1_ n2_; (try clear hb); (try clear hb2); (try clear hk); (try clear hi); (try clear ho0)) | ((with_reducible refine gate_callee (f := 29) rfl ?_); refine goesL_ (some 126) rfl rfl Try.func29 (by kernel_rfl) rfl #[.slice A0 l0.length c0] rfl (by (try simp only [List.map_toArray, List.map_cons, List.map_nil]); first | done | rfl | (simp only [List.length_drop, List.length_take]; rfl)) ?_; (with_reducible refine (impl_LongestGap.calls kj9 _ _ l0 t109 t110 t111 _ ?side1 ?side2 A18.out).mono ?_); (case side1 => repeat (first | exact (Kd.C_below HR0.out HB.out) | (with_reducible refine Kd.C_alloc ?_ _) | (with_reducible refine Kd.C_drewN ?_ _) | (with_reducible refine Kd.C_drew ?_))); (case side2 => exact HC0.out); rintro e w27 ⟨rfl, hb⟩; refine ⟨_, rfl, ?_⟩; have n0_ := Aside0.mk (Kd.R_below (by apply_rules only [HO104.out, Kd.R_alloc, Kd.R_drewN, Kd.R_drew]) hb); have n1_ := Aside0.mk (Kd.R_below (by apply_rules only [HO108.out, Kd.R_alloc, Kd.R_drewN, Kd.R_drew]) hb); have n2_ := Aside0.mk (below_step (by apply_rules only [HB.out, below_alloc, pw_below_drewN, below_drew1]) hb); clear HO104; clear HO108; clear HB; have HO104 := n0_; have HO108 := n1_; have HB := n2_; clear n0_ n1_ n2_; (try clear hb); (try clear hb2); (try clear hk); (try clear hi)) | ((with_reducible refine gate_callee (f := 30) rfl ?_); refine goesL_ (some 132) rfl rfl Try.func30 (by kernel_rfl) rfl #[.slice A0 l0.length c0] rfl (by (try simp only [List.map_toArray, List.map_cons, List.map_nil]); first | done | rfl | (simp only [List.length_drop, List.length_take]; rfl)) ?_; (with_reducible refine (spec_LongestGap.calls kj9 _ _ l0 t112 t113 t114 _ ?side1 ?side2 A19.out).mono ?_); (case side1 => repeat (first | exact (Kd.C_below HR0.out HB.out) | (with_reducible refine Kd.C_alloc ?_ _) | (with_reducible refine Kd.C_drewN ?_ _) | (with_reducible refine Kd.C_drew ?_))); (case side2 => exact HC0.out); rintro e w28 ⟨rfl, hb⟩; refine ⟨_, rfl, ?_⟩; have n0_ := Aside0.mk (Kd.R_below (by apply_rules only [HO104.out, Kd.R_alloc, Kd.R_drewN, Kd.R_drew]) hb); have n1_ := Aside0.mk (Kd.R_below (by apply_rules only [HO108.out, Kd.R_alloc, Kd.R_drewN, Kd.R_drew]) hb); have n2_ := Aside0.mk (below_step (by apply_rules only [HB.out, below_alloc, pw_below_drewN, below_drew1]) hb); clear HO104; clear HO108; clear HB; have HO104 := n0_; have HO108 := n1_; have HB := n2_; clear n0_ n1_ n2_; (try clear hb); (try clear hb2); (try clear hk); (try clear hi)) | ((with_reducible refine gate_callee (f := 24) rfl ?_); refine goesL_ (some 138) rfl rfl Try.func24 (by kernel_rfl) rfl #[.slice A0 l0.length c0] rfl (by (try simp only [List.map_toArray, List.map_cons, List.map_nil]); first | done | rfl | (simp only [List.length_drop, List.length_take]; rfl)) ?_; (with_reducible refine (impl_LongestRunOut.calls kj9 _ _ l0 t115 t116 _ ?side1 ?side2 A20.out).mono ?_); (case side1 => repeat (first | exact (Kd.C_below HR0.out HB.out) | (with_reducible refine Kd.C_alloc ?_ _) | (with_reducible refine Kd.C_drewN ?_ _) | (with_reducible refine Kd.C_drew ?_))); (case side2 => exact HC0.out); rintro e w29 ⟨rfl, hb⟩; refine ⟨_, rfl, ?_⟩; have n0_ := Aside0.mk (Kd.R_below (by apply_rules only [HO104.out, Kd.R_alloc, Kd.R_drewN, Kd.R_drew]) hb); have n1_ := Aside0.mk (Kd.R_below (by apply_rules only [HO108.out, Kd.R_alloc, Kd.R_drewN, Kd.R_drew]) hb); have n2_ := Aside0.mk (below_step (by apply_rules only [HB.out, below_alloc, pw_below_drewN, below_drew1]) hb); clear HO104; clear HO108; clear HB; have HO104 := n0_; have HO108 := n1_; have HB := n2_; clear n0_ n1_ n2_; (try clear hb); (try clear hb2); (try clear hk); (try clear hi)) | ((with_reducible refine gate_callee (f := 31) rfl ?_); refine goesL_ (some 143) rfl rfl Try.func31 (by kernel_rfl) rfl #[.slice A0 l0.length c0] rfl (by (try simp only [List.map_toArray, List.map_cons, List.map_nil]); first | done | rfl | (simp only [List.length_drop, List.length_take]; rfl)) ?_; (with_reducible refine (spec_LongestRunOut.calls kj9 _ _ l0 t117 t118 _ ?side1 ?side2 A21.out).mono ?_); (case side1 => repeat (first | exact (Kd.C_below HR0.out HB.out) | (with_reducible refine Kd.C_alloc ?_ _) | (with_reducible refine Kd.C_drewN ?_ _) | (with_reducible refine Kd.C_drew ?_))); (case side2 => exact HC0.out); rintro e w30 ⟨rfl, hb⟩; refine ⟨_, rfl, ?_⟩; have n0_ := Aside0.mk (Kd.R_below (by apply_rules only [HO104.out, Kd.R_alloc, Kd.R_drewN, Kd.R_drew]) hb); have n1_ := Aside0.mk (Kd.R_below (by apply_rules only [HO108.out, Kd.R_alloc, Kd.R_drewN, Kd.R_drew]) hb); have n2_ := Aside0.mk (below_step (by apply_rules only [HB.out, below_alloc, pw_below_drewN, below_drew1]) hb); clear HO104; clear HO108; clear HB; have HO104 := n0_; have HO108 := n1_; have HB := n2_; clear n0_ n1_ n2_; (try clear hb); (try clear hb2); (try clear hk); (try clear hi)) | ((with_reducible refine gate_callee (f := 32) rfl ?_); refine goesL_ (some 148) rfl rfl Try.func32 (by kernel_rfl) rfl #[.slice A0 l0.length c0] rfl (by (try simp only [List.map_toArray, List.map_cons, List.map_nil]); first | done | rfl | (simp only [List.length_drop, List.length_take]; rfl)) ?_; (with_reducible refine (impl_LongestRunLeft.calls kj9 _ _ l0 t119 t120 _ ?side1 ?side2 A22.out).mono ?_); (case side1 => repeat (first | exact (Kd.C_below HR0.out HB.out) | (with_reducible refine Kd.C_alloc ?_ _) | (with_reducible refine Kd.C_drewN ?_ _) | (with_reducible refine Kd.C_drew ?_))); (case side2 => exact HC0.out); rintro e w31 ⟨rfl, hb⟩; refine ⟨_, rfl, ?_⟩; have n0_ := Aside0.mk (Kd.R_below (by apply_rules only [HO104.out, Kd.R_alloc, Kd.R_drewN, Kd.R_drew]) hb); have n1_ := Aside0.mk (Kd.R_below (by apply_rules only [HO108.out, Kd.R_alloc, Kd.R_drewN, Kd.R_drew]) hb); have n2_ := Aside0.mk (below_step (by apply_rules only [HB.out, below_alloc, pw_below_drewN, below_drew1]) hb); clear HO104; clear HO108; clear HB; have HO104 := n0_; have HO108 := n1_; have HB := n2_; clear n0_ n1_ n2_; (try clear hb); (try clear hb2); (try clear hk); (try clear hi)) | ((with_reducible refine gate_callee (f := 33) rfl ?_); refine goesL_ (some 153) rfl rfl Try.func33 (by kernel_rfl) rfl #[.slice A0 l0.length c0] rfl (by (try simp only [List.map_toArray, List.map_cons, List.map_nil]); first | done | rfl | (simp only [List.length_drop, List.length_take]; rfl)) ?_; (with_reducible refine (spec_LongestRunLeft.calls kj9 _ _ l0 t121 t122 _ ?side1 ?side2 A23.out).mono ?_); (case side1 => repeat (first | exact (Kd.C_below HR0.out HB.out) | (with_reducible refine Kd.C_alloc ?_ _) | (with_reducible refine Kd.C_drewN ?_ _) | (with_reducible refine Kd.C_drew ?_))); (case side2 => exact HC0.out); rintro e w32 ⟨rfl, hb⟩; refine ⟨_, rfl, ?_⟩; have n0_ := Aside0.mk (Kd.R_below (by apply_rules only [HO104.out, Kd.R_alloc, Kd.R_drewN, Kd.R_drew]) hb); have n1_ := Aside0.mk (Kd.R_below (by apply_rules only [HO108.out, Kd.R_alloc, Kd.R_drewN, Kd.R_drew]) hb); have n2_ := Aside0.mk (below_step (by apply_rules only [HB.out, below_alloc, pw_below_drewN, below_drew1]) hb); clear HO104; clear HO108; clear HB; have HO104 := n0_; have HO108 := n1_; have HB := n2_; clear n0_ n1_ n2_; (try clear hb); (try clear hb2); (try clear hk); (try clear hi)))
    (try simp only [Act.put, List.setIfInBounds_toArray, List.set_cons_zero, List.set_cons_succ])
    go_cut [219] from 114 to 219 (fun v219 wc => ∃ (kq : Nat) (x219_23 : Bool), v219 = .bool x219_23 ∧ Aside0 (laws_FnGapsToldOfAll.j1 kq l0 l1 a2 l3 a4 l5 a6 l7 a8 t101 t102 t109 t110 t115 t119 t120 x219_23 = some true) ∧ Aside0 (kq ≤ kj9) ∧ Aside0 (Kd.R (Kd.int .i64) 3 wc w.heap.size (fun _ => True) v103 t101) ∧ Aside0 (Below w.heap.size w wc))
    case first =>
     have H := HC24.out
     clear HC24
     by_cases c33 : (t102 != t106) = true
     ·rw [if_pos c33] at H
      have c33b0 : (t102 != t106) = true := c33
      (try (have c33b1 : decide (t102 = t106) = false := by simpa using c33))
      (try (have c33b2 : (t102 == t106) = false := by simpa using c33))
      (try (have c33b3 : ¬ (t102 = t106) := by simpa using c33))
      clear c33
      (first | rw [c33b0] | rw [c33b1] | (simp only [i64_w, i32_w]; rw [c33b0]) | skip)
      exact absurd H (by simp)
     ·rw [if_neg c33] at H
      have c33b0 : (t102 != t106) = false := by simpa using c33
      (try (have c33b1 : decide (t102 = t106) = true := by simpa using c33))
      (try (have c33b2 : (t102 == t106) = true := by simpa using c33))
      clear c33
      (first | rw [c33b0] | rw [c33b1] | (simp only [i64_w, i32_w]; rw [c33b0]) | skip)
      replace H := Option.bind_eq_some_iff.mp H
      obtain ⟨t123, A340, H⟩ := H
      (try dsimp only at H)
      have A34 := Aside0.mk A340
      clear A340
      by_cases c35 : t123 = true
      ·subst c35
       rw [if_pos rfl] at H
       by_cases c36 : (t111 != t114) = true
       ·rw [if_pos c36] at H
        have c36b0 : (t111 != t114) = true := c36
        (try (have c36b1 : decide (t111 = t114) = false := by simpa using c36))
        (try (have c36b2 : (t111 == t114) = false := by simpa using c36))
        (try (have c36b3 : ¬ (t111 = t114) := by simpa using c36))
        clear c36
        exact absurd H (by simp)
       ·rw [if_neg c36] at H
        have c36b0 : (t111 != t114) = false := by simpa using c36
        (try (have c36b1 : decide (t111 = t114) = true := by simpa using c36))
        (try (have c36b2 : (t111 == t114) = true := by simpa using c36))
        clear c36
        by_cases c37 : t109 = t112
        ·rw [if_pos c37] at H
         have c37b0 : (t109 == t112) = true := beq_iff_eq.mpr c37
         have c37b1 : (t109 != t112) = false := bne_eq_false_iff_eq.mpr c37
         clear c37
         by_cases c38 : t110 = t113
         ·rw [if_pos c38] at H
          have c38b0 : (t110 == t113) = true := beq_iff_eq.mpr c38
          have c38b1 : (t110 != t113) = false := bne_eq_false_iff_eq.mpr c38
          clear c38
          by_cases c39 : (t116 != t118) = true
          ·rw [if_pos c39] at H
           have c39b0 : (t116 != t118) = true := c39
           (try (have c39b1 : decide (t116 = t118) = false := by simpa using c39))
           (try (have c39b2 : (t116 == t118) = false := by simpa using c39))
           (try (have c39b3 : ¬ (t116 = t118) := by simpa using c39))
           clear c39
           exact absurd H (by simp)
          ·rw [if_neg c39] at H
           have c39b0 : (t116 != t118) = false := by simpa using c39
           (try (have c39b1 : decide (t116 = t118) = true := by simpa using c39))
           (try (have c39b2 : (t116 == t118) = true := by simpa using c39))
           clear c39
           by_cases c40 : t115 = t117
           ·rw [if_pos c40] at H
            have c40b0 : (t115 == t117) = true := beq_iff_eq.mpr c40
            have c40b1 : (t115 != t117) = false := bne_eq_false_iff_eq.mpr c40
            clear c40
            by_cases c41 : (t120 != t122) = true
            ·rw [if_pos c41] at H
             have c41b0 : (t120 != t122) = true := c41
             (try (have c41b1 : decide (t120 = t122) = false := by simpa using c41))
             (try (have c41b2 : (t120 == t122) = false := by simpa using c41))
             (try (have c41b3 : ¬ (t120 = t122) := by simpa using c41))
             clear c41
             exact absurd H (by simp)
            ·rw [if_neg c41] at H
             have c41b0 : (t120 != t122) = false := by simpa using c41
             (try (have c41b1 : decide (t120 = t122) = true := by simpa using c41))
             (try (have c41b2 : (t120 == t122) = true := by simpa using c41))
             clear c41
             by_cases c42 : t119 = t121
             ·rw [if_pos c42] at H
              have c42b0 : (t119 == t121) = true := beq_iff_eq.mpr c42
              have c42b1 : (t119 != t121) = false := bne_eq_false_iff_eq.mpr c42
              clear c42
              by_cases c43 : (t111 != t102) = true
              ·rw [if_pos c43] at H
               have c43b0 : (t111 != t102) = true := c43
               (try (have c43b1 : decide (t111 = t102) = false := by simpa using c43))
               (try (have c43b2 : (t111 == t102) = false := by simpa using c43))
               (try (have c43b3 : ¬ (t111 = t102) := by simpa using c43))
               clear c43
               exact absurd H (by simp)
              ·rw [if_neg c43] at H
               have c43b0 : (t111 != t102) = false := by simpa using c43
               (try (have c43b1 : decide (t111 = t102) = true := by simpa using c43))
               (try (have c43b2 : (t111 == t102) = true := by simpa using c43))
               clear c43
               by_cases c44 : (t116 != t102) = true
               ·rw [if_pos c44] at H
                have c44b0 : (t116 != t102) = true := c44
                (try (have c44b1 : decide (t116 = t102) = false := by simpa using c44))
                (try (have c44b2 : (t116 == t102) = false := by simpa using c44))
                (try (have c44b3 : ¬ (t116 = t102) := by simpa using c44))
                clear c44
                exact absurd H (by simp)
               ·rw [if_neg c44] at H
                have c44b0 : (t116 != t102) = false := by simpa using c44
                (try (have c44b1 : decide (t116 = t102) = true := by simpa using c44))
                (try (have c44b2 : (t116 == t102) = true := by simpa using c44))
                clear c44
                by_cases c45 : t102 = true
                ·subst c45
                 rw [if_pos rfl] at H
                 have H' := Aside0.mk H
                 clear H
                 obtain ⟨Ao46, co46, eo46⟩ := Kd.R_slice HO104.out
                 subst eo46
                 obtain ⟨Ao47, co47, eo47⟩ := Kd.R_slice HO108.out
                 subst eo47
                 go_wp2_with (first | (go_at_call 34; (with_reducible refine (laws_tSame.calls kj9 _ _ t101 _ _ t105 true _ ?side1 ?side2 ?side3 ?side4 A34.out).mono ?_); (case side1 => repeat (first | exact (Kd.R_reads' HO104.out).2.2 | (with_reducible refine Kd.C_alloc ?_ _) | (with_reducible refine Kd.C_drewN ?_ _) | (with_reducible refine Kd.C_drew ?_))); (case side2 => exact (Kd.R_reads' HO104.out).2.1); (case side3 => repeat (first | exact (Kd.R_reads' HO108.out).2.2 | (with_reducible refine Kd.C_alloc ?_ _) | (with_reducible refine Kd.C_drewN ?_ _) | (with_reducible refine Kd.C_drew ?_))); (case side4 => exact (Kd.R_reads' HO108.out).2.1); rintro e w' ⟨rfl, ⟨nd, rfl⟩⟩))
                 go_meet
                 case rel => exact ⟨_, ((t120 != (decide ((l0.length : Int) > 0)))), (by first | rfl | (simp; done) | (cases t120 <;> simp; done) | (cases t120 <;> simp [bne]; done) | (cases t120 <;> cases hd_ : decide (0 < l0.length) <;> simp_all; done) | (simp [*]; done)), H', ⟨by have := HJ9.out; first | omega | exact Nat.le_refl _⟩, ⟨by (with_reducible repeat (first | apply Kd.R_alloc | apply Kd.R_drewN | apply Kd.R_drew)); exact Kd.R_mono HO104.out (fun _ hk => trivial)⟩, ⟨by apply_rules only [HB.out, below_alloc, pw_below_drewN, below_drew1]⟩⟩
                ·replace c45 := Bool.eq_false_iff.mpr c45
                 subst c45
                 rw [if_neg (show ¬ (false = true) by decide)] at H
                 have H' := Aside0.mk H
                 clear H
                 obtain ⟨Ao48, co48, eo48⟩ := Kd.R_slice HO104.out
                 subst eo48
                 obtain ⟨Ao49, co49, eo49⟩ := Kd.R_slice HO108.out
                 subst eo49
                 go_wp2_with (first | (go_at_call 34; (with_reducible refine (laws_tSame.calls kj9 _ _ t101 _ _ t105 true _ ?side1 ?side2 ?side3 ?side4 A34.out).mono ?_); (case side1 => repeat (first | exact (Kd.R_reads' HO104.out).2.2 | (with_reducible refine Kd.C_alloc ?_ _) | (with_reducible refine Kd.C_drewN ?_ _) | (with_reducible refine Kd.C_drew ?_))); (case side2 => exact (Kd.R_reads' HO104.out).2.1); (case side3 => repeat (first | exact (Kd.R_reads' HO108.out).2.2 | (with_reducible refine Kd.C_alloc ?_ _) | (with_reducible refine Kd.C_drewN ?_ _) | (with_reducible refine Kd.C_drew ?_))); (case side4 => exact (Kd.R_reads' HO108.out).2.1); rintro e w' ⟨rfl, ⟨nd, rfl⟩⟩))
                 go_meet
                 case rel => exact ⟨_, ((t120 != false)), (by first | rfl | (simp; done) | (simp [*]; done)), H', ⟨by have := HJ9.out; first | omega | exact Nat.le_refl _⟩, ⟨by (with_reducible repeat (first | apply Kd.R_alloc | apply Kd.R_drewN | apply Kd.R_drew)); exact Kd.R_mono HO104.out (fun _ hk => trivial)⟩, ⟨by apply_rules only [HB.out, below_alloc, pw_below_drewN, below_drew1]⟩⟩
             ·rw [if_neg c42] at H
              have c42b0 : (t119 == t121) = false := beq_eq_false_iff_ne.mpr c42
              have c42b1 : (t119 != t121) = true := bne_iff_ne.mpr c42
              exact absurd H (by simp)
           ·rw [if_neg c40] at H
            have c40b0 : (t115 == t117) = false := beq_eq_false_iff_ne.mpr c40
            have c40b1 : (t115 != t117) = true := bne_iff_ne.mpr c40
            exact absurd H (by simp)
         ·rw [if_neg c38] at H
          have c38b0 : (t110 == t113) = false := beq_eq_false_iff_ne.mpr c38
          have c38b1 : (t110 != t113) = true := bne_iff_ne.mpr c38
          exact absurd H (by simp)
        ·rw [if_neg c37] at H
         have c37b0 : (t109 == t112) = false := beq_eq_false_iff_ne.mpr c37
         have c37b1 : (t109 != t112) = true := bne_iff_ne.mpr c37
         exact absurd H (by simp)
      ·replace c35 := Bool.eq_false_iff.mpr c35
       subst c35
       rw [if_neg (show ¬ (false = true) by decide)] at H
       exact absurd H (by simp)
    case rest =>
     as_aux_lemma =>
      clear HC24
      (try clear c15)
      obtain ⟨kq, x219_23, rfl, HA, HJ23, HO_19, HB⟩ := hcut
      cases kq with
      | zero => exact absurd HA.out (by simp [laws_FnGapsToldOfAll.j1])
      | succ kj23 =>
       have H := HA.out
       clear HA
       simp only [laws_FnGapsToldOfAll.j1] at H
       by_cases c50 : x219_23 = true
       ·subst c50
        rw [if_pos rfl] at H
        exact absurd H (by simp)
       ·replace c50 := Bool.eq_false_iff.mpr c50
        subst c50
        rw [if_neg (show ¬ (false = true) by decide)] at H
        have HC51 := Aside0.mk H
        clear H
        go_upto_if 220 with (fail)
        go_cut [] from 220 to 220 (fun wc => ∃ (kq : Nat), Aside0 (laws_FnGapsToldOfAll.j7 kq l1 a2 l3 a4 l5 a6 l7 a8 = some true) ∧ Aside0 (kq ≤ kj23) ∧ Aside0 (Below w.heap.size w wc))
        case first =>
         as_aux_lemma =>
          have H := HC51.out
          clear HC51
          by_cases c52 : t102 = true
          ·subst c52
           rw [if_pos rfl] at H
           replace H := Option.bind_eq_some_iff.mp H
           obtain ⟨⟨t124, t125⟩, A530, H⟩ := H
           (try dsimp only at H)
           have A53 := Aside0.mk A530
           clear A530
           replace H := Option.bind_eq_some_iff.mp H
           obtain ⟨⟨t126, t127⟩, A540, H⟩ := H
           (try dsimp only at H)
           have A54 := Aside0.mk A540
           clear A540
           by_cases c55 : t125 = true
           ·subst c55
            rw [if_pos rfl] at H
            by_cases c56 : t127 = true
            ·subst c56
             rw [if_pos rfl] at H
             by_cases c57 : (t101.length : Int) = t126
             ·rw [if_pos c57] at H
              have c57b0 : ((t101.length : Int) == t126) = true := beq_iff_eq.mpr c57
              have c57b1 : ((t101.length : Int) != t126) = false := bne_eq_false_iff_eq.mpr c57
              clear c57
              (first | rw [c57b0] | rw [c57b1] | (simp only [i64_w, i32_w]; rw [c57b0]) | skip)
              replace H := Option.bind_eq_some_iff.mp H
              obtain ⟨t128, A580, H⟩ := H
              (try dsimp only at H)
              have A58 := Aside0.mk A580
              clear A580
              by_cases c59 : t128 = t124
              ·rw [if_pos c59] at H
               have c59b0 : (t128 == t124) = true := beq_iff_eq.mpr c59
               have c59b1 : (t128 != t124) = false := bne_eq_false_iff_eq.mpr c59
               clear c59
               by_cases c60 : t115 = (wrap64 (t109 - 1))
               ·rw [if_pos c60] at H
                have c60b0 : (t115 == (wrap64 (t109 - 1))) = true := beq_iff_eq.mpr c60
                have c60b1 : (t115 != (wrap64 (t109 - 1))) = false := bne_eq_false_iff_eq.mpr c60
                clear c60
                have H' := Aside0.mk H
                clear H
                go_wp2_with (first | ((with_reducible refine gate_callee (f := 35) rfl ?_); refine goesL_ (some 223) rfl rfl Try.func35 (by kernel_rfl) rfl #[.slice A0 l0.length c0] rfl (by (try simp only [List.map_toArray, List.map_cons, List.map_nil]); first | done | rfl | (simp only [List.length_drop, List.length_take]; rfl)) ?_; (with_reducible refine (impl_PeriodOfRules.calls kj23 _ _ l0 t124 true _ ?side1 ?side2 A53.out).mono ?_); (case side1 => repeat (first | exact (Kd.C_below HR0.out HB.out) | (with_reducible refine Kd.C_alloc ?_ _) | (with_reducible refine Kd.C_drewN ?_ _) | (with_reducible refine Kd.C_drew ?_))); (case side2 => exact HC0.out); rintro e w61 ⟨rfl, hb⟩; refine ⟨_, rfl, ?_⟩; have n0_ := Aside0.mk (Kd.R_below (by apply_rules only [HO_19.out, Kd.R_alloc, Kd.R_drewN, Kd.R_drew]) hb); have n1_ := Aside0.mk (below_step (by apply_rules only [HB.out, below_alloc, pw_below_drewN, below_drew1]) hb); clear HO_19; clear HB; have HO_19 := n0_; have HB := n1_; clear n0_ n1_; (try clear hb); (try clear hb2); (try clear hk); (try clear hi)) | ((with_reducible refine gate_callee (f := 36) rfl ?_); refine goesL_ (some 228) rfl rfl Try.func36 (by kernel_rfl) rfl #[.slice A0 l0.length c0] rfl (by (try simp only [List.map_toArray, List.map_cons, List.map_nil]); first | done | rfl | (simp only [List.length_drop, List.length_take]; rfl)) ?_; (with_reducible refine (impl_LeftInPeriod.calls kj23 _ _ l0 t126 true _ ?side1 ?side2 A54.out).mono ?_); (case side1 => repeat (first | exact (Kd.C_below HR0.out HB.out) | (with_reducible refine Kd.C_alloc ?_ _) | (with_reducible refine Kd.C_drewN ?_ _) | (with_reducible refine Kd.C_drew ?_))); (case side2 => exact HC0.out); rintro e w62 ⟨rfl, hb⟩; refine ⟨_, rfl, ?_⟩; have n0_ := Aside0.mk (Kd.R_below (by apply_rules only [HO_19.out, Kd.R_alloc, Kd.R_drewN, Kd.R_drew]) hb); have n1_ := Aside0.mk (below_step (by apply_rules only [HB.out, below_alloc, pw_below_drewN, below_drew1]) hb); clear HO_19; clear HB; have HO_19 := n0_; have HB := n1_; clear n0_ n1_; (try clear hb); (try clear hb2); (try clear hk); (try clear hi); obtain ⟨Ao63, co63, eo63⟩ := Kd.R_slice HO_19.out; subst eo63) | (go_at_call 37; (with_reducible refine (laws_tSum.calls kj23 _ _ t101 t128 _ ?side1 ?side2 A58.out).mono ?_); (case side1 => repeat (first | exact (Kd.R_reads' HO_19.out).2.2 | (with_reducible refine Kd.C_alloc ?_ _) | (with_reducible refine Kd.C_drewN ?_ _) | (with_reducible refine Kd.C_drew ?_))); (case side2 => exact (Kd.R_reads' HO_19.out).2.1); rintro e w' ⟨rfl, ⟨nd, rfl⟩⟩))
                go_loopg [257] kj23 (fun kq v257 w' => ∃ (x257_3 : Int), v257 = .int .i64 x257_3 ∧ Aside0 (laws_FnGapsToldOfAll.l0 kq l0 l1 a2 l3 a4 l5 a6 l7 a8 t101 t109 t110 t119 t120 t124 t101 (t101.length : Int) x257_3 = some true) ∧ Aside0 (kq ≤ kj23) ∧ Aside0 (Kd.R (Kd.int .i64) 3 w' w.heap.size (fun _ => True) (.slice Ao63 t101.length co63) t101) ∧ Aside0 (Kd.R (Kd.int .i64) 3 w' w.heap.size (fun _ => True) (.slice Ao63 t101.length co63) t101) ∧ Aside0 (Below w.heap.size w w'))
                case atStart => exact ⟨(0), (by first | rfl | (simp; done) | (simp [*]; done)), H', ⟨Nat.le_refl _⟩, ⟨by apply_rules only [HO_19.out, Kd.R_alloc, Kd.R_drewN, Kd.R_drew]⟩, ⟨by apply_rules only [HO_19.out, Kd.R_alloc, Kd.R_drewN, Kd.R_drew]⟩, ⟨by apply_rules only [HB.out, below_alloc, pw_below_drewN, below_drew1]⟩⟩
                case round =>
                 clear H'
                 (try clear c15); (try clear c50); (try clear c52); (try clear c55); (try clear c56); (try clear c57); (try clear c57b0); (try clear c57b1); (try clear c59); (try clear c59b0); (try clear c59b1); (try clear c60); (try clear c60b0); (try clear c60b1)
                 obtain ⟨x257_3, rfl, HA, HK3, HO_19, HO_255, HB⟩ := hrel
                 cases gk with
                 | zero => exact absurd HA.out (by simp [laws_FnGapsToldOfAll.l0])
                 | succ k3 =>
                  have H := HA.out
                  clear HA
                  simp only [laws_FnGapsToldOfAll.l0] at H
                  by_cases c64 : x257_3 < (t101.length : Int)
                  ·rw [if_pos c64] at H
                   have c64b0 : decide (x257_3 < (t101.length : Int)) = true := decide_eq_true c64
                   clear c64
                   by_cases c65 : 0 ≤ x257_3
                   ·rw [if_pos c65] at H
                    have c65b0 : decide (0 ≤ x257_3) = true := decide_eq_true c65
                    clear c65
                    by_cases c66 : x257_3 < (t101.length : Int)
                    ·rw [if_pos c66] at H
                     have c66b0 : decide (x257_3 < (t101.length : Int)) = true := decide_eq_true c66
                     clear c66
                     by_cases c67 : (rd t101 x257_3) < 1
                     ·rw [if_pos c67] at H
                      have c67b0 : decide ((rd t101 x257_3) < 1) = true := decide_eq_true c67
                      clear c67
                      exact absurd H (by simp)
                     ·rw [if_neg c67] at H
                      have c67b0 : decide ((rd t101 x257_3) < 1) = false := decide_eq_false c67
                      clear c67
                      by_cases c68 : (rd t101 x257_3) > t109
                      ·rw [if_pos c68] at H
                       have c68b0 : decide (t109 < (rd t101 x257_3)) = true := decide_eq_true c68
                       clear c68
                       exact absurd H (by simp)
                      ·rw [if_neg c68] at H
                       have c68b0 : decide (t109 < (rd t101 x257_3)) = false := decide_eq_false c68
                       clear c68
                       have H' := Aside0.mk H
                       clear H
                       have p129 : 0 ≤ (x257_3 : Int) := of_decide_eq_true (by first | (with_reducible assumption) | assumption)
                       have q129 : x257_3 < (t101.length : Int) := of_decide_eq_true (by first | (with_reducible assumption) | assumption)
                       obtain ⟨ad129, e129, hx129_0⟩ := Kd.at_int (Kd.R_reads' HO_255.out).2.2 x257_3 p129 q129
                       cases e129
                       replace p129 := eq_true p129
                       replace q129 := eq_true q129
                       go_wp2
                       go_roundg k3
                       case measure => have := HJ9.out; have := HJ23.out; have := HK3.out; omega
                       case rel => exact ⟨(wrap64 (x257_3 + 1)), (by first | rfl | (simp; done) | (simp [*]; done)), H', ⟨by have := HJ9.out; have := HJ23.out; have := HK3.out; omega⟩, ⟨by apply_rules only [HO_19.out, Kd.R_alloc, Kd.R_drewN, Kd.R_drew]⟩, ⟨by apply_rules only [HO_255.out, Kd.R_alloc, Kd.R_drewN, Kd.R_drew]⟩, ⟨by apply_rules only [HB.out, below_alloc, pw_below_drewN, below_drew1]⟩⟩
                    ·rw [if_neg c66] at H
                     exact absurd H (by simp)
                   ·rw [if_neg c65] at H
                    exact absurd H (by simp)
                  ·rw [if_neg c64] at H
                   have c64b0 : decide (x257_3 < (t101.length : Int)) = false := decide_eq_false c64
                   clear c64
                   replace H := Option.bind_eq_some_iff.mp H
                   obtain ⟨⟨t130, t131⟩, A690, H⟩ := H
                   (try dsimp only at H)
                   have A69 := Aside0.mk A690
                   clear A690
                   by_cases c70 : t131 = true
                   ·subst c70
                    rw [if_pos rfl] at H
                    by_cases c71 : t130 < 1
                    ·rw [if_pos c71] at H
                     have c71b0 : decide (t130 < 1) = true := decide_eq_true c71
                     clear c71
                     exact absurd H (by simp)
                    ·rw [if_neg c71] at H
                     have c71b0 : decide (t130 < 1) = false := decide_eq_false c71
                     clear c71
                     replace H := Option.bind_eq_some_iff.mp H
                     obtain ⟨t132, A720, H⟩ := H
                     (try dsimp only at H)
                     have A72 := Aside0.mk A720
                     clear A720
                     by_cases c73 : t132 = true
                     ·subst c73
                      rw [if_pos rfl] at H
                      by_cases c74 : t110 < 0
                      ·rw [if_pos c74] at H
                       have c74b0 : decide (t110 < 0) = true := decide_eq_true c74
                       clear c74
                       exact absurd H (by simp)
                      ·rw [if_neg c74] at H
                       have c74b0 : decide (t110 < 0) = false := decide_eq_false c74
                       clear c74
                       by_cases c75 : t110 ≥ t124
                       ·rw [if_pos c75] at H
                        have c75b0 : decide (t124 ≤ t110) = true := decide_eq_true c75
                        clear c75
                        exact absurd H (by simp)
                       ·rw [if_neg c75] at H
                        have c75b0 : decide (t124 ≤ t110) = false := decide_eq_false c75
                        clear c75
                        have HC76 := Aside0.mk H
                        clear H
                        go_upto_if 297 with (first | ((with_reducible refine gate_callee (f := 38) rfl ?_); refine goesL_ (some 272) rfl rfl Try.func38 (by kernel_rfl) rfl #[.slice A0 l0.length c0, .int .i64 t109] rfl (by (try simp only [List.map_toArray, List.map_cons, List.map_nil]); first | done | rfl | (simp only [List.length_drop, List.length_take]; rfl)) ?_; (with_reducible refine (impl_CountGaps.calls k3 _ _ l0 t109 t130 true _ ?side1 ?side2 A69.out).mono ?_); (case side1 => repeat (first | exact (Kd.C_below HR0.out HB.out) | (with_reducible refine Kd.C_alloc ?_ _) | (with_reducible refine Kd.C_drewN ?_ _) | (with_reducible refine Kd.C_drew ?_))); (case side2 => exact HC0.out); rintro e w77 ⟨rfl, hb⟩; refine ⟨_, rfl, ?_⟩; have n0_ := Aside0.mk (Kd.R_below (by apply_rules only [HO_19.out, Kd.R_alloc, Kd.R_drewN, Kd.R_drew]) hb); have n1_ := Aside0.mk (Kd.R_below (by apply_rules only [HO_255.out, Kd.R_alloc, Kd.R_drewN, Kd.R_drew]) hb); have n2_ := Aside0.mk (below_step (by apply_rules only [HB.out, below_alloc, pw_below_drewN, below_drew1]) hb); clear HO_19; clear HO_255; clear HB; have HO_19 := n0_; have HO_255 := n1_; have HB := n2_; clear n0_ n1_ n2_; (try clear hb); (try clear hb2); (try clear hk); (try clear hi)) | (go_at_call 39; (with_reducible refine (laws_tHas.calls k3 _ _ t101 t109 true _ ?side1 ?side2 A72.out).mono ?_); (case side1 => repeat (first | exact (Kd.R_reads' HO_19.out).2.2 | (with_reducible refine Kd.C_alloc ?_ _) | (with_reducible refine Kd.C_drewN ?_ _) | (with_reducible refine Kd.C_drew ?_))); (case side2 => exact (Kd.R_reads' HO_19.out).2.1); rintro e w' ⟨rfl, ⟨nd, rfl⟩⟩))
                        (try simp only [Act.put, List.setIfInBounds_toArray, List.set_cons_zero, List.set_cons_succ])
                        go_cut [] from 258 to 297 (fun wc => ∃ (kq : Nat), Aside0 (laws_FnGapsToldOfAll.j3 kq l0 l1 a2 l3 a4 l5 a6 l7 a8 t119 t120 = some true) ∧ Aside0 (kq ≤ k3) ∧ Aside0 (Below w.heap.size w wc))
                        case first =>
                         have H := HC76.out
                         clear HC76
                         by_cases c78 : t109 ≤ 200
                         ·rw [if_pos c78] at H
                          have c78b0 : decide (t109 ≤ 200) = true := decide_eq_true c78
                          clear c78
                          (first | rw [c78b0] | rw [c78b1] | (simp only [i64_w, i32_w]; rw [c78b0]) | skip)
                          replace H := Option.bind_eq_some_iff.mp H
                          obtain ⟨⟨t133, t134⟩, A790, H⟩ := H
                          (try dsimp only at H)
                          have A79 := Aside0.mk A790
                          clear A790
                          replace H := Option.bind_eq_some_iff.mp H
                          obtain ⟨⟨t135, t136⟩, A800, H⟩ := H
                          (try dsimp only at H)
                          have A80 := Aside0.mk A800
                          clear A800
                          by_cases c81 : t134 = true
                          ·subst c81
                           rw [if_pos rfl] at H
                           by_cases c82 : t133 = 0
                           ·rw [if_pos c82] at H
                            have c82b0 : (t133 == 0) = true := beq_iff_eq.mpr c82
                            have c82b1 : (t133 != 0) = false := bne_eq_false_iff_eq.mpr c82
                            clear c82
                            by_cases c83 : t136 = true
                            ·subst c83
                             rw [if_pos rfl] at H
                             by_cases c84 : t135 < 1
                             ·rw [if_pos c84] at H
                              have c84b0 : decide (t135 < 1) = true := decide_eq_true c84
                              clear c84
                              exact absurd H (by simp)
                             ·rw [if_neg c84] at H
                              have c84b0 : decide (t135 < 1) = false := decide_eq_false c84
                              clear c84
                              have H' := Aside0.mk H
                              clear H
                              go_wp2_with (first | ((with_reducible refine gate_callee (f := 40) rfl ?_); refine goesL_ (some 302) rfl rfl Try.func40 (by kernel_rfl) rfl #[.slice A0 l0.length c0, .int .i64 (wrap64 (t109 - 1))] rfl (by (try simp only [List.map_toArray, List.map_cons, List.map_nil]); first | done | rfl | (simp only [List.length_drop, List.length_take]; rfl)) ?_; (with_reducible refine (impl_LeastInWindow.calls k3 _ _ l0 (wrap64 (t109 - 1)) t133 true _ ?side1 ?side2 A79.out).mono ?_); (case side1 => repeat (first | exact (Kd.C_below HR0.out HB.out) | (with_reducible refine Kd.C_alloc ?_ _) | (with_reducible refine Kd.C_drewN ?_ _) | (with_reducible refine Kd.C_drew ?_))); (case side2 => exact HC0.out); rintro e w85 ⟨rfl, hb⟩; refine ⟨_, rfl, ?_⟩; have n0_ := Aside0.mk (Kd.R_below (by apply_rules only [HO_19.out, Kd.R_alloc, Kd.R_drewN, Kd.R_drew]) hb); have n1_ := Aside0.mk (Kd.R_below (by apply_rules only [HO_255.out, Kd.R_alloc, Kd.R_drewN, Kd.R_drew]) hb); have n2_ := Aside0.mk (below_step (by apply_rules only [HB.out, below_alloc, pw_below_drewN, below_drew1]) hb); clear HO_19; clear HO_255; clear HB; have HO_19 := n0_; have HO_255 := n1_; have HB := n2_; clear n0_ n1_ n2_; (try clear hb); (try clear hb2); (try clear hk); (try clear hi)) | ((with_reducible refine gate_callee (f := 40) rfl ?_); refine goesL_ (some 308) rfl rfl Try.func40 (by kernel_rfl) rfl #[.slice A0 l0.length c0, .int .i64 t109] rfl (by (try simp only [List.map_toArray, List.map_cons, List.map_nil]); first | done | rfl | (simp only [List.length_drop, List.length_take]; rfl)) ?_; (with_reducible refine (impl_LeastInWindow.calls k3 _ _ l0 t109 t135 true _ ?side1 ?side2 A80.out).mono ?_); (case side1 => repeat (first | exact (Kd.C_below HR0.out HB.out) | (with_reducible refine Kd.C_alloc ?_ _) | (with_reducible refine Kd.C_drewN ?_ _) | (with_reducible refine Kd.C_drew ?_))); (case side2 => exact HC0.out); rintro e w86 ⟨rfl, hb⟩; refine ⟨_, rfl, ?_⟩; have n0_ := Aside0.mk (Kd.R_below (by apply_rules only [HO_19.out, Kd.R_alloc, Kd.R_drewN, Kd.R_drew]) hb); have n1_ := Aside0.mk (Kd.R_below (by apply_rules only [HO_255.out, Kd.R_alloc, Kd.R_drewN, Kd.R_drew]) hb); have n2_ := Aside0.mk (below_step (by apply_rules only [HB.out, below_alloc, pw_below_drewN, below_drew1]) hb); clear HO_19; clear HO_255; clear HB; have HO_19 := n0_; have HO_255 := n1_; have HB := n2_; clear n0_ n1_ n2_; (try clear hb); (try clear hb2); (try clear hk); (try clear hi)))
                              go_meet
                              case rel => exact ⟨_, H', ⟨by have := HJ9.out; have := HJ23.out; have := HK3.out; first | omega | exact Nat.le_refl _⟩, ⟨by apply_rules only [HB.out, below_alloc, pw_below_drewN, below_drew1]⟩⟩
                            ·replace c83 := Bool.eq_false_iff.mpr c83
                             subst c83
                             rw [if_neg (show ¬ (false = true) by decide)] at H
                             exact absurd H (by simp)
                           ·rw [if_neg c82] at H
                            have c82b0 : (t133 == 0) = false := beq_eq_false_iff_ne.mpr c82
                            have c82b1 : (t133 != 0) = true := bne_iff_ne.mpr c82
                            exact absurd H (by simp)
                          ·replace c81 := Bool.eq_false_iff.mpr c81
                           subst c81
                           rw [if_neg (show ¬ (false = true) by decide)] at H
                           exact absurd H (by simp)
                         ·rw [if_neg c78] at H
                          have c78b0 : decide (t109 ≤ 200) = false := decide_eq_false c78
                          clear c78
                          (first | rw [c78b0] | rw [c78b1] | (simp only [i64_w, i32_w]; rw [c78b0]) | skip)
                          have H' := Aside0.mk H
                          clear H
                          go_wp2
                          go_meet
                          case rel => exact ⟨_, H', ⟨by have := HJ9.out; have := HJ23.out; have := HK3.out; first | omega | exact Nat.le_refl _⟩, ⟨by apply_rules only [HB.out, below_alloc, pw_below_drewN, below_drew1]⟩⟩
                        case rest =>
                         as_aux_lemma =>
                          clear HC76
                          (try clear c15); (try clear c50); (try clear c52); (try clear c55); (try clear c56); (try clear c57); (try clear c57b0); (try clear c57b1); (try clear c59); (try clear c59b0); (try clear c59b1); (try clear c60); (try clear c60b0); (try clear c60b1); (try clear c64); (try clear c64b0); (try clear c70); (try clear c71); (try clear c71b0); (try clear c73); (try clear c74); (try clear c74b0); (try clear c75); (try clear c75b0)
                          obtain ⟨kq, HA, HJ75, HB⟩ := hcut
                          cases kq with
                          | zero => exact absurd HA.out (by simp [laws_FnGapsToldOfAll.j3])
                          | succ kj75 =>
                           have H := HA.out
                           clear HA
                           simp only [laws_FnGapsToldOfAll.j3] at H
                           have HC87 := Aside0.mk H
                           clear H
                           go_upto_region 32 with (fail)
                           go_cut [329] from 325 to 329 (fun v329 wc => ∃ (kq : Nat) (x329_86 : Bool), v329 = .bool x329_86 ∧ Aside0 (laws_FnGapsToldOfAll.j4 kq l0 l1 a2 l3 a4 l5 a6 l7 a8 t119 x329_86 = some true) ∧ Aside0 (kq ≤ kj75) ∧ Aside0 (Below w.heap.size w wc))
                           case first =>
                            have H := HC87.out
                            clear HC87
                            by_cases c88 : t120 = true
                            ·subst c88
                             rw [if_pos rfl] at H
                             have H' := Aside0.mk H
                             clear H
                             go_wp2
                             go_meet
                             case rel => exact ⟨_, (decide (t119 < 200)), (by first | rfl | (simp; done) | (simp [*]; done)), H', ⟨by have := HJ9.out; have := HJ23.out; have := HK3.out; have := HJ75.out; first | omega | exact Nat.le_refl _⟩, ⟨by apply_rules only [HB.out, below_alloc, pw_below_drewN, below_drew1]⟩⟩
                            ·replace c88 := Bool.eq_false_iff.mpr c88
                             subst c88
                             rw [if_neg (show ¬ (false = true) by decide)] at H
                             have H' := Aside0.mk H
                             clear H
                             go_wp2
                             go_meet
                             case rel => exact ⟨_, (false), (by first | rfl | (simp; done) | (simp [*]; done)), H', ⟨by have := HJ9.out; have := HJ23.out; have := HK3.out; have := HJ75.out; first | omega | exact Nat.le_refl _⟩, ⟨by apply_rules only [HB.out, below_alloc, pw_below_drewN, below_drew1]⟩⟩
                           case rest =>
                            as_aux_lemma =>
                             clear HC87
                             (try clear c15); (try clear c50); (try clear c52); (try clear c55); (try clear c56); (try clear c57); (try clear c57b0); (try clear c57b1); (try clear c59); (try clear c59b0); (try clear c59b1); (try clear c60); (try clear c60b0); (try clear c60b1); (try clear c64); (try clear c64b0); (try clear c70); (try clear c71); (try clear c71b0); (try clear c73); (try clear c74); (try clear c74b0); (try clear c75); (try clear c75b0)
                             obtain ⟨kq, x329_86, rfl, HA, HJ86, HB⟩ := hcut
                             cases kq with
                             | zero => exact absurd HA.out (by simp [laws_FnGapsToldOfAll.j4])
                             | succ kj86 =>
                              have H := HA.out
                              clear HA
                              simp only [laws_FnGapsToldOfAll.j4] at H
                              have HC89 := Aside0.mk H
                              clear H
                              go_upto_if 329 with (fail)
                              go_cut [] from 330 to 329 (fun wc => ∃ (kq : Nat), Aside0 (laws_FnGapsToldOfAll.j5 kq l0 l1 a2 l3 a4 l5 a6 l7 a8 = some true) ∧ Aside0 (kq ≤ kj86) ∧ Aside0 (Below w.heap.size w wc))
                              case first =>
                               have H := HC89.out
                               clear HC89
                               by_cases c90 : x329_86 = true
                               ·subst c90
                                rw [if_pos rfl] at H
                                replace H := Option.bind_eq_some_iff.mp H
                                obtain ⟨⟨t137, t138⟩, A910, H⟩ := H
                                (try dsimp only at H)
                                have A91 := Aside0.mk A910
                                clear A910
                                replace H := Option.bind_eq_some_iff.mp H
                                obtain ⟨⟨t139, t140⟩, A920, H⟩ := H
                                (try dsimp only at H)
                                have A92 := Aside0.mk A920
                                clear A920
                                by_cases c93 : t138 = true
                                ·subst c93
                                 rw [if_pos rfl] at H
                                 by_cases c94 : t137 = t119
                                 ·rw [if_pos c94] at H
                                  have c94b0 : (t137 == t119) = true := beq_iff_eq.mpr c94
                                  have c94b1 : (t137 != t119) = false := bne_eq_false_iff_eq.mpr c94
                                  clear c94
                                  (first | rw [c94b0] | rw [c94b1] | (simp only [i64_w, i32_w]; rw [c94b0]) | skip)
                                  by_cases c95 : t140 = true
                                  ·subst c95
                                   rw [if_pos rfl] at H
                                   by_cases c96 : t139 > t119
                                   ·rw [if_pos c96] at H
                                    have c96b0 : decide (t119 < t139) = true := decide_eq_true c96
                                    clear c96
                                    exact absurd H (by simp)
                                   ·rw [if_neg c96] at H
                                    have c96b0 : decide (t119 < t139) = false := decide_eq_false c96
                                    clear c96
                                    have H' := Aside0.mk H
                                    clear H
                                    go_wp2_with (first | ((with_reducible refine gate_callee (f := 41) rfl ?_); refine goesL_ (some 333) rfl rfl Try.func41 (by kernel_rfl) rfl #[.slice A0 l0.length c0, .int .i64 t119] rfl (by (try simp only [List.map_toArray, List.map_cons, List.map_nil]); first | done | rfl | (simp only [List.length_drop, List.length_take]; rfl)) ?_; (with_reducible refine (impl_MostInWindow.calls kj86 _ _ l0 t119 t137 true _ ?side1 ?side2 A91.out).mono ?_); (case side1 => repeat (first | exact (Kd.C_below HR0.out HB.out) | (with_reducible refine Kd.C_alloc ?_ _) | (with_reducible refine Kd.C_drewN ?_ _) | (with_reducible refine Kd.C_drew ?_))); (case side2 => exact HC0.out); rintro e w97 ⟨rfl, hb⟩; refine ⟨_, rfl, ?_⟩; have n0_ := Aside0.mk (below_step (by apply_rules only [HB.out, below_alloc, pw_below_drewN, below_drew1]) hb); clear HB; have HB := n0_; clear n0_; (try clear hb); (try clear hb2); (try clear hk); (try clear hi)) | ((with_reducible refine gate_callee (f := 41) rfl ?_); refine goesL_ (some 340) rfl rfl Try.func41 (by kernel_rfl) rfl #[.slice A0 l0.length c0, .int .i64 (wrap64 (t119 + 1))] rfl (by (try simp only [List.map_toArray, List.map_cons, List.map_nil]); first | done | rfl | (simp only [List.length_drop, List.length_take]; rfl)) ?_; (with_reducible refine (impl_MostInWindow.calls kj86 _ _ l0 (wrap64 (t119 + 1)) t139 true _ ?side1 ?side2 A92.out).mono ?_); (case side1 => repeat (first | exact (Kd.C_below HR0.out HB.out) | (with_reducible refine Kd.C_alloc ?_ _) | (with_reducible refine Kd.C_drewN ?_ _) | (with_reducible refine Kd.C_drew ?_))); (case side2 => exact HC0.out); rintro e w98 ⟨rfl, hb⟩; refine ⟨_, rfl, ?_⟩; have n0_ := Aside0.mk (below_step (by apply_rules only [HB.out, below_alloc, pw_below_drewN, below_drew1]) hb); clear HB; have HB := n0_; clear n0_; (try clear hb); (try clear hb2); (try clear hk); (try clear hi)))
                                    go_meet
                                    case rel => exact ⟨_, H', ⟨by have := HJ9.out; have := HJ23.out; have := HK3.out; have := HJ75.out; have := HJ86.out; first | omega | exact Nat.le_refl _⟩, ⟨by apply_rules only [HB.out, below_alloc, pw_below_drewN, below_drew1]⟩⟩
                                  ·replace c95 := Bool.eq_false_iff.mpr c95
                                   subst c95
                                   rw [if_neg (show ¬ (false = true) by decide)] at H
                                   exact absurd H (by simp)
                                 ·rw [if_neg c94] at H
                                  have c94b0 : (t137 == t119) = false := beq_eq_false_iff_ne.mpr c94
                                  have c94b1 : (t137 != t119) = true := bne_iff_ne.mpr c94
                                  (first | rw [c94b0] | rw [c94b1] | (simp only [i64_w, i32_w]; rw [c94b0]) | skip)
                                  exact absurd H (by simp)
                                ·replace c93 := Bool.eq_false_iff.mpr c93
                                 subst c93
                                 rw [if_neg (show ¬ (false = true) by decide)] at H
                                 exact absurd H (by simp)
                               ·replace c90 := Bool.eq_false_iff.mpr c90
                                subst c90
                                rw [if_neg (show ¬ (false = true) by decide)] at H
                                have H' := Aside0.mk H
                                clear H
                                go_wp2
                                go_meet
                                case rel => exact ⟨_, H', ⟨by have := HJ9.out; have := HJ23.out; have := HK3.out; have := HJ75.out; have := HJ86.out; first | omega | exact Nat.le_refl _⟩, ⟨by apply_rules only [HB.out, below_alloc, pw_below_drewN, below_drew1]⟩⟩
                              case rest =>
                               as_aux_lemma =>
                                clear HC89
                                (try clear c15); (try clear c50); (try clear c52); (try clear c55); (try clear c56); (try clear c57); (try clear c57b0); (try clear c57b1); (try clear c59); (try clear c59b0); (try clear c59b1); (try clear c60); (try clear c60b0); (try clear c60b1); (try clear c64); (try clear c64b0); (try clear c70); (try clear c71); (try clear c71b0); (try clear c73); (try clear c74); (try clear c74b0); (try clear c75); (try clear c75b0)
                                obtain ⟨kq, HA, HJ88, HB⟩ := hcut
                                cases kq with
                                | zero => exact absurd HA.out (by simp [laws_FnGapsToldOfAll.j5])
                                | succ kj88 =>
                                 have H := HA.out
                                 clear HA
                                 simp only [laws_FnGapsToldOfAll.j5] at H
                                 have H' := Aside0.mk H
                                 clear H
                                 go_wp2
                                 go_loopg [53] kj88 (fun kq v53 w' => ∃ (x53_7 : Int), v53 = .int .i64 x53_7 ∧ Aside0 (laws_FnGapsToldOfAll.l1 kq l0 l1 a2 l3 a4 l5 a6 l7 a8 x53_7 = some true) ∧ Aside0 (kq ≤ kj88) ∧ Aside0 (Below w.heap.size w w'))
                                 case atStart => exact ⟨(1), (by first | rfl | (simp; done) | (simp [*]; done)), H', ⟨Nat.le_refl _⟩, ⟨by apply_rules only [HB.out, below_alloc, pw_below_drewN, below_drew1]⟩⟩
                                 case round =>
                                  clear H'
                                  (try clear c15); (try clear c50); (try clear c52); (try clear c55); (try clear c56); (try clear c57); (try clear c57b0); (try clear c57b1); (try clear c59); (try clear c59b0); (try clear c59b1); (try clear c60); (try clear c60b0); (try clear c60b1); (try clear c64); (try clear c64b0); (try clear c70); (try clear c71); (try clear c71b0); (try clear c73); (try clear c74); (try clear c74b0); (try clear c75); (try clear c75b0)
                                  obtain ⟨x53_7, rfl, HA, HK7, HB⟩ := hrel
                                  cases gk with
                                  | zero => exact absurd HA.out (by simp [laws_FnGapsToldOfAll.l1])
                                  | succ k7 =>
                                   have H := HA.out
                                   clear HA
                                   simp only [laws_FnGapsToldOfAll.l1] at H
                                   by_cases c99 : x53_7 ≤ 6
                                   ·rw [if_pos c99] at H
                                    have c99b0 : decide (x53_7 ≤ 6) = true := decide_eq_true c99
                                    clear c99
                                    replace H := Option.bind_eq_some_iff.mp H
                                    obtain ⟨⟨t141, t142⟩, A1000, H⟩ := H
                                    (try dsimp only at H)
                                    have A100 := Aside0.mk A1000
                                    clear A1000
                                    replace H := Option.bind_eq_some_iff.mp H
                                    obtain ⟨⟨t143, t144⟩, A1010, H⟩ := H
                                    (try dsimp only at H)
                                    have A101 := Aside0.mk A1010
                                    clear A1010
                                    by_cases c102 : t142 = true
                                    ·subst c102
                                     rw [if_pos rfl] at H
                                     by_cases c103 : t144 = true
                                     ·subst c103
                                      rw [if_pos rfl] at H
                                      by_cases c104 : t141 > t143
                                      ·rw [if_pos c104] at H
                                       have c104b0 : decide (t143 < t141) = true := decide_eq_true c104
                                       clear c104
                                       exact absurd H (by simp)
                                      ·rw [if_neg c104] at H
                                       have c104b0 : decide (t143 < t141) = false := decide_eq_false c104
                                       clear c104
                                       have H' := Aside0.mk H
                                       clear H
                                       go_wp2_with (first | ((with_reducible refine gate_callee (f := 38) rfl ?_); refine goesL_ (some 366) rfl rfl Try.func38 (by kernel_rfl) rfl #[.slice A0 l0.length c0, .int .i64 x53_7] rfl (by (try simp only [List.map_toArray, List.map_cons, List.map_nil]); first | done | rfl | (simp only [List.length_drop, List.length_take]; rfl)) ?_; (with_reducible refine (impl_CountGaps.calls k7 _ _ l0 x53_7 t141 true _ ?side1 ?side2 A100.out).mono ?_); (case side1 => repeat (first | exact (Kd.C_below HR0.out HB.out) | (with_reducible refine Kd.C_alloc ?_ _) | (with_reducible refine Kd.C_drewN ?_ _) | (with_reducible refine Kd.C_drew ?_))); (case side2 => exact HC0.out); rintro e w105 ⟨rfl, hb⟩; refine ⟨_, rfl, ?_⟩; have n0_ := Aside0.mk (below_step (by apply_rules only [HB.out, below_alloc, pw_below_drewN, below_drew1]) hb); clear HB; have HB := n0_; clear n0_; (try clear hb); (try clear hb2); (try clear hk); (try clear hi)) | ((with_reducible refine gate_callee (f := 42) rfl ?_); refine goesL_ (some 372) rfl rfl Try.func42 (by kernel_rfl) rfl #[.slice A0 l0.length c0, .int .i64 x53_7] rfl (by (try simp only [List.map_toArray, List.map_cons, List.map_nil]); first | done | rfl | (simp only [List.length_drop, List.length_take]; rfl)) ?_; (with_reducible refine (impl_PairsInPeriod.calls k7 _ _ l0 x53_7 t143 true _ ?side1 ?side2 A101.out).mono ?_); (case side1 => repeat (first | exact (Kd.C_below HR0.out HB.out) | (with_reducible refine Kd.C_alloc ?_ _) | (with_reducible refine Kd.C_drewN ?_ _) | (with_reducible refine Kd.C_drew ?_))); (case side2 => exact HC0.out); rintro e w106 ⟨rfl, hb⟩; refine ⟨_, rfl, ?_⟩; have n0_ := Aside0.mk (below_step (by apply_rules only [HB.out, below_alloc, pw_below_drewN, below_drew1]) hb); clear HB; have HB := n0_; clear n0_; (try clear hb); (try clear hb2); (try clear hk); (try clear hi)))
                                       go_roundg k7
                                       case measure => have := HJ9.out; have := HJ23.out; have := HK3.out; have := HJ75.out; have := HJ86.out; have := HJ88.out; have := HK7.out; omega
                                       case rel => exact ⟨(wrap64 (x53_7 + 1)), (by first | rfl | (simp; done) | (simp [*]; done)), H', ⟨by have := HJ9.out; have := HJ23.out; have := HK3.out; have := HJ75.out; have := HJ86.out; have := HJ88.out; have := HK7.out; omega⟩, ⟨by apply_rules only [HB.out, below_alloc, pw_below_drewN, below_drew1]⟩⟩
                                     ·replace c103 := Bool.eq_false_iff.mpr c103
                                      subst c103
                                      rw [if_neg (show ¬ (false = true) by decide)] at H
                                      exact absurd H (by simp)
                                    ·replace c102 := Bool.eq_false_iff.mpr c102
                                     subst c102
                                     rw [if_neg (show ¬ (false = true) by decide)] at H
                                     exact absurd H (by simp)
                                   ·rw [if_neg c99] at H
                                    have c99b0 : decide (x53_7 ≤ 6) = false := decide_eq_false c99
                                    clear c99
                                    have H' := Aside0.mk H
                                    clear H
                                    go_wp2
                                    go_meet
                                    case rel => exact ⟨_, H', ⟨by have := HJ9.out; have := HJ23.out; have := HK3.out; have := HJ75.out; have := HJ86.out; have := HJ88.out; have := HK7.out; first | omega | exact Nat.le_refl _⟩, ⟨by apply_rules only [HB.out, below_alloc, pw_below_drewN, below_drew1]⟩⟩
                     ·replace c73 := Bool.eq_false_iff.mpr c73
                      subst c73
                      rw [if_neg (show ¬ (false = true) by decide)] at H
                      exact absurd H (by simp)
                   ·replace c70 := Bool.eq_false_iff.mpr c70
                    subst c70
                    rw [if_neg (show ¬ (false = true) by decide)] at H
                    exact absurd H (by simp)
               ·rw [if_neg c60] at H
                have c60b0 : (t115 == (wrap64 (t109 - 1))) = false := beq_eq_false_iff_ne.mpr c60
                have c60b1 : (t115 != (wrap64 (t109 - 1))) = true := bne_iff_ne.mpr c60
                exact absurd H (by simp)
              ·rw [if_neg c59] at H
               have c59b0 : (t128 == t124) = false := beq_eq_false_iff_ne.mpr c59
               have c59b1 : (t128 != t124) = true := bne_iff_ne.mpr c59
               exact absurd H (by simp)
             ·rw [if_neg c57] at H
              have c57b0 : ((t101.length : Int) == t126) = false := beq_eq_false_iff_ne.mpr c57
              have c57b1 : ((t101.length : Int) != t126) = true := bne_iff_ne.mpr c57
              (first | rw [c57b0] | rw [c57b1] | (simp only [i64_w, i32_w]; rw [c57b0]) | skip)
              exact absurd H (by simp)
            ·replace c56 := Bool.eq_false_iff.mpr c56
             subst c56
             rw [if_neg (show ¬ (false = true) by decide)] at H
             exact absurd H (by simp)
           ·replace c55 := Bool.eq_false_iff.mpr c55
            subst c55
            rw [if_neg (show ¬ (false = true) by decide)] at H
            exact absurd H (by simp)
          ·replace c52 := Bool.eq_false_iff.mpr c52
           subst c52
           rw [if_neg (show ¬ (false = true) by decide)] at H
           have H' := Aside0.mk H
           clear H
           go_wp2
           go_meet
           case rel => exact ⟨_, H', ⟨by have := HJ9.out; have := HJ23.out; first | omega | exact Nat.le_refl _⟩, ⟨by apply_rules only [HB.out, below_alloc, pw_below_drewN, below_drew1]⟩⟩
        case rest =>
         as_aux_lemma =>
          clear HC51
          (try clear c15); (try clear c50)
          obtain ⟨kq, HA, HJ50, HB⟩ := hcut
          cases kq with
          | zero => exact absurd HA.out (by simp [laws_FnGapsToldOfAll.j7])
          | succ kj50 =>
           have H := HA.out
           clear HA
           simp only [laws_FnGapsToldOfAll.j7] at H
           replace H := Option.bind_eq_some_iff.mp H
           obtain ⟨⟨t145, t146⟩, A1070, H⟩ := H
           (try dsimp only at H)
           have A107 := Aside0.mk A1070
           clear A1070
           replace H := Option.bind_eq_some_iff.mp H
           obtain ⟨⟨t149, t150⟩, A1080, H⟩ := H
           (try dsimp only at H)
           have A108 := Aside0.mk A1080
           clear A1080
           replace H := Option.bind_eq_some_iff.mp H
           obtain ⟨⟨t153, t154⟩, A1090, H⟩ := H
           (try dsimp only at H)
           have A109 := Aside0.mk A1090
           clear A1090
           replace H := Option.bind_eq_some_iff.mp H
           obtain ⟨⟨t157, t158⟩, A1100, H⟩ := H
           (try dsimp only at H)
           have A110 := Aside0.mk A1100
           clear A1100
           by_cases c111 : (t146 != t150) = true
           ·rw [if_pos c111] at H
            have c111b0 : (t146 != t150) = true := c111
            (try (have c111b1 : decide (t146 = t150) = false := by simpa using c111))
            (try (have c111b2 : (t146 == t150) = false := by simpa using c111))
            (try (have c111b3 : ¬ (t146 = t150) := by simpa using c111))
            clear c111
            exact absurd H (by simp)
           ·rw [if_neg c111] at H
            have c111b0 : (t146 != t150) = false := by simpa using c111
            (try (have c111b1 : decide (t146 = t150) = true := by simpa using c111))
            (try (have c111b2 : (t146 == t150) = true := by simpa using c111))
            clear c111
            replace H := Option.bind_eq_some_iff.mp H
            obtain ⟨t161, A1120, H⟩ := H
            (try dsimp only at H)
            have A112 := Aside0.mk A1120
            clear A1120
            by_cases c113 : t161 = true
            ·subst c113
             rw [if_pos rfl] at H
             by_cases c114 : (t154 != t158) = true
             ·rw [if_pos c114] at H
              have c114b0 : (t154 != t158) = true := c114
              (try (have c114b1 : decide (t154 = t158) = false := by simpa using c114))
              (try (have c114b2 : (t154 == t158) = false := by simpa using c114))
              (try (have c114b3 : ¬ (t154 = t158) := by simpa using c114))
              clear c114
              exact absurd H (by simp)
             ·rw [if_neg c114] at H
              have c114b0 : (t154 != t158) = false := by simpa using c114
              (try (have c114b1 : decide (t154 = t158) = true := by simpa using c114))
              (try (have c114b2 : (t154 == t158) = true := by simpa using c114))
              clear c114
              replace H := Option.bind_eq_some_iff.mp H
              obtain ⟨t162, A1150, H⟩ := H
              (try dsimp only at H)
              have A115 := Aside0.mk A1150
              clear A1150
              by_cases c116 : t162 = true
              ·subst c116
               rw [if_pos rfl] at H
               by_cases c117 : (t154 != t146) = true
               ·rw [if_pos c117] at H
                have c117b0 : (t154 != t146) = true := c117
                (try (have c117b1 : decide (t154 = t146) = false := by simpa using c117))
                (try (have c117b2 : (t154 == t146) = false := by simpa using c117))
                (try (have c117b3 : ¬ (t154 = t146) := by simpa using c117))
                clear c117
                exact absurd H (by simp)
               ·rw [if_neg c117] at H
                have c117b0 : (t154 != t146) = false := by simpa using c117
                (try (have c117b1 : decide (t154 = t146) = true := by simpa using c117))
                (try (have c117b2 : (t154 == t146) = true := by simpa using c117))
                clear c117
                have HC118 := Aside0.mk H
                clear H
                go_upto_if 435 with (first | ((with_reducible refine gate_callee (f := 43) rfl ?_); refine goesL_ (some 389) rfl rfl Try.func43 (by kernel_rfl) rfl #[.slice A1 l1.length c1, .int .i64 a2] rfl (by (try simp only [List.map_toArray, List.map_cons, List.map_nil]); first | done | rfl | (simp only [List.length_drop, List.length_take]; rfl)) ?_; (with_reducible refine (impl_GapsUpTo.calls kj50 _ _ l1 a2 t145 t146 _ ?side1 ?side2 A107.out).mono ?_); (case side1 => repeat (first | exact (Kd.C_below HR1.out HB.out) | (with_reducible refine Kd.C_alloc ?_ _) | (with_reducible refine Kd.C_drewN ?_ _) | (with_reducible refine Kd.C_drew ?_))); (case side2 => exact HC1.out); rintro e w119 ⟨v147, rfl, ho0, hb⟩; refine ⟨_, rfl, ?_⟩; have n0_ := Aside0.mk (Kd.R_lower ho0 (below_size (by apply_rules only [HB.out, below_alloc, pw_below_drewN, below_drew1]))); have n1_ := Aside0.mk (below_step (by apply_rules only [HB.out, below_alloc, pw_below_drewN, below_drew1]) hb); clear HB; have HO148 := n0_; have HB := n1_; clear n0_ n1_; (try clear hb); (try clear hb2); (try clear hk); (try clear hi); (try clear ho0)) | ((with_reducible refine gate_callee (f := 44) rfl ?_); refine goesL_ (some 395) rfl rfl Try.func44 (by kernel_rfl) rfl #[.slice A1 l1.length c1, .int .i64 a2] rfl (by (try simp only [List.map_toArray, List.map_cons, List.map_nil]); first | done | rfl | (simp only [List.length_drop, List.length_take]; rfl)) ?_; (with_reducible refine (spec_GapsUpTo.calls kj50 _ _ l1 a2 t149 t150 _ ?side1 ?side2 A108.out).mono ?_); (case side1 => repeat (first | exact (Kd.C_below HR1.out HB.out) | (with_reducible refine Kd.C_alloc ?_ _) | (with_reducible refine Kd.C_drewN ?_ _) | (with_reducible refine Kd.C_drew ?_))); (case side2 => exact HC1.out); rintro e w120 ⟨v151, rfl, ho0, hb⟩; refine ⟨_, rfl, ?_⟩; have n0_ := Aside0.mk (Kd.R_elder' (by apply_rules only [HO148.out, Kd.R_alloc, Kd.R_drewN, Kd.R_drew]) (Kd.R_base ho0) hb); have n1_ := Aside0.mk (Kd.R_lower (Kd.R_new' ho0 (Kd.R_lt (by apply_rules only [HO148.out, Kd.R_alloc, Kd.R_drewN, Kd.R_drew]))) (below_size (by apply_rules only [HB.out, below_alloc, pw_below_drewN, below_drew1]))); have n2_ := Aside0.mk (below_step (by apply_rules only [HB.out, below_alloc, pw_below_drewN, below_drew1]) hb); clear HO148; clear HB; have HO148 := n0_; have HO152 := n1_; have HB := n2_; clear n0_ n1_ n2_; (try clear hb); (try clear hb2); (try clear hk); (try clear hi); (try clear ho0)) | ((with_reducible refine gate_callee (f := 45) rfl ?_); refine goesL_ (some 401) rfl rfl Try.func45 (by kernel_rfl) rfl #[.slice A1 l1.length c1, .int .i64 a2] rfl (by (try simp only [List.map_toArray, List.map_cons, List.map_nil]); first | done | rfl | (simp only [List.length_drop, List.length_take]; rfl)) ?_; (with_reducible refine (impl_RecordGaps.calls kj50 _ _ l1 a2 t153 t154 _ ?side1 ?side2 A109.out).mono ?_); (case side1 => repeat (first | exact (Kd.C_below HR1.out HB.out) | (with_reducible refine Kd.C_alloc ?_ _) | (with_reducible refine Kd.C_drewN ?_ _) | (with_reducible refine Kd.C_drew ?_))); (case side2 => exact HC1.out); rintro e w121 ⟨v155, rfl, ho0, hb⟩; refine ⟨_, rfl, ?_⟩; have n0_ := Aside0.mk (Kd.R_below (by apply_rules only [HO148.out, Kd.R_alloc, Kd.R_drewN, Kd.R_drew]) hb); have n1_ := Aside0.mk (Kd.R_below (by apply_rules only [HO152.out, Kd.R_alloc, Kd.R_drewN, Kd.R_drew]) hb); have n2_ := Aside0.mk (Kd.S_lower (Kd.S_new' (Kd.S_new' ho0 (Kd.R_lt (by apply_rules only [HO148.out, Kd.R_alloc, Kd.R_drewN, Kd.R_drew]))) (Kd.R_lt (by apply_rules only [HO152.out, Kd.R_alloc, Kd.R_drewN, Kd.R_drew]))) (below_size (by apply_rules only [HB.out, below_alloc, pw_below_drewN, below_drew1]))); have n3_ := Aside0.mk (below_step (by apply_rules only [HB.out, below_alloc, pw_below_drewN, below_drew1]) hb); clear HO148; clear HO152; clear HB; have HO148 := n0_; have HO152 := n1_; have HO156 := n2_; have HB := n3_; clear n0_ n1_ n2_ n3_; (try clear hb); (try clear hb2); (try clear hk); (try clear hi); (try clear ho0)) | ((with_reducible refine gate_callee (f := 46) rfl ?_); refine goesL_ (some 407) rfl rfl Try.func46 (by kernel_rfl) rfl #[.slice A1 l1.length c1, .int .i64 a2] rfl (by (try simp only [List.map_toArray, List.map_cons, List.map_nil]); first | done | rfl | (simp only [List.length_drop, List.length_take]; rfl)) ?_; (with_reducible refine (spec_RecordGaps.calls kj50 _ _ l1 a2 t157 t158 _ ?side1 ?side2 A110.out).mono ?_); (case side1 => repeat (first | exact (Kd.C_below HR1.out HB.out) | (with_reducible refine Kd.C_alloc ?_ _) | (with_reducible refine Kd.C_drewN ?_ _) | (with_reducible refine Kd.C_drew ?_))); (case side2 => exact HC1.out); rintro e w122 ⟨v159, rfl, ho0, hb⟩; refine ⟨_, rfl, ?_⟩; have n0_ := Aside0.mk (Kd.R_below (by apply_rules only [HO148.out, Kd.R_alloc, Kd.R_drewN, Kd.R_drew]) hb); have n1_ := Aside0.mk (Kd.R_below (by apply_rules only [HO152.out, Kd.R_alloc, Kd.R_drewN, Kd.R_drew]) hb); have n2_ := Aside0.mk (Kd.S_elder' (by apply_rules only [HO156.out, Kd.S_alloc, Kd.S_drewN, Kd.S_drew]) (Kd.S_base ho0) hb); have n3_ := Aside0.mk (Kd.S_lower (Kd.S_new' (Kd.S_new' (Kd.S_new' ho0 (Kd.R_lt (by apply_rules only [HO148.out, Kd.R_alloc, Kd.R_drewN, Kd.R_drew]))) (Kd.R_lt (by apply_rules only [HO152.out, Kd.R_alloc, Kd.R_drewN, Kd.R_drew]))) (Kd.S_lt (by apply_rules only [HO156.out, Kd.S_alloc, Kd.S_drewN, Kd.S_drew]))) (below_size (by apply_rules only [HB.out, below_alloc, pw_below_drewN, below_drew1]))); have n4_ := Aside0.mk (below_step (by apply_rules only [HB.out, below_alloc, pw_below_drewN, below_drew1]) hb); clear HO148; clear HO152; clear HO156; clear HB; have HO148 := n0_; have HO152 := n1_; have HO156 := n2_; have HO160 := n3_; have HB := n4_; clear n0_ n1_ n2_ n3_ n4_; (try clear hb); (try clear hb2); (try clear hk); (try clear hi); (try clear ho0); obtain ⟨Ao123, co123, eo123⟩ := Kd.R_slice HO148.out; subst eo123; obtain ⟨Ao124, co124, eo124⟩ := Kd.R_slice HO152.out; subst eo124) | (go_at_call 34; (with_reducible refine (laws_tSame.calls kj50 _ _ t145 _ _ t149 true _ ?side1 ?side2 ?side3 ?side4 A112.out).mono ?_); (case side1 => repeat (first | exact (Kd.R_reads' HO148.out).2.2 | (with_reducible refine Kd.C_alloc ?_ _) | (with_reducible refine Kd.C_drewN ?_ _) | (with_reducible refine Kd.C_drew ?_))); (case side2 => exact (Kd.R_reads' HO148.out).2.1); (case side3 => repeat (first | exact (Kd.R_reads' HO152.out).2.2 | (with_reducible refine Kd.C_alloc ?_ _) | (with_reducible refine Kd.C_drewN ?_ _) | (with_reducible refine Kd.C_drew ?_))); (case side4 => exact (Kd.R_reads' HO152.out).2.1); rintro e w' ⟨rfl, ⟨nd, rfl⟩⟩; obtain ⟨Ao125, co125, eo125⟩ := Kd.S_slice HO156.out; subst eo125; obtain ⟨Ao126, co126, eo126⟩ := Kd.S_slice HO160.out; subst eo126) | (go_at_call 47; (with_reducible refine (laws_tRows.calls kj50 _ _ t153 _ _ t157 true _ ?side1 ?side2 ?side3 ?side4 A115.out).mono ?_); (case side1 => repeat (first | exact (Kd.S_reads' HO156.out).2.2 | (with_reducible refine Kd.C_alloc ?_ _) | (with_reducible refine Kd.C_drewN ?_ _) | (with_reducible refine Kd.C_drew ?_))); (case side2 => exact (Kd.S_reads' HO156.out).2.1); (case side3 => repeat (first | exact (Kd.S_reads' HO160.out).2.2 | (with_reducible refine Kd.C_alloc ?_ _) | (with_reducible refine Kd.C_drewN ?_ _) | (with_reducible refine Kd.C_drew ?_))); (case side4 => exact (Kd.S_reads' HO160.out).2.1); rintro e w' ⟨rfl, ⟨nd, rfl⟩⟩))
                (try simp only [Act.put, List.setIfInBounds_toArray, List.set_cons_zero, List.set_cons_succ])
                go_cut [] from 386 to 435 (fun wc => ∃ (kq : Nat), Aside0 (laws_FnGapsToldOfAll.j11 kq l3 a4 l5 a6 l7 a8 = some true) ∧ Aside0 (kq ≤ kj50) ∧ Aside0 (Below w.heap.size w wc))
                case first =>
                 as_aux_lemma =>
                  have H := HC118.out
                  clear HC118
                  by_cases c127 : t146 = true
                  ·subst c127
                   rw [if_pos rfl] at H
                   replace H := Option.bind_eq_some_iff.mp H
                   obtain ⟨⟨t163, t164⟩, A1280, H⟩ := H
                   (try dsimp only at H)
                   have A128 := Aside0.mk A1280
                   clear A1280
                   have HC129 := Aside0.mk H
                   clear H
                   go_upto_region 52 with (first | ((with_reducible refine gate_callee (f := 48) rfl ?_); refine goesL_ (some 439) rfl rfl Try.func48 (by kernel_rfl) rfl #[.slice A1 l1.length c1, .int .i64 a2] rfl (by (try simp only [List.map_toArray, List.map_cons, List.map_nil]); first | done | rfl | (simp only [List.length_drop, List.length_take]; rfl)) ?_; (with_reducible refine (impl_LeftUpTo.calls kj50 _ _ l1 a2 t163 t164 _ ?side1 ?side2 A128.out).mono ?_); (case side1 => repeat (first | exact (Kd.C_below HR1.out HB.out) | (with_reducible refine Kd.C_alloc ?_ _) | (with_reducible refine Kd.C_drewN ?_ _) | (with_reducible refine Kd.C_drew ?_))); (case side2 => exact HC1.out); rintro e w130 ⟨v165, rfl, ho0, hb⟩; refine ⟨_, rfl, ?_⟩; have n0_ := Aside0.mk (Kd.R_elder' (by apply_rules only [HO148.out, Kd.R_alloc, Kd.R_drewN, Kd.R_drew]) (Kd.R_base ho0) hb); have n1_ := Aside0.mk (Kd.R_elder' (by apply_rules only [HO152.out, Kd.R_alloc, Kd.R_drewN, Kd.R_drew]) (Kd.R_base ho0) hb); have n2_ := Aside0.mk (Kd.S_elder' (by apply_rules only [HO156.out, Kd.S_alloc, Kd.S_drewN, Kd.S_drew]) (Kd.R_base ho0) hb); have n3_ := Aside0.mk (Kd.S_elder' (by apply_rules only [HO160.out, Kd.S_alloc, Kd.S_drewN, Kd.S_drew]) (Kd.R_base ho0) hb); have n4_ := Aside0.mk (Kd.R_lower (Kd.R_new' (Kd.R_new' ho0 (Kd.R_lt (by apply_rules only [HO148.out, Kd.R_alloc, Kd.R_drewN, Kd.R_drew]))) (Kd.R_lt (by apply_rules only [HO152.out, Kd.R_alloc, Kd.R_drewN, Kd.R_drew]))) (below_size (by apply_rules only [HB.out, below_alloc, pw_below_drewN, below_drew1]))); have n5_ := Aside0.mk (below_step (by apply_rules only [HB.out, below_alloc, pw_below_drewN, below_drew1]) hb); clear HO148; clear HO152; clear HO156; clear HO160; clear HB; have HO148 := n0_; have HO152 := n1_; have HO156 := n2_; have HO160 := n3_; have HO166 := n4_; have HB := n5_; clear n0_ n1_ n2_ n3_ n4_ n5_; (try clear hb); (try clear hb2); (try clear hk); (try clear hi); (try clear ho0)))
                   (try simp only [Act.put, List.setIfInBounds_toArray, List.set_cons_zero, List.set_cons_succ])
                   go_cut [471] from 436 to 471 (fun v471 wc => ∃ (kq : Nat) (x471_128 : Bool), v471 = .bool x471_128 ∧ Aside0 (laws_FnGapsToldOfAll.j8 kq l1 l3 a4 l5 a6 l7 a8 t145 t153 t163 x471_128 = some true) ∧ Aside0 (kq ≤ kj50) ∧ Aside0 (Kd.R (Kd.int .i64) 3 wc w.heap.size (fun k_ => some k_ ≠ (v165 : Value).ownBlock) (.slice Ao123 t145.length co123) t145) ∧ Aside0 (Kd.S (Kd.slice 3 (Kd.int .i64)) 22 wc w.heap.size (fun k_ => some k_ ≠ ((.slice Ao123 t145.length co123) : Value).ownBlock ∧ some k_ ≠ (v165 : Value).ownBlock) (.slice Ao125 t153.length co125) t153) ∧ Aside0 (Kd.R (Kd.int .i64) 3 wc w.heap.size (fun k_ => some k_ ≠ ((.slice Ao123 t145.length co123) : Value).ownBlock) v165 t163) ∧ Aside0 (Below w.heap.size w wc))
                   case first =>
                    have H := HC129.out
                    clear HC129
                    by_cases c131 : t164 = true
                    ·subst c131
                     rw [if_pos rfl] at H
                     by_cases c132 : (t163.length : Int) > 0
                     ·rw [if_pos c132] at H
                      have c132b0 : decide (0 < (t163.length : Int)) = true := decide_eq_true c132
                      have c132b1 : decide (0 < t163.length) = true := decide_eq_true (by omega)
                      clear c132
                      (first | rw [c132b0] | rw [c132b1] | (simp only [i64_w, i32_w]; rw [c132b0]) | skip)
                      by_cases c133 : (t145.length : Int) = (wrap64 ((t163.length : Int) - 1))
                      ·rw [if_pos c133] at H
                       have c133b0 : ((t145.length : Int) == (wrap64 ((t163.length : Int) - 1))) = true := beq_iff_eq.mpr c133
                       have c133b1 : ((t145.length : Int) != (wrap64 ((t163.length : Int) - 1))) = false := bne_eq_false_iff_eq.mpr c133
                       clear c133
                       replace H := Option.bind_eq_some_iff.mp H
                       obtain ⟨t167, A1340, H⟩ := H
                       (try dsimp only at H)
                       have A134 := Aside0.mk A1340
                       clear A1340
                       obtain ⟨ji135, hji135⟩ : ∃ j_ : Int, (wrap64 ((t163.length : Int) - 1)) = j_ := ⟨_, rfl⟩
                       replace H : (if 0 ≤ (ji135) then (if (ji135) < (t163.length : Int) then (if 0 < (t163.length : Int) then (laws_FnGapsToldOfAll.j8 kj50 l1 l3 a4 l5 a6 l7 a8 t145 t153 t163 (t167 != (wrap64 ((rd t163 (ji135)) - (rd t163 0))))) else (none)) else (none)) else (none)) = some true := by first | (rw [hji135] at H; exact H) | (simp only [hji135] at H ⊢; exact H)
                       (try rw [hji135] at c133b0)
                       (try rw [hji135] at c133b1)
                       (try rw [hji135] at A134)
                       have hji135w : (IntKind.i64.wrap ((t163.length : Int) - 1)) = ji135 := (i64_w _).trans hji135
                       by_cases c136 : 0 ≤ (ji135)
                       ·rw [if_pos c136] at H
                        have c136b0 : decide (0 ≤ (ji135)) = true := decide_eq_true c136
                        clear c136
                        by_cases c137 : (ji135) < (t163.length : Int)
                        ·rw [if_pos c137] at H
                         have c137b0 : decide ((ji135) < (t163.length : Int)) = true := decide_eq_true c137
                         clear c137
                         by_cases c138 : 0 < (t163.length : Int)
                         ·rw [if_pos c138] at H
                          have c138b0 : decide (0 < (t163.length : Int)) = true := decide_eq_true c138
                          have c138b1 : decide (0 < t163.length) = true := decide_eq_true (by omega)
                          clear c138
                          have H' := Aside0.mk H
                          clear H
                          try go_wp2
                          have n0_ := Aside0.mk (Kd.R_drew HO148.out)
                          have n1_ := Aside0.mk (Kd.R_drew HO152.out)
                          have n2_ := Aside0.mk (Kd.S_drew HO156.out)
                          have n3_ := Aside0.mk (Kd.S_drew HO160.out)
                          have n4_ := Aside0.mk (Kd.R_drew HO166.out)
                          have n5_ := Aside0.mk (below_drew1 HB.out)
                          clear HO148
                          clear HO152
                          clear HO156
                          clear HO160
                          clear HO166
                          clear HB
                          have HO148 := n0_
                          have HO152 := n1_
                          have HO156 := n2_
                          have HO160 := n3_
                          have HO166 := n4_
                          have HB := n5_
                          clear n0_ n1_ n2_ n3_ n4_ n5_
                          obtain ⟨Ao140, co140, eo140⟩ := Kd.R_slice HO166.out
                          (first | subst eo140 | (injection eo140 with f1_ f2_ f3_; have f4_ := f1_.symm; have f5_ := f3_.symm; clear f1_ f2_ f3_; subst f4_; subst f5_))
                          have p168 : 0 ≤ ((ji135) : Int) := of_decide_eq_true (by first | (with_reducible assumption) | assumption)
                          have q168 : (ji135) < (t163.length : Int) := of_decide_eq_true (by first | (with_reducible assumption) | assumption)
                          obtain ⟨ad168, e168, hx168_0⟩ := Kd.at_int (Kd.R_reads' HO166.out).2.2 (ji135) p168 q168
                          cases e168
                          replace p168 := eq_true p168
                          replace q168 := eq_true q168
                          have p169 : 0 ≤ (0 : Int) := (by omega)
                          have q169 : 0 < (t163.length : Int) := of_decide_eq_true (by first | (with_reducible assumption) | assumption)
                          obtain ⟨ad169, e169, hx169_0⟩ := Kd.at_int (Kd.R_reads' HO166.out).2.2 0 p169 q169
                          obtain rfl : ad168 = ad169 := (by injection e169)
                          have qi169 : (0 < t163.length) = True := eq_true (by omega)
                          (try rw [show ((0 : Int)).toNat = 0 from rfl] at hx169_0)
                          (try rw [Addr.add_zero'] at hx169_0)
                          replace p169 := eq_true p169
                          replace q169 := eq_true q169
                          refine start_ (n := 30) (S := fun w' => w'.cell? (ad168.add ((ji135)).toNat) = some (.int .i64 (rd t163 (ji135))) ∧ w'.cell? ad168 = some (.int .i64 (rd t163 0))) (ds := []) #[false, false, false, false, false, false, false, false, false, false, false, false, false, false, false, false, false, false, false, false, false, false, false, false, false, false, false, false, false, false] (by kernel_rfl) rfl rfl ⟨hx168_0, hx169_0⟩ (fun hHeld => ?_); refine with_tabW laws_FnGapsToldOfAll.tab52 laws_FnGapsToldOfAll.bits52 (fun HT_ HW_ => ?_)
                          generalize w130.drew = w139 at HO148 HO152 HO156 HO160 HO166 HB hx168_0 hx169_0 hHeld ⊢
                          refine pure_ (i := 0) (N := some 442) (v := ?_) (a' := ?_) #[true, false, false, false, false, false, false, false, false, false, false, false, false, false, false, false, false, false, false, false, false, false, false, false, false, false, false, false, false, false] rfl rfl (any_of HT_.out (by kernel_rfl)) (fun _ _ _ h => h) (Or.inl ⟨by rfl, ?_⟩) ?_ ?_
                          rotate_left
                          ·intro w'
                           go_simp
                           with_reducible rfl
                          rotate_left
                          ·simp only [Act.put, List.setIfInBounds_toArray, List.set_cons_zero, List.set_cons_succ, i64_w, i32_w]
                           rfl
                          refine pure_ (i := 1) (N := some 443) (v := ?_) (a' := ?_) #[true, true, false, false, false, false, false, false, false, false, false, false, false, false, false, false, false, false, false, false, false, false, false, false, false, false, false, false, false, false] rfl rfl (any_of HT_.out (by kernel_rfl)) (fun _ _ _ h => h) (Or.inl ⟨by rfl, ?_⟩) ?_ ?_
                          rotate_left
                          ·intro w'
                           go_simp
                           with_reducible rfl
                          rotate_left
                          ·simp only [Act.put, List.setIfInBounds_toArray, List.set_cons_zero, List.set_cons_succ, i64_w, i32_w]
                           rfl
                          refine pure_ (i := 2) (N := some 444) (v := ?_) (a' := ?_) #[true, true, true, false, false, false, false, false, false, false, false, false, false, false, false, false, false, false, false, false, false, false, false, false, false, false, false, false, false, false] rfl rfl (any_of HT_.out (by kernel_rfl)) (fun _ _ _ h => h) (Or.inl ⟨by rfl, ?_⟩) ?_ ?_
                          rotate_left
                          ·intro w'
                           go_simp
                           with_reducible rfl
                          rotate_left
                          ·simp only [Act.put, List.setIfInBounds_toArray, List.set_cons_zero, List.set_cons_succ, i64_w, i32_w]
                           rfl
                          refine pure_ (i := 3) (N := some 445) (v := ?_) (a' := ?_) #[true, true, true, true, false, false, false, false, false, false, false, false, false, false, false, false, false, false, false, false, false, false, false, false, false, false, false, false, false, false] rfl rfl (any_of HT_.out (by kernel_rfl)) (fun _ _ _ h => h) (Or.inl ⟨by rfl, ?_⟩) ?_ ?_
                          rotate_left
                          ·intro w'
                           go_simp
                           with_reducible rfl
                          rotate_left
                          ·simp only [Act.put, List.setIfInBounds_toArray, List.set_cons_zero, List.set_cons_succ, i64_w, i32_w]
                           rfl
                          refine pure_ (i := 4) (N := some 446) (v := ?_) (a' := ?_) #[true, true, true, true, true, false, false, false, false, false, false, false, false, false, false, false, false, false, false, false, false, false, false, false, false, false, false, false, false, false] rfl rfl (any_of HT_.out (by kernel_rfl)) (fun _ _ _ h => h) (Or.inl ⟨by rfl, ?_⟩) ?_ ?_
                          rotate_left
                          ·intro w'
                           go_simp
                           with_reducible rfl
                          rotate_left
                          ·simp only [Act.put, List.setIfInBounds_toArray, List.set_cons_zero, List.set_cons_succ, i64_w, i32_w]
                           rfl
                          refine pure_ (i := 5) (N := some 447) (v := ?_) (a' := ?_) #[true, true, true, true, true, true, false, false, false, false, false, false, false, false, false, false, false, false, false, false, false, false, false, false, false, false, false, false, false, false] rfl rfl (any_of HT_.out (by kernel_rfl)) (fun _ _ _ h => h) (Or.inl ⟨by rfl, ?_⟩) ?_ ?_
                          rotate_left
                          ·intro w'
                           go_simp
                           with_reducible rfl
                          rotate_left
                          ·simp only [Act.put, List.setIfInBounds_toArray, List.set_cons_zero, List.set_cons_succ, i64_w, i32_w]
                           rfl
                          refine pure_ (i := 6) (N := some 448) (v := ?_) (a' := ?_) #[true, true, true, true, true, true, true, false, false, false, false, false, false, false, false, false, false, false, false, false, false, false, false, false, false, false, false, false, false, false] rfl rfl (any_of HT_.out (by kernel_rfl)) (fun _ _ _ h => h) (Or.inl ⟨by rfl, ?_⟩) ?_ ?_
                          rotate_left
                          ·intro w'
                           go_simp
                           with_reducible rfl
                          rotate_left
                          ·simp only [Act.put, List.setIfInBounds_toArray, List.set_cons_zero, List.set_cons_succ, i64_w, i32_w]
                           rfl
                          refine pure_ (i := 7) (N := some 449) (v := ?_) (a' := ?_) #[true, true, true, true, true, true, true, true, false, false, false, false, false, false, false, false, false, false, false, false, false, false, false, false, false, false, false, false, false, false] rfl rfl (any_of HT_.out (by kernel_rfl)) (fun _ _ _ h => h) (Or.inl ⟨by rfl, ?_⟩) ?_ ?_
                          rotate_left
                          ·intro w'
                           go_simp
                           with_reducible rfl
                          rotate_left
                          ·simp only [Act.put, List.setIfInBounds_toArray, List.set_cons_zero, List.set_cons_succ, i64_w, i32_w]
                           rfl
                          refine pure_ (i := 8) (N := some 450) (v := ?_) (a' := ?_) #[true, true, true, true, true, true, true, true, true, false, false, false, false, false, false, false, false, false, false, false, false, false, false, false, false, false, false, false, false, false] rfl rfl (any_of HT_.out (by kernel_rfl)) (fun _ _ _ h => h) (Or.inl ⟨by rfl, ?_⟩) ?_ ?_
                          rotate_left
                          ·intro w'
                           go_simp
                           with_reducible rfl
                          rotate_left
                          ·simp only [Act.put, List.setIfInBounds_toArray, List.set_cons_zero, List.set_cons_succ, i64_w, i32_w]
                           rfl
                          refine pure_ (i := 9) (N := some 451) (v := ?_) (a' := ?_) #[true, true, true, true, true, true, true, true, true, true, false, false, false, false, false, false, false, false, false, false, false, false, false, false, false, false, false, false, false, false] rfl rfl (any_of HT_.out (by kernel_rfl)) (fun _ _ _ h => h) (Or.inl ⟨by rfl, ?_⟩) ?_ ?_
                          rotate_left
                          ·intro w'
                           go_simp
                           with_reducible rfl
                          rotate_left
                          ·simp only [Act.put, List.setIfInBounds_toArray, List.set_cons_zero, List.set_cons_succ, i64_w, i32_w]
                           rfl
                          refine pure_ (i := 10) (N := some 452) (v := ?_) (a' := ?_) #[true, true, true, true, true, true, true, true, true, true, true, false, false, false, false, false, false, false, false, false, false, false, false, false, false, false, false, false, false, false] rfl rfl (any_of HT_.out (by kernel_rfl)) (fun _ _ _ h => h) (Or.inl ⟨by rfl, ?_⟩) ?_ ?_
                          rotate_left
                          ·intro w'
                           go_simp
                           with_reducible rfl
                          rotate_left
                          ·simp only [Act.put, List.setIfInBounds_toArray, List.set_cons_zero, List.set_cons_succ, i64_w, i32_w]
                           rfl
                          refine pure_ (i := 11) (N := some 453) (v := ?_) (a' := ?_) #[true, true, true, true, true, true, true, true, true, true, true, true, false, false, false, false, false, false, false, false, false, false, false, false, false, false, false, false, false, false] rfl rfl (any_of HT_.out (by kernel_rfl)) (fun _ _ _ h => h) (Or.inl ⟨by rfl, ?_⟩) ?_ ?_
                          rotate_left
                          ·intro w'
                           go_simp
                           with_reducible rfl
                          rotate_left
                          ·simp only [Act.put, List.setIfInBounds_toArray, List.set_cons_zero, List.set_cons_succ, i64_w, i32_w]
                           rfl
                          refine pure_ (i := 12) (N := some 454) (v := ?_) (a' := ?_) #[true, true, true, true, true, true, true, true, true, true, true, true, true, false, false, false, false, false, false, false, false, false, false, false, false, false, false, false, false, false] rfl rfl (any_of HT_.out (by kernel_rfl)) (fun _ _ _ h => h) (Or.inl ⟨by rfl, ?_⟩) ?_ ?_
                          rotate_left
                          ·intro w'
                           go_simp
                           with_reducible rfl
                          rotate_left
                          ·simp only [Act.put, List.setIfInBounds_toArray, List.set_cons_zero, List.set_cons_succ, i64_w, i32_w]
                           rfl
                          refine pure_ (i := 13) (N := some 455) (v := ?_) (a' := ?_) #[true, true, true, true, true, true, true, true, true, true, true, true, true, true, false, false, false, false, false, false, false, false, false, false, false, false, false, false, false, false] rfl rfl (any_of HT_.out (by kernel_rfl)) (fun _ _ _ h => h) (Or.inl ⟨by rfl, ?_⟩) ?_ ?_
                          rotate_left
                          ·intro w'
                           go_simp
                           with_reducible rfl
                          rotate_left
                          ·simp only [Act.put, List.setIfInBounds_toArray, List.set_cons_zero, List.set_cons_succ, i64_w, i32_w]
                           rfl
                          refine pure_ (i := 14) (N := some 456) (v := ?_) (a' := ?_) #[true, true, true, true, true, true, true, true, true, true, true, true, true, true, true, false, false, false, false, false, false, false, false, false, false, false, false, false, false, false] rfl rfl (any_of HT_.out (by kernel_rfl)) (fun _ _ _ h => h) (Or.inl ⟨by rfl, ?_⟩) ?_ ?_
                          rotate_left
                          ·intro w'
                           go_simp
                           with_reducible rfl
                          rotate_left
                          ·simp only [Act.put, List.setIfInBounds_toArray, List.set_cons_zero, List.set_cons_succ, i64_w, i32_w]
                           rfl
                          refine pure_ (i := 16) (N := some 458) (v := ?_) (a' := ?_) #[true, true, true, true, true, true, true, true, true, true, true, true, true, true, true, false, true, false, false, false, false, false, false, false, false, false, false, false, false, false] rfl rfl (any_of HT_.out (by kernel_rfl)) (fun _ _ _ h => h) (Or.inl ⟨by rfl, ?_⟩) ?_ ?_
                          rotate_left
                          ·intro w'
                           go_simp
                           with_reducible rfl
                          rotate_left
                          ·simp only [Act.put, List.setIfInBounds_toArray, List.set_cons_zero, List.set_cons_succ, i64_w, i32_w]
                           rfl
                          refine pure_ (i := 17) (N := some 459) (v := ?_) (a' := ?_) #[true, true, true, true, true, true, true, true, true, true, true, true, true, true, true, false, true, true, false, false, false, false, false, false, false, false, false, false, false, false] rfl rfl (any_of HT_.out (by kernel_rfl)) (fun _ _ _ h => h) (Or.inl ⟨by rfl, ?_⟩) ?_ ?_
                          rotate_left
                          ·intro w'
                           go_simp
                           with_reducible rfl
                          rotate_left
                          ·simp only [Act.put, List.setIfInBounds_toArray, List.set_cons_zero, List.set_cons_succ, i64_w, i32_w]
                           rfl
                          refine pure_ (i := 18) (N := some 460) (v := ?_) (a' := ?_) #[true, true, true, true, true, true, true, true, true, true, true, true, true, true, true, false, true, true, true, false, false, false, false, false, false, false, false, false, false, false] rfl rfl (any_of HT_.out (by kernel_rfl)) (fun _ _ _ h => h) (Or.inl ⟨by rfl, ?_⟩) ?_ ?_
                          rotate_left
                          ·intro w'
                           go_simp
                           with_reducible rfl
                          rotate_left
                          ·simp only [Act.put, List.setIfInBounds_toArray, List.set_cons_zero, List.set_cons_succ, i64_w, i32_w]
                           rfl
                          refine pure_ (i := 19) (N := some 461) (v := ?_) (a' := ?_) #[true, true, true, true, true, true, true, true, true, true, true, true, true, true, true, false, true, true, true, true, false, false, false, false, false, false, false, false, false, false] rfl rfl (any_of HT_.out (by kernel_rfl)) (fun _ _ _ h => h) (Or.inl ⟨by rfl, ?_⟩) ?_ ?_
                          rotate_left
                          ·intro w'
                           go_simp
                           with_reducible rfl
                          rotate_left
                          ·simp only [Act.put, List.setIfInBounds_toArray, List.set_cons_zero, List.set_cons_succ, i64_w, i32_w]
                           rfl
                          refine pure_ (i := 20) (N := some 462) (v := ?_) (a' := ?_) #[true, true, true, true, true, true, true, true, true, true, true, true, true, true, true, false, true, true, true, true, true, false, false, false, false, false, false, false, false, false] rfl rfl (any_of HT_.out (by kernel_rfl)) (fun _ _ _ h => h) (Or.inl ⟨by rfl, ?_⟩) ?_ ?_
                          rotate_left
                          ·intro w'
                           go_simp
                           with_reducible rfl
                          rotate_left
                          ·simp only [Act.put, List.setIfInBounds_toArray, List.set_cons_zero, List.set_cons_succ, i64_w, i32_w]
                           rfl
                          refine pure_ (i := 22) (N := some 464) (v := ?_) (a' := ?_) #[true, true, true, true, true, true, true, true, true, true, true, true, true, true, true, false, true, true, true, true, true, false, true, false, false, false, false, false, false, false] rfl rfl (any_of HT_.out (by kernel_rfl)) (fun _ _ _ h => h) (Or.inl ⟨by rfl, ?_⟩) ?_ ?_
                          rotate_left
                          ·intro w'
                           go_simp
                           with_reducible rfl
                          rotate_left
                          ·simp only [Act.put, List.setIfInBounds_toArray, List.set_cons_zero, List.set_cons_succ, i64_w, i32_w]
                           rfl
                          refine pure_ (i := 23) (N := some 465) (v := ?_) (a' := ?_) #[true, true, true, true, true, true, true, true, true, true, true, true, true, true, true, false, true, true, true, true, true, false, true, true, false, false, false, false, false, false] rfl rfl (any_of HT_.out (by kernel_rfl)) (fun _ _ _ h => h) (Or.inl ⟨by rfl, ?_⟩) ?_ ?_
                          rotate_left
                          ·intro w'
                           go_simp
                           with_reducible rfl
                          rotate_left
                          ·simp only [Act.put, List.setIfInBounds_toArray, List.set_cons_zero, List.set_cons_succ, i64_w, i32_w]
                           rfl
                          refine take_ (i := 21) (N := some 463) (v := ?_) (a' := ?_) #[true, true, true, true, true, true, true, true, true, true, true, true, true, true, true, false, true, true, true, true, true, true, true, true, false, false, false, false, false, false] rfl rfl (take_ofW HT_.out HW_.out (by kernel_rfl)) (fun _ _ _ h => h) (Or.inl ⟨by rfl, ?_⟩) hHeld ?_ ?_
                          rotate_left
                          ·rintro w' ⟨s0, s1⟩
                           go_simp
                           with_reducible rfl
                          rotate_left
                          ·simp only [Act.put, List.setIfInBounds_toArray, List.set_cons_zero, List.set_cons_succ, i64_w, i32_w]
                           rfl
                          refine take_ (i := 24) (N := some 466) (v := ?_) (a' := ?_) #[true, true, true, true, true, true, true, true, true, true, true, true, true, true, true, false, true, true, true, true, true, true, true, true, true, false, false, false, false, false] rfl rfl (take_ofW HT_.out HW_.out (by kernel_rfl)) (fun _ _ _ h => h) (Or.inl ⟨by rfl, ?_⟩) hHeld ?_ ?_
                          rotate_left
                          ·rintro w' ⟨s0, s1⟩
                           go_simp
                           with_reducible rfl
                          rotate_left
                          ·simp only [Act.put, List.setIfInBounds_toArray, List.set_cons_zero, List.set_cons_succ, i64_w, i32_w]
                           rfl
                          refine pure_ (i := 25) (N := some 467) (v := ?_) (a' := ?_) #[true, true, true, true, true, true, true, true, true, true, true, true, true, true, true, false, true, true, true, true, true, true, true, true, true, true, false, false, false, false] rfl rfl (any_of HT_.out (by kernel_rfl)) (fun _ _ _ h => h) (Or.inl ⟨by rfl, ?_⟩) ?_ ?_
                          rotate_left
                          ·intro w'
                           go_simp
                           with_reducible rfl
                          rotate_left
                          ·simp only [Act.put, List.setIfInBounds_toArray, List.set_cons_zero, List.set_cons_succ, i64_w, i32_w]
                           rfl
                          refine one_ (i := 15) (N := some 457) #[true, true, true, true, true, true, true, true, true, true, true, true, true, true, true, true, true, true, true, true, true, true, true, true, true, true, false, false, false, false] rfl rfl (one_of HT_.out (by kernel_rfl)) (by decide) (fun K hK => ?_)
                          refine goes_ Try.func37 (by kernel_rfl) rfl #[.slice Ao123 t145.length co123] (by rfl) rfl rfl (by (try simp only [List.map_toArray, List.map_cons, List.map_nil]); first | done | rfl | (simp only [List.length_drop, List.length_take]; rfl)) ?_
                          with_reducible refine (laws_tSum.calls kj50 _ _ t145 t167 _ ?side1 ?side2 A134.out).mono ?_
                          (case side1 => repeat (first | exact (Kd.R_reads' HO148.out).2.2 | (with_reducible refine Kd.C_alloc ?_ _) | (with_reducible refine Kd.C_drewN ?_ _) | (with_reducible refine Kd.C_drew ?_)))
                          (case side2 => exact (Kd.R_reads' HO148.out).2.1)
                          rintro e w' ⟨rfl, ⟨nd, rfl⟩⟩
                          refine ⟨_, rfl, ?_⟩
                          refine hK.out _ _ ⟨hHeld.1, hHeld.2⟩ (fun hHeld => ?_)
                          clear hK K
                          refine norm_ (a' := ?_) ?_ ?_
                          rotate_left
                          ·show Act.put _ (some 457) _ = _
                           simp only [Act.put, List.setIfInBounds_toArray, List.set_cons_zero, List.set_cons_succ, i64_w, i32_w]
                           rfl
                          refine pure_ (i := 26) (N := some 468) (v := ?_) (a' := ?_) #[true, true, true, true, true, true, true, true, true, true, true, true, true, true, true, true, true, true, true, true, true, true, true, true, true, true, true, false, false, false] rfl rfl (any_of HT_.out (by kernel_rfl)) (fun _ _ _ h => h) (Or.inl ⟨by rfl, ?_⟩) ?_ ?_
                          rotate_left
                          ·intro w'
                           go_simp
                           with_reducible rfl
                          rotate_left
                          ·simp only [Act.put, List.setIfInBounds_toArray, List.set_cons_zero, List.set_cons_succ, i64_w, i32_w]
                           rfl
                          refine pure_ (i := 27) (N := some 469) (v := ?_) (a' := ?_) #[true, true, true, true, true, true, true, true, true, true, true, true, true, true, true, true, true, true, true, true, true, true, true, true, true, true, true, true, false, false] rfl rfl (any_of HT_.out (by kernel_rfl)) (fun _ _ _ h => h) (Or.inl ⟨by rfl, ?_⟩) ?_ ?_
                          rotate_left
                          ·intro w'
                           go_simp
                           with_reducible rfl
                          rotate_left
                          ·simp only [Act.put, List.setIfInBounds_toArray, List.set_cons_zero, List.set_cons_succ, i64_w, i32_w]
                           rfl
                          refine pure_ (i := 28) (N := some 470) (v := ?_) (a' := ?_) #[true, true, true, true, true, true, true, true, true, true, true, true, true, true, true, true, true, true, true, true, true, true, true, true, true, true, true, true, true, false] rfl rfl (any_of HT_.out (by kernel_rfl)) (fun _ _ _ h => h) (Or.inl ⟨by rfl, ?_⟩) ?_ ?_
                          rotate_left
                          ·intro w'
                           go_simp
                           with_reducible rfl
                          rotate_left
                          ·simp only [Act.put, List.setIfInBounds_toArray, List.set_cons_zero, List.set_cons_succ, i64_w, i32_w]
                           rfl
                          refine pure_ (i := 29) (N := some 471) (v := ?_) (a' := ?_) #[true, true, true, true, true, true, true, true, true, true, true, true, true, true, true, true, true, true, true, true, true, true, true, true, true, true, true, true, true, true] rfl rfl (any_of HT_.out (by kernel_rfl)) (fun _ _ _ h => h) (Or.inl ⟨by rfl, ?_⟩) ?_ ?_
                          rotate_left
                          ·intro w'
                           go_simp
                           with_reducible rfl
                          rotate_left
                          ·simp only [Act.put, List.setIfInBounds_toArray, List.set_cons_zero, List.set_cons_succ, i64_w, i32_w]
                           rfl
                          refine done_ (done_of HT_.out (by kernel_rfl)) ?_
                          try go_wp2
                          go_meet
                          case rel => exact ⟨_, ((t167 != (wrap64 ((rd t163 (ji135)) - (rd t163 0))))), (by first | rfl | (simp; done) | (simp only [← hji135] <;> (first | rfl | simp)) | (simp [*]; done)), H', ⟨by have := HJ9.out; have := HJ23.out; have := HJ50.out; first | omega | exact Nat.le_refl _⟩, ⟨by (with_reducible repeat (first | apply Kd.R_alloc | apply Kd.R_drewN | apply Kd.R_drew)); exact Kd.R_mono HO148.out (fun _ hk => hk.2)⟩, ⟨by (with_reducible repeat (first | apply Kd.S_alloc | apply Kd.S_drewN | apply Kd.S_drew)); exact Kd.S_mono HO156.out (fun _ hk => ⟨hk.1.1.1.2, hk.2⟩)⟩, ⟨by (with_reducible repeat (first | apply Kd.R_alloc | apply Kd.R_drewN | apply Kd.R_drew)); exact Kd.R_mono HO166.out (fun _ hk => hk.1.2)⟩, ⟨by apply_rules only [HB.out, below_alloc, pw_below_drewN, below_drew1]⟩⟩
                         ·rw [if_neg c138] at H
                          exact absurd H (by simp)
                        ·rw [if_neg c137] at H
                         exact absurd H (by simp)
                       ·rw [if_neg c136] at H
                        exact absurd H (by simp)
                      ·rw [if_neg c133] at H
                       have c133b0 : ((t145.length : Int) == (wrap64 ((t163.length : Int) - 1))) = false := beq_eq_false_iff_ne.mpr c133
                       have c133b1 : ((t145.length : Int) != (wrap64 ((t163.length : Int) - 1))) = true := bne_iff_ne.mpr c133
                       exact absurd H (by simp)
                     ·rw [if_neg c132] at H
                      have c132b0 : decide (0 < (t163.length : Int)) = false := decide_eq_false c132
                      have c132b1 : decide (0 < t163.length) = false := decide_eq_false (by omega)
                      clear c132
                      (first | rw [c132b0] | rw [c132b1] | (simp only [i64_w, i32_w]; rw [c132b0]) | skip)
                      have H' := Aside0.mk H
                      clear H
                      try go_wp2
                      have n0_ := Aside0.mk (Kd.R_drew HO148.out)
                      have n1_ := Aside0.mk (Kd.R_drew HO152.out)
                      have n2_ := Aside0.mk (Kd.S_drew HO156.out)
                      have n3_ := Aside0.mk (Kd.S_drew HO160.out)
                      have n4_ := Aside0.mk (Kd.R_drew HO166.out)
                      have n5_ := Aside0.mk (below_drew1 HB.out)
                      clear HO148
                      clear HO152
                      clear HO156
                      clear HO160
                      clear HO166
                      clear HB
                      have HO148 := n0_
                      have HO152 := n1_
                      have HO156 := n2_
                      have HO160 := n3_
                      have HO166 := n4_
                      have HB := n5_
                      clear n0_ n1_ n2_ n3_ n4_ n5_
                      obtain ⟨Ao142, co142, eo142⟩ := Kd.R_slice HO166.out
                      (first | subst eo142 | (injection eo142 with f1_ f2_ f3_; have f4_ := f1_.symm; have f5_ := f3_.symm; clear f1_ f2_ f3_; subst f4_; subst f5_))
                      refine start_ (n := 30) (S := fun w' => True) (ds := []) #[false, false, false, false, false, false, false, false, false, false, false, false, false, false, false, false, false, false, false, false, false, false, false, false, false, false, false, false, false, false] (by kernel_rfl) rfl rfl trivial (fun hHeld => ?_); refine with_tabW laws_FnGapsToldOfAll.tab52 laws_FnGapsToldOfAll.bits52 (fun HT_ HW_ => ?_)
                      generalize w130.drew = w141 at HO148 HO152 HO156 HO160 HO166 HB hHeld ⊢
                      refine pure_ (i := 0) (N := some 442) (v := ?_) (a' := ?_) #[true, false, false, false, false, false, false, false, false, false, false, false, false, false, false, false, false, false, false, false, false, false, false, false, false, false, false, false, false, false] rfl rfl (any_of HT_.out (by kernel_rfl)) (fun _ _ _ h => h) (Or.inl ⟨by rfl, ?_⟩) ?_ ?_
                      rotate_left
                      ·intro w'
                       go_simp
                       with_reducible rfl
                      rotate_left
                      ·simp only [Act.put, List.setIfInBounds_toArray, List.set_cons_zero, List.set_cons_succ, i64_w, i32_w]
                       rfl
                      refine pure_ (i := 1) (N := some 443) (v := ?_) (a' := ?_) #[true, true, false, false, false, false, false, false, false, false, false, false, false, false, false, false, false, false, false, false, false, false, false, false, false, false, false, false, false, false] rfl rfl (any_of HT_.out (by kernel_rfl)) (fun _ _ _ h => h) (Or.inl ⟨by rfl, ?_⟩) ?_ ?_
                      rotate_left
                      ·intro w'
                       go_simp
                       with_reducible rfl
                      rotate_left
                      ·simp only [Act.put, List.setIfInBounds_toArray, List.set_cons_zero, List.set_cons_succ, i64_w, i32_w]
                       rfl
                      refine pure_ (i := 2) (N := some 444) (v := ?_) (a' := ?_) #[true, true, true, false, false, false, false, false, false, false, false, false, false, false, false, false, false, false, false, false, false, false, false, false, false, false, false, false, false, false] rfl rfl (any_of HT_.out (by kernel_rfl)) (fun _ _ _ h => h) (Or.inl ⟨by rfl, ?_⟩) ?_ ?_
                      rotate_left
                      ·intro w'
                       go_simp
                       with_reducible rfl
                      rotate_left
                      ·simp only [Act.put, List.setIfInBounds_toArray, List.set_cons_zero, List.set_cons_succ, i64_w, i32_w]
                       rfl
                      refine pure_ (i := 3) (N := some 445) (v := ?_) (a' := ?_) #[true, true, true, true, false, false, false, false, false, false, false, false, false, false, false, false, false, false, false, false, false, false, false, false, false, false, false, false, false, false] rfl rfl (any_of HT_.out (by kernel_rfl)) (fun _ _ _ h => h) (Or.inl ⟨by rfl, ?_⟩) ?_ ?_
                      rotate_left
                      ·intro w'
                       go_simp
                       with_reducible rfl
                      rotate_left
                      ·simp only [Act.put, List.setIfInBounds_toArray, List.set_cons_zero, List.set_cons_succ, i64_w, i32_w]
                       rfl
                      refine pure_ (i := 4) (N := some 446) (v := ?_) (a' := ?_) #[true, true, true, true, true, false, false, false, false, false, false, false, false, false, false, false, false, false, false, false, false, false, false, false, false, false, false, false, false, false] rfl rfl (any_of HT_.out (by kernel_rfl)) (fun _ _ _ h => h) (Or.inl ⟨by rfl, ?_⟩) ?_ ?_
                      rotate_left
                      ·intro w'
                       go_simp
                       with_reducible rfl
                      rotate_left
                      ·simp only [Act.put, List.setIfInBounds_toArray, List.set_cons_zero, List.set_cons_succ, i64_w, i32_w]
                       rfl
                      refine pure_ (i := 5) (N := some 447) (v := ?_) (a' := ?_) #[true, true, true, true, true, true, false, false, false, false, false, false, false, false, false, false, false, false, false, false, false, false, false, false, false, false, false, false, false, false] rfl rfl (any_of HT_.out (by kernel_rfl)) (fun _ _ _ h => h) (Or.inl ⟨by rfl, ?_⟩) ?_ ?_
                      rotate_left
                      ·intro w'
                       go_simp
                       with_reducible rfl
                      rotate_left
                      ·simp only [Act.put, List.setIfInBounds_toArray, List.set_cons_zero, List.set_cons_succ, i64_w, i32_w]
                       rfl
                      refine pure_ (i := 6) (N := some 448) (v := ?_) (a' := ?_) #[true, true, true, true, true, true, true, false, false, false, false, false, false, false, false, false, false, false, false, false, false, false, false, false, false, false, false, false, false, false] rfl rfl (any_of HT_.out (by kernel_rfl)) (fun _ _ _ h => h) (Or.inl ⟨by rfl, ?_⟩) ?_ ?_
                      rotate_left
                      ·intro w'
                       go_simp
                       with_reducible rfl
                      rotate_left
                      ·simp only [Act.put, List.setIfInBounds_toArray, List.set_cons_zero, List.set_cons_succ, i64_w, i32_w]
                       rfl
                      refine pure_ (i := 7) (N := some 449) (v := undef) (a' := ?_) #[true, true, true, true, true, true, true, true, false, false, false, false, false, false, false, false, false, false, false, false, false, false, false, false, false, false, false, false, false, false] rfl rfl (any_of HT_.out (by kernel_rfl)) (fun _ _ _ h => h) (Or.inr ⟨by rfl, rfl⟩) ?_ ?_
                      rotate_left
                      ·simp only [Act.put, List.setIfInBounds_toArray, List.set_cons_zero, List.set_cons_succ, i64_w, i32_w]
                       rfl
                      refine pure_ (i := 8) (N := some 450) (v := undef) (a' := ?_) #[true, true, true, true, true, true, true, true, true, false, false, false, false, false, false, false, false, false, false, false, false, false, false, false, false, false, false, false, false, false] rfl rfl (any_of HT_.out (by kernel_rfl)) (fun _ _ _ h => h) (Or.inr ⟨by rfl, rfl⟩) ?_ ?_
                      rotate_left
                      ·simp only [Act.put, List.setIfInBounds_toArray, List.set_cons_zero, List.set_cons_succ, i64_w, i32_w]
                       rfl
                      refine pure_ (i := 9) (N := some 451) (v := undef) (a' := ?_) #[true, true, true, true, true, true, true, true, true, true, false, false, false, false, false, false, false, false, false, false, false, false, false, false, false, false, false, false, false, false] rfl rfl (any_of HT_.out (by kernel_rfl)) (fun _ _ _ h => h) (Or.inr ⟨by rfl, rfl⟩) ?_ ?_
                      rotate_left
                      ·simp only [Act.put, List.setIfInBounds_toArray, List.set_cons_zero, List.set_cons_succ, i64_w, i32_w]
                       rfl
                      refine pure_ (i := 10) (N := some 452) (v := undef) (a' := ?_) #[true, true, true, true, true, true, true, true, true, true, true, false, false, false, false, false, false, false, false, false, false, false, false, false, false, false, false, false, false, false] rfl rfl (any_of HT_.out (by kernel_rfl)) (fun _ _ _ h => h) (Or.inr ⟨by rfl, rfl⟩) ?_ ?_
                      rotate_left
                      ·simp only [Act.put, List.setIfInBounds_toArray, List.set_cons_zero, List.set_cons_succ, i64_w, i32_w]
                       rfl
                      refine pure_ (i := 11) (N := some 453) (v := undef) (a' := ?_) #[true, true, true, true, true, true, true, true, true, true, true, true, false, false, false, false, false, false, false, false, false, false, false, false, false, false, false, false, false, false] rfl rfl (any_of HT_.out (by kernel_rfl)) (fun _ _ _ h => h) (Or.inr ⟨by rfl, rfl⟩) ?_ ?_
                      rotate_left
                      ·simp only [Act.put, List.setIfInBounds_toArray, List.set_cons_zero, List.set_cons_succ, i64_w, i32_w]
                       rfl
                      refine pure_ (i := 12) (N := some 454) (v := undef) (a' := ?_) #[true, true, true, true, true, true, true, true, true, true, true, true, true, false, false, false, false, false, false, false, false, false, false, false, false, false, false, false, false, false] rfl rfl (any_of HT_.out (by kernel_rfl)) (fun _ _ _ h => h) (Or.inr ⟨by rfl, rfl⟩) ?_ ?_
                      rotate_left
                      ·simp only [Act.put, List.setIfInBounds_toArray, List.set_cons_zero, List.set_cons_succ, i64_w, i32_w]
                       rfl
                      refine pure_ (i := 13) (N := some 455) (v := undef) (a' := ?_) #[true, true, true, true, true, true, true, true, true, true, true, true, true, true, false, false, false, false, false, false, false, false, false, false, false, false, false, false, false, false] rfl rfl (any_of HT_.out (by kernel_rfl)) (fun _ _ _ h => h) (Or.inr ⟨by rfl, rfl⟩) ?_ ?_
                      rotate_left
                      ·simp only [Act.put, List.setIfInBounds_toArray, List.set_cons_zero, List.set_cons_succ, i64_w, i32_w]
                       rfl
                      refine pure_ (i := 14) (N := some 456) (v := undef) (a' := ?_) #[true, true, true, true, true, true, true, true, true, true, true, true, true, true, true, false, false, false, false, false, false, false, false, false, false, false, false, false, false, false] rfl rfl (any_of HT_.out (by kernel_rfl)) (fun _ _ _ h => h) (Or.inr ⟨by rfl, rfl⟩) ?_ ?_
                      rotate_left
                      ·simp only [Act.put, List.setIfInBounds_toArray, List.set_cons_zero, List.set_cons_succ, i64_w, i32_w]
                       rfl
                      refine pure_ (i := 15) (N := some 457) (v := undef) (a' := ?_) #[true, true, true, true, true, true, true, true, true, true, true, true, true, true, true, true, false, false, false, false, false, false, false, false, false, false, false, false, false, false] rfl rfl (any_of HT_.out (by kernel_rfl)) (fun _ _ _ h => h) (Or.inr ⟨by rfl, rfl⟩) ?_ ?_
                      rotate_left
                      ·simp only [Act.put, List.setIfInBounds_toArray, List.set_cons_zero, List.set_cons_succ, i64_w, i32_w]
                       rfl
                      refine pure_ (i := 16) (N := some 458) (v := undef) (a' := ?_) #[true, true, true, true, true, true, true, true, true, true, true, true, true, true, true, true, true, false, false, false, false, false, false, false, false, false, false, false, false, false] rfl rfl (any_of HT_.out (by kernel_rfl)) (fun _ _ _ h => h) (Or.inr ⟨by rfl, rfl⟩) ?_ ?_
                      rotate_left
                      ·simp only [Act.put, List.setIfInBounds_toArray, List.set_cons_zero, List.set_cons_succ, i64_w, i32_w]
                       rfl
                      refine pure_ (i := 17) (N := some 459) (v := undef) (a' := ?_) #[true, true, true, true, true, true, true, true, true, true, true, true, true, true, true, true, true, true, false, false, false, false, false, false, false, false, false, false, false, false] rfl rfl (any_of HT_.out (by kernel_rfl)) (fun _ _ _ h => h) (Or.inr ⟨by rfl, rfl⟩) ?_ ?_
                      rotate_left
                      ·simp only [Act.put, List.setIfInBounds_toArray, List.set_cons_zero, List.set_cons_succ, i64_w, i32_w]
                       rfl
                      refine pure_ (i := 18) (N := some 460) (v := undef) (a' := ?_) #[true, true, true, true, true, true, true, true, true, true, true, true, true, true, true, true, true, true, true, false, false, false, false, false, false, false, false, false, false, false] rfl rfl (any_of HT_.out (by kernel_rfl)) (fun _ _ _ h => h) (Or.inr ⟨by rfl, rfl⟩) ?_ ?_
                      rotate_left
                      ·simp only [Act.put, List.setIfInBounds_toArray, List.set_cons_zero, List.set_cons_succ, i64_w, i32_w]
                       rfl
                      refine pure_ (i := 19) (N := some 461) (v := undef) (a' := ?_) #[true, true, true, true, true, true, true, true, true, true, true, true, true, true, true, true, true, true, true, true, false, false, false, false, false, false, false, false, false, false] rfl rfl (any_of HT_.out (by kernel_rfl)) (fun _ _ _ h => h) (Or.inr ⟨by rfl, rfl⟩) ?_ ?_
                      rotate_left
                      ·simp only [Act.put, List.setIfInBounds_toArray, List.set_cons_zero, List.set_cons_succ, i64_w, i32_w]
                       rfl
                      refine pure_ (i := 20) (N := some 462) (v := undef) (a' := ?_) #[true, true, true, true, true, true, true, true, true, true, true, true, true, true, true, true, true, true, true, true, true, false, false, false, false, false, false, false, false, false] rfl rfl (any_of HT_.out (by kernel_rfl)) (fun _ _ _ h => h) (Or.inr ⟨by rfl, rfl⟩) ?_ ?_
                      rotate_left
                      ·simp only [Act.put, List.setIfInBounds_toArray, List.set_cons_zero, List.set_cons_succ, i64_w, i32_w]
                       rfl
                      refine pure_ (i := 21) (N := some 463) (v := undef) (a' := ?_) #[true, true, true, true, true, true, true, true, true, true, true, true, true, true, true, true, true, true, true, true, true, true, false, false, false, false, false, false, false, false] rfl rfl (any_of HT_.out (by kernel_rfl)) (fun _ _ _ h => h) (Or.inr ⟨by rfl, rfl⟩) ?_ ?_
                      rotate_left
                      ·simp only [Act.put, List.setIfInBounds_toArray, List.set_cons_zero, List.set_cons_succ, i64_w, i32_w]
                       rfl
                      refine pure_ (i := 22) (N := some 464) (v := undef) (a' := ?_) #[true, true, true, true, true, true, true, true, true, true, true, true, true, true, true, true, true, true, true, true, true, true, true, false, false, false, false, false, false, false] rfl rfl (any_of HT_.out (by kernel_rfl)) (fun _ _ _ h => h) (Or.inr ⟨by rfl, rfl⟩) ?_ ?_
                      rotate_left
                      ·simp only [Act.put, List.setIfInBounds_toArray, List.set_cons_zero, List.set_cons_succ, i64_w, i32_w]
                       rfl
                      refine pure_ (i := 23) (N := some 465) (v := undef) (a' := ?_) #[true, true, true, true, true, true, true, true, true, true, true, true, true, true, true, true, true, true, true, true, true, true, true, true, false, false, false, false, false, false] rfl rfl (any_of HT_.out (by kernel_rfl)) (fun _ _ _ h => h) (Or.inr ⟨by rfl, rfl⟩) ?_ ?_
                      rotate_left
                      ·simp only [Act.put, List.setIfInBounds_toArray, List.set_cons_zero, List.set_cons_succ, i64_w, i32_w]
                       rfl
                      refine pure_ (i := 24) (N := some 466) (v := undef) (a' := ?_) #[true, true, true, true, true, true, true, true, true, true, true, true, true, true, true, true, true, true, true, true, true, true, true, true, true, false, false, false, false, false] rfl rfl (any_of HT_.out (by kernel_rfl)) (fun _ _ _ h => h) (Or.inr ⟨by rfl, rfl⟩) ?_ ?_
                      rotate_left
                      ·simp only [Act.put, List.setIfInBounds_toArray, List.set_cons_zero, List.set_cons_succ, i64_w, i32_w]
                       rfl
                      refine pure_ (i := 25) (N := some 467) (v := undef) (a' := ?_) #[true, true, true, true, true, true, true, true, true, true, true, true, true, true, true, true, true, true, true, true, true, true, true, true, true, true, false, false, false, false] rfl rfl (any_of HT_.out (by kernel_rfl)) (fun _ _ _ h => h) (Or.inr ⟨by rfl, rfl⟩) ?_ ?_
                      rotate_left
                      ·simp only [Act.put, List.setIfInBounds_toArray, List.set_cons_zero, List.set_cons_succ, i64_w, i32_w]
                       rfl
                      refine pure_ (i := 26) (N := some 468) (v := undef) (a' := ?_) #[true, true, true, true, true, true, true, true, true, true, true, true, true, true, true, true, true, true, true, true, true, true, true, true, true, true, true, false, false, false] rfl rfl (any_of HT_.out (by kernel_rfl)) (fun _ _ _ h => h) (Or.inr ⟨by rfl, rfl⟩) ?_ ?_
                      rotate_left
                      ·simp only [Act.put, List.setIfInBounds_toArray, List.set_cons_zero, List.set_cons_succ, i64_w, i32_w]
                       rfl
                      refine pure_ (i := 27) (N := some 469) (v := undef) (a' := ?_) #[true, true, true, true, true, true, true, true, true, true, true, true, true, true, true, true, true, true, true, true, true, true, true, true, true, true, true, true, false, false] rfl rfl (any_of HT_.out (by kernel_rfl)) (fun _ _ _ h => h) (Or.inr ⟨by rfl, rfl⟩) ?_ ?_
                      rotate_left
                      ·simp only [Act.put, List.setIfInBounds_toArray, List.set_cons_zero, List.set_cons_succ, i64_w, i32_w]
                       rfl
                      refine pure_ (i := 28) (N := some 470) (v := ?_) (a' := ?_) #[true, true, true, true, true, true, true, true, true, true, true, true, true, true, true, true, true, true, true, true, true, true, true, true, true, true, true, true, true, false] rfl rfl (any_of HT_.out (by kernel_rfl)) (fun _ _ _ h => h) (Or.inl ⟨by rfl, ?_⟩) ?_ ?_
                      rotate_left
                      ·intro w'
                       go_simp
                       with_reducible rfl
                      rotate_left
                      ·simp only [Act.put, List.setIfInBounds_toArray, List.set_cons_zero, List.set_cons_succ, i64_w, i32_w]
                       rfl
                      refine pure_ (i := 29) (N := some 471) (v := ?_) (a' := ?_) #[true, true, true, true, true, true, true, true, true, true, true, true, true, true, true, true, true, true, true, true, true, true, true, true, true, true, true, true, true, true] rfl rfl (any_of HT_.out (by kernel_rfl)) (fun _ _ _ h => h) (Or.inl ⟨by rfl, ?_⟩) ?_ ?_
                      rotate_left
                      ·intro w'
                       go_simp
                       with_reducible rfl
                      rotate_left
                      ·simp only [Act.put, List.setIfInBounds_toArray, List.set_cons_zero, List.set_cons_succ, i64_w, i32_w]
                       rfl
                      refine done_ (done_of HT_.out (by kernel_rfl)) ?_
                      try go_wp2
                      go_meet
                      case rel => exact ⟨_, (false), (by first | rfl | (simp; done) | (simp [*]; done)), H', ⟨by have := HJ9.out; have := HJ23.out; have := HJ50.out; first | omega | exact Nat.le_refl _⟩, ⟨by (with_reducible repeat (first | apply Kd.R_alloc | apply Kd.R_drewN | apply Kd.R_drew)); exact Kd.R_mono HO148.out (fun _ hk => hk.2)⟩, ⟨by (with_reducible repeat (first | apply Kd.S_alloc | apply Kd.S_drewN | apply Kd.S_drew)); exact Kd.S_mono HO156.out (fun _ hk => ⟨hk.1.1.1.2, hk.2⟩)⟩, ⟨by (with_reducible repeat (first | apply Kd.R_alloc | apply Kd.R_drewN | apply Kd.R_drew)); exact Kd.R_mono HO166.out (fun _ hk => hk.1.2)⟩, ⟨by apply_rules only [HB.out, below_alloc, pw_below_drewN, below_drew1]⟩⟩
                    ·replace c131 := Bool.eq_false_iff.mpr c131
                     subst c131
                     rw [if_neg (show ¬ (false = true) by decide)] at H
                     exact absurd H (by simp)
                   case rest =>
                    as_aux_lemma =>
                     clear HC129
                     (try clear c1); (try clear c114); (try clear c114b0); (try clear c114b1); (try clear c114b2); (try clear c116); (try clear c117); (try clear c117b0); (try clear c117b1); (try clear c117b2); (try clear c127)
                     obtain ⟨kq, x471_128, rfl, HA, HJ128, HO_58, HO_62, HO_66, HB⟩ := hcut
                     cases kq with
                     | zero => exact absurd HA.out (by simp [laws_FnGapsToldOfAll.j8])
                     | succ kj128 =>
                      have H := HA.out
                      clear HA
                      simp only [laws_FnGapsToldOfAll.j8] at H
                      by_cases c143 : x471_128 = true
                      ·subst c143
                       rw [if_pos rfl] at H
                       exact absurd H (by simp)
                      ·replace c143 := Bool.eq_false_iff.mpr c143
                       subst c143
                       rw [if_neg (show ¬ (false = true) by decide)] at H
                       have H' := Aside0.mk H
                       clear H
                       go_wp2
                       go_loopg [68, 474] kj128 (fun kq v68 v474 w' => ∃ (x68_5 : Int) (x474_5 : Int), v68 = .int .i64 x68_5 ∧ v474 = .int .i64 x474_5 ∧ Aside0 (laws_FnGapsToldOfAll.l2 kq l1 l3 a4 l5 a6 l7 a8 t145 t163 x68_5 t153 (t153.length : Int) x474_5 = some true) ∧ Aside0 (kq ≤ kj128) ∧ Aside0 (Kd.R (Kd.int .i64) 3 w' w.heap.size (fun k_ => some k_ ≠ (v165 : Value).ownBlock) (.slice Ao123 t145.length co123) t145) ∧ Aside0 (Kd.R (Kd.int .i64) 3 w' w.heap.size (fun k_ => some k_ ≠ ((.slice Ao123 t145.length co123) : Value).ownBlock) v165 t163) ∧ Aside0 (Kd.S (Kd.slice 3 (Kd.int .i64)) 22 w' w.heap.size (fun k_ => some k_ ≠ ((.slice Ao123 t145.length co123) : Value).ownBlock ∧ some k_ ≠ (v165 : Value).ownBlock) (.slice Ao125 t153.length co125) t153) ∧ Aside0 (Below w.heap.size w w'))
                       case atStart => exact ⟨(0), (0), (by first | rfl | (simp; done) | (simp [*]; done)), (by first | rfl | (simp; done) | (simp [*]; done)), H', ⟨Nat.le_refl _⟩, ⟨by apply_rules only [HO_58.out, Kd.R_alloc, Kd.R_drewN, Kd.R_drew]⟩, ⟨by apply_rules only [HO_66.out, Kd.R_alloc, Kd.R_drewN, Kd.R_drew]⟩, ⟨by apply_rules only [HO_62.out, Kd.S_alloc, Kd.S_drewN, Kd.S_drew]⟩, ⟨by apply_rules only [HB.out, below_alloc, pw_below_drewN, below_drew1]⟩⟩
                       case round =>
                        clear H'
                        (try clear c1); (try clear c114); (try clear c114b0); (try clear c114b1); (try clear c114b2); (try clear c116); (try clear c117); (try clear c117b0); (try clear c117b1); (try clear c117b2); (try clear c127); (try clear c143)
                        obtain ⟨x68_5, x474_5, rfl, rfl, HA, HK5, HO_58, HO_66, HO_472, HB⟩ := hrel
                        cases gk with
                        | zero => exact absurd HA.out (by simp [laws_FnGapsToldOfAll.l2])
                        | succ k5 =>
                         have H := HA.out
                         clear HA
                         simp only [laws_FnGapsToldOfAll.l2] at H
                         by_cases c144 : x474_5 < (t153.length : Int)
                         ·rw [if_pos c144] at H
                          have c144b0 : decide (x474_5 < (t153.length : Int)) = true := decide_eq_true c144
                          clear c144
                          by_cases c145 : 0 ≤ x474_5
                          ·rw [if_pos c145] at H
                           have c145b0 : decide (0 ≤ x474_5) = true := decide_eq_true c145
                           clear c145
                           by_cases c146 : x474_5 < (t153.length : Int)
                           ·rw [if_pos c146] at H
                            have c146b0 : decide (x474_5 < (t153.length : Int)) = true := decide_eq_true c146
                            clear c146
                            by_cases c147 : 0 < ((rd_Ints t153 x474_5).length : Int)
                            ·rw [if_pos c147] at H
                             have c147b0 : decide (0 < ((rd_Ints t153 x474_5).length : Int)) = true := decide_eq_true c147
                             have c147b1 : decide (0 < (rd_Ints t153 x474_5).length) = true := decide_eq_true (by omega)
                             clear c147
                             replace H := Option.bind_eq_some_iff.mp H
                             obtain ⟨⟨t172, t173⟩, A1480, H⟩ := H
                             (try dsimp only at H)
                             have A148 := Aside0.mk A1480
                             clear A1480
                             replace H := Option.bind_eq_some_iff.mp H
                             obtain ⟨t175, A1490, H⟩ := H
                             (try dsimp only at H)
                             have A149 := Aside0.mk A1490
                             clear A1490
                             by_cases c150 : t175 = true
                             ·subst c150
                              rw [if_pos rfl] at H
                              by_cases c151 : 1 < ((rd_Ints t153 x474_5).length : Int)
                              ·rw [if_pos c151] at H
                               have c151b0 : decide (1 < ((rd_Ints t153 x474_5).length : Int)) = true := decide_eq_true c151
                               have c151b1 : decide (1 < (rd_Ints t153 x474_5).length) = true := decide_eq_true (by omega)
                               clear c151
                               by_cases c152 : (rd (rd_Ints t153 x474_5) 1) ≤ x68_5
                               ·rw [if_pos c152] at H
                                have c152b0 : decide ((rd (rd_Ints t153 x474_5) 1) ≤ x68_5) = true := decide_eq_true c152
                                clear c152
                                exact absurd H (by simp)
                               ·rw [if_neg c152] at H
                                have c152b0 : decide ((rd (rd_Ints t153 x474_5) 1) ≤ x68_5) = false := decide_eq_false c152
                                clear c152
                                replace H := Option.bind_eq_some_iff.mp H
                                obtain ⟨t178, A1530, H⟩ := H
                                (try dsimp only at H)
                                have A153 := Aside0.mk A1530
                                clear A1530
                                by_cases c154 : t178 = true
                                ·subst c154
                                 rw [if_pos rfl] at H
                                 by_cases c155 : t173 = true
                                 ·subst c155
                                  rw [if_pos rfl] at H
                                  by_cases c156 : t172 = (wrap64 ((rd (rd_Ints t153 x474_5) 0) + (rd (rd_Ints t153 x474_5) 1)))
                                  ·rw [if_pos c156] at H
                                   have c156b0 : (t172 == (wrap64 ((rd (rd_Ints t153 x474_5) 0) + (rd (rd_Ints t153 x474_5) 1)))) = true := beq_iff_eq.mpr c156
                                   have c156b1 : (t172 != (wrap64 ((rd (rd_Ints t153 x474_5) 0) + (rd (rd_Ints t153 x474_5) 1)))) = false := bne_eq_false_iff_eq.mpr c156
                                   clear c156
                                   have H' := Aside0.mk H
                                   clear H
                                   have p170 : 0 ≤ (x474_5 : Int) := of_decide_eq_true (by first | (with_reducible assumption) | assumption)
                                   have q170 : x474_5 < (t153.length : Int) := of_decide_eq_true (by first | (with_reducible assumption) | assumption)
                                   obtain ⟨ad170, A170_0, c170_0, e170, hx170_0, hl170_0, hi170_0⟩ := at_Ints (Kd.S_reads' HO_472.out).2.2 x474_5 p170 q170
                                   cases e170
                                   obtain ⟨ce170, hce170, hMe170, hcc170⟩ := Kd.S_get HO_472.out [] x474_5 p170 (by first | exact q170 | exact of_decide_eq_true (by first | (with_reducible assumption) | assumption) | (have e_ := (Kd.S_reads' HO_472.out).1; omega))
                                   obtain ⟨ve170_0, rfl, ge170_0⟩ := hMe170
                                   have hv170_0 := hcc170 0 _ rfl
                                   rw [Nat.add_zero, show ((Kd.slice 3 (Kd.int .i64))).sz = 1 from rfl, Nat.mul_one] at hv170_0
                                   replace hv170_0 := Option.some.inj (hv170_0.symm.trans hx170_0)
                                   rw [hv170_0] at ge170_0
                                   have HL170_0 := Aside0.mk (show Kd.R (Kd.int .i64) 3 _ _ _ _ (rd_Ints t153 x474_5) from ge170_0)
                                   clear hv170_0 ge170_0
                                   clear hcc170 hce170
                                   have HR170_0 := Aside0.mk hi170_0
                                   have HC170_0 := Aside0.mk hl170_0
                                   clear hi170_0 hl170_0
                                   replace p170 := eq_true p170
                                   replace q170 := eq_true q170
                                   have p171 : 0 ≤ (0 : Int) := (by omega)
                                   have q171 : 0 < ((rd_Ints t153 x474_5).length : Int) := of_decide_eq_true (by first | (with_reducible assumption) | assumption)
                                   obtain ⟨ad171, e171, hx171_0⟩ := Kd.at_int (by repeat (first | (with_reducible exact HR170_0.out) | (with_reducible refine Kd.C_alloc ?_ _) | (with_reducible refine Kd.C_drewN ?_ _) | (with_reducible refine Kd.C_drew ?_) | exact HR170_0.out)) 0 p171 q171
                                   cases e171
                                   have qi171 : (0 < (rd_Ints t153 x474_5).length) = True := eq_true (by omega)
                                   (try rw [show ((0 : Int)).toNat = 0 from rfl] at hx171_0)
                                   (try rw [Addr.add_zero'] at hx171_0)
                                   replace p171 := eq_true p171
                                   replace q171 := eq_true q171
                                   try go_wp2_with (first | ((with_reducible refine gate_callee (f := 49) rfl ?_); refine goesL_ (some 483) rfl rfl Try.func49 (by kernel_rfl) rfl #[.slice A1 l1.length c1, .int .i64 (rd (rd_Ints t153 x474_5) 0)] rfl (by (try simp only [List.map_toArray, List.map_cons, List.map_nil]); first | done | rfl | (simp only [List.length_drop, List.length_take]; rfl)) ?_; (with_reducible refine (impl_NextLeft.calls k5 _ _ l1 (rd (rd_Ints t153 x474_5) 0) t172 true _ ?side1 ?side2 A148.out).mono ?_); (case side1 => repeat (first | exact (Kd.C_below HR1.out HB.out) | (with_reducible refine Kd.C_alloc ?_ _) | (with_reducible refine Kd.C_drewN ?_ _) | (with_reducible refine Kd.C_drew ?_))); (case side2 => exact HC1.out); rintro e w157 ⟨rfl, hb⟩; refine ⟨_, rfl, ?_⟩; have n0_ := Aside0.mk (Kd.R_below (by apply_rules only [HO_58.out, Kd.R_alloc, Kd.R_drewN, Kd.R_drew]) hb); have n1_ := Aside0.mk (Kd.R_below (by apply_rules only [HO_66.out, Kd.R_alloc, Kd.R_drewN, Kd.R_drew]) hb); have n2_ := Aside0.mk (Kd.S_below (by apply_rules only [HO_472.out, Kd.S_alloc, Kd.S_drewN, Kd.S_drew]) hb); have n3_ := Aside0.mk (Kd.R_below (by apply_rules only [HL170_0.out, Kd.R_alloc, Kd.R_drewN, Kd.R_drew]) hb); have n4_ := Aside0.mk (Kd.C_below (by repeat (first | (with_reducible exact HR170_0.out) | (with_reducible refine Kd.C_alloc ?_ _) | (with_reducible refine Kd.C_drewN ?_ _) | (with_reducible refine Kd.C_drew ?_) | exact HR170_0.out)) hb); have n5_ := Aside0.mk (below_step (by apply_rules only [HB.out, below_alloc, pw_below_drewN, below_drew1]) hb); clear HO_58; clear HO_66; clear HO_472; clear HL170_0; clear HR170_0; clear HB; have HO_58 := n0_; have HO_66 := n1_; have HO_472 := n2_; have HL170_0 := n3_; have HR170_0 := n4_; have HB := n5_; clear n0_ n1_ n2_ n3_ n4_ n5_; (try clear hb); (try clear hb2); (try clear hk); (try clear hi)))
                                   have n0_ := Aside0.mk (Kd.R_drew HO_58.out)
                                   have n1_ := Aside0.mk (Kd.R_drew HO_66.out)
                                   have n2_ := Aside0.mk (Kd.S_drew HO_472.out)
                                   have n3_ := Aside0.mk (Kd.R_drew HL170_0.out)
                                   have n4_ := Aside0.mk (Kd.C_drew HR170_0.out)
                                   have n5_ := Aside0.mk (below_drew1 HB.out)
                                   clear HO_58
                                   clear HO_66
                                   clear HO_472
                                   clear HL170_0
                                   clear HR170_0
                                   clear HB
                                   have HO_58 := n0_
                                   have HO_66 := n1_
                                   have HO_472 := n2_
                                   have HL170_0 := n3_
                                   have HR170_0 := n4_
                                   have HB := n5_
                                   clear n0_ n1_ n2_ n3_ n4_ n5_
                                   have p174 : 0 ≤ (0 : Int) := (by omega)
                                   have q174 : 0 < ((rd_Ints t153 x474_5).length : Int) := of_decide_eq_true (by first | (with_reducible assumption) | assumption)
                                   obtain ⟨ad174, e174, hx174_0⟩ := Kd.at_int (by repeat (first | (with_reducible exact HR170_0.out) | (with_reducible refine Kd.C_alloc ?_ _) | (with_reducible refine Kd.C_drewN ?_ _) | (with_reducible refine Kd.C_drew ?_) | exact HR170_0.out)) 0 p174 q174
                                   obtain rfl : ad171 = ad174 := (by injection e174)
                                   have qi174 : (0 < (rd_Ints t153 x474_5).length) = True := eq_true (by omega)
                                   (try rw [show ((0 : Int)).toNat = 0 from rfl] at hx174_0)
                                   (try rw [Addr.add_zero'] at hx174_0)
                                   replace p174 := eq_true p174
                                   replace q174 := eq_true q174
                                   obtain ⟨Ao159, co159, eo159⟩ := Kd.R_slice HO_66.out
                                   (first | subst eo159 | (injection eo159 with f1_ f2_ f3_; have f4_ := f1_.symm; have f5_ := f3_.symm; clear f1_ f2_ f3_; subst f4_; subst f5_))
                                   have p176 : 0 ≤ (1 : Int) := (by omega)
                                   have q176 : 1 < ((rd_Ints t153 x474_5).length : Int) := of_decide_eq_true (by first | (with_reducible assumption) | assumption)
                                   obtain ⟨ad176, e176, hx176_0⟩ := Kd.at_int (by repeat (first | (with_reducible exact HR170_0.out) | (with_reducible refine Kd.C_alloc ?_ _) | (with_reducible refine Kd.C_drewN ?_ _) | (with_reducible refine Kd.C_drew ?_) | exact HR170_0.out)) 1 p176 q176
                                   obtain rfl : ad171 = ad176 := (by injection e176)
                                   (try simp only [show (1 : Int).toNat = 1 from rfl, Nat.reduceMul, Nat.reduceEqDiff, Go.Addr.add, ↓reduceIte] at hx176_0)
                                   have qi176 : (1 < (rd_Ints t153 x474_5).length) = True := eq_true (by omega)
                                   (try rw [show ((1 : Int)).toNat = 1 from rfl] at hx176_0)
                                   have p177 : 0 ≤ (1 : Int) := (by omega)
                                   have q177 : 1 < ((rd_Ints t153 x474_5).length : Int) := of_decide_eq_true (by first | (with_reducible assumption) | assumption)
                                   obtain ⟨ad177, e177, hx177_0⟩ := Kd.at_int (by repeat (first | (with_reducible exact HR170_0.out) | (with_reducible refine Kd.C_alloc ?_ _) | (with_reducible refine Kd.C_drewN ?_ _) | (with_reducible refine Kd.C_drew ?_) | exact HR170_0.out)) 1 p177 q177
                                   obtain rfl : ad171 = ad177 := (by injection e177)
                                   (try simp only [show (1 : Int).toNat = 1 from rfl, Nat.reduceMul, Nat.reduceEqDiff, Go.Addr.add, ↓reduceIte] at hx177_0)
                                   have qi177 : (1 < (rd_Ints t153 x474_5).length) = True := eq_true (by omega)
                                   (try rw [show ((1 : Int)).toNat = 1 from rfl] at hx177_0)
                                   have p179 : 0 ≤ (0 : Int) := (by omega)
                                   have q179 : 0 < ((rd_Ints t153 x474_5).length : Int) := of_decide_eq_true (by first | (with_reducible assumption) | assumption)
                                   obtain ⟨ad179, e179, hx179_0⟩ := Kd.at_int (by repeat (first | (with_reducible exact HR170_0.out) | (with_reducible refine Kd.C_alloc ?_ _) | (with_reducible refine Kd.C_drewN ?_ _) | (with_reducible refine Kd.C_drew ?_) | exact HR170_0.out)) 0 p179 q179
                                   obtain rfl : ad171 = ad179 := (by injection e179)
                                   have qi179 : (0 < (rd_Ints t153 x474_5).length) = True := eq_true (by omega)
                                   (try rw [show ((0 : Int)).toNat = 0 from rfl] at hx179_0)
                                   (try rw [Addr.add_zero'] at hx179_0)
                                   have p180 : 0 ≤ (1 : Int) := (by omega)
                                   have q180 : 1 < ((rd_Ints t153 x474_5).length : Int) := of_decide_eq_true (by first | (with_reducible assumption) | assumption)
                                   obtain ⟨ad180, e180, hx180_0⟩ := Kd.at_int (by repeat (first | (with_reducible exact HR170_0.out) | (with_reducible refine Kd.C_alloc ?_ _) | (with_reducible refine Kd.C_drewN ?_ _) | (with_reducible refine Kd.C_drew ?_) | exact HR170_0.out)) 1 p180 q180
                                   obtain rfl : ad171 = ad180 := (by injection e180)
                                   (try simp only [show (1 : Int).toNat = 1 from rfl, Nat.reduceMul, Nat.reduceEqDiff, Go.Addr.add, ↓reduceIte] at hx180_0)
                                   have qi180 : (1 < (rd_Ints t153 x474_5).length) = True := eq_true (by omega)
                                   (try rw [show ((1 : Int)).toNat = 1 from rfl] at hx180_0)
                                   refine start_ (n := 36) (S := fun w' => w'.cell? ad171 = some (.int .i64 (rd (rd_Ints t153 x474_5) 0)) ∧ w'.cell? ⟨ad171.block, ad171.off + 1, none⟩ = some (.int .i64 (rd (rd_Ints t153 x474_5) 1)) ∧ w'.cell? ⟨ad171.block, ad171.off + 1, none⟩ = some (.int .i64 (rd (rd_Ints t153 x474_5) 1)) ∧ w'.cell? ad171 = some (.int .i64 (rd (rd_Ints t153 x474_5) 0)) ∧ w'.cell? ⟨ad171.block, ad171.off + 1, none⟩ = some (.int .i64 (rd (rd_Ints t153 x474_5) 1))) (ds := []) #[false, false, false, false, false, false, false, false, false, false, false, false, false, false, false, false, false, false, false, false, false, false, false, false, false, false, false, false, false, false, false, false, false, false, false, false] (by kernel_rfl) rfl rfl ⟨hx174_0, hx176_0, hx177_0, hx179_0, hx180_0⟩ (fun hHeld => ?_); refine with_tabW laws_FnGapsToldOfAll.tab59 laws_FnGapsToldOfAll.bits59 (fun HT_ HW_ => ?_)
                                   generalize w157.drew = w158 at HO_58 HO_66 HO_472 HL170_0 HR170_0 HB hx174_0 hHeld ⊢
                                   refine pure_ (i := 0) (N := some 486) (v := ?_) (a' := ?_) #[true, false, false, false, false, false, false, false, false, false, false, false, false, false, false, false, false, false, false, false, false, false, false, false, false, false, false, false, false, false, false, false, false, false, false, false] rfl rfl (any_of HT_.out (by kernel_rfl)) (fun _ _ _ h => h) (Or.inl ⟨by rfl, ?_⟩) ?_ ?_
                                   rotate_left
                                   ·intro w'
                                    go_simp
                                    with_reducible rfl
                                   rotate_left
                                   ·simp only [Act.put, List.setIfInBounds_toArray, List.set_cons_zero, List.set_cons_succ, i64_w, i32_w]
                                    rfl
                                   refine pure_ (i := 1) (N := some 487) (v := ?_) (a' := ?_) #[true, true, false, false, false, false, false, false, false, false, false, false, false, false, false, false, false, false, false, false, false, false, false, false, false, false, false, false, false, false, false, false, false, false, false, false] rfl rfl (any_of HT_.out (by kernel_rfl)) (fun _ _ _ h => h) (Or.inl ⟨by rfl, ?_⟩) ?_ ?_
                                   rotate_left
                                   ·intro w'
                                    go_simp
                                    with_reducible rfl
                                   rotate_left
                                   ·simp only [Act.put, List.setIfInBounds_toArray, List.set_cons_zero, List.set_cons_succ, i64_w, i32_w]
                                    rfl
                                   refine pure_ (i := 2) (N := some 488) (v := ?_) (a' := ?_) #[true, true, true, false, false, false, false, false, false, false, false, false, false, false, false, false, false, false, false, false, false, false, false, false, false, false, false, false, false, false, false, false, false, false, false, false] rfl rfl (any_of HT_.out (by kernel_rfl)) (fun _ _ _ h => h) (Or.inl ⟨by rfl, ?_⟩) ?_ ?_
                                   rotate_left
                                   ·intro w'
                                    go_simp
                                    with_reducible rfl
                                   rotate_left
                                   ·simp only [Act.put, List.setIfInBounds_toArray, List.set_cons_zero, List.set_cons_succ, i64_w, i32_w]
                                    rfl
                                   refine take_ (i := 3) (N := some 489) (v := ?_) (a' := ?_) #[true, true, true, true, false, false, false, false, false, false, false, false, false, false, false, false, false, false, false, false, false, false, false, false, false, false, false, false, false, false, false, false, false, false, false, false] rfl rfl (take_ofW HT_.out HW_.out (by kernel_rfl)) (fun _ _ _ h => h) (Or.inl ⟨by rfl, ?_⟩) hHeld ?_ ?_
                                   rotate_left
                                   ·rintro w' ⟨s0, s1, s2, s3, s4⟩
                                    go_simp
                                    with_reducible rfl
                                   rotate_left
                                   ·simp only [Act.put, List.setIfInBounds_toArray, List.set_cons_zero, List.set_cons_succ, i64_w, i32_w]
                                    rfl
                                   refine one_ (i := 4) (N := some 490) #[true, true, true, true, true, false, false, false, false, false, false, false, false, false, false, false, false, false, false, false, false, false, false, false, false, false, false, false, false, false, false, false, false, false, false, false] rfl rfl (one_of HT_.out (by kernel_rfl)) (by decide) (fun K hK => ?_)
                                   refine goes_ Try.func39 (by kernel_rfl) rfl #[.slice Ao159 t163.length co159, .int .i64 (rd (rd_Ints t153 x474_5) 0)] (by rfl) rfl rfl (by (try simp only [List.map_toArray, List.map_cons, List.map_nil]); first | done | rfl | (simp only [List.length_drop, List.length_take]; rfl)) ?_
                                   with_reducible refine (laws_tHas.calls k5 _ _ t163 (rd (rd_Ints t153 x474_5) 0) true _ ?side1 ?side2 A149.out).mono ?_
                                   (case side1 => repeat (first | exact (Kd.R_reads' HO_66.out).2.2 | (with_reducible refine Kd.C_alloc ?_ _) | (with_reducible refine Kd.C_drewN ?_ _) | (with_reducible refine Kd.C_drew ?_)))
                                   (case side2 => exact (Kd.R_reads' HO_66.out).2.1)
                                   rintro e w' ⟨rfl, ⟨nd, rfl⟩⟩
                                   refine ⟨_, rfl, ?_⟩
                                   have p176 : 0 ≤ (1 : Int) := (by omega)
                                   have q176 : 1 < ((rd_Ints t153 x474_5).length : Int) := of_decide_eq_true (by first | (with_reducible assumption) | assumption)
                                   obtain ⟨ad176, e176, hx176_0⟩ := Kd.at_int (by repeat (first | (with_reducible exact HR170_0.out) | (with_reducible refine Kd.C_alloc ?_ _) | (with_reducible refine Kd.C_drewN ?_ _) | (with_reducible refine Kd.C_drew ?_) | exact HR170_0.out)) 1 p176 q176
                                   obtain rfl : ad171 = ad176 := (by injection e176)
                                   (try simp only [show (1 : Int).toNat = 1 from rfl, Nat.reduceMul, Nat.reduceEqDiff, Go.Addr.add, ↓reduceIte] at hx176_0)
                                   have qi176 : (1 < (rd_Ints t153 x474_5).length) = True := eq_true (by omega)
                                   (try rw [show ((1 : Int)).toNat = 1 from rfl] at hx176_0)
                                   replace p176 := eq_true p176
                                   replace q176 := eq_true q176
                                   have p177 : 0 ≤ (1 : Int) := (by omega)
                                   have q177 : 1 < ((rd_Ints t153 x474_5).length : Int) := of_decide_eq_true (by first | (with_reducible assumption) | assumption)
                                   obtain ⟨ad177, e177, hx177_0⟩ := Kd.at_int (by repeat (first | (with_reducible exact HR170_0.out) | (with_reducible refine Kd.C_alloc ?_ _) | (with_reducible refine Kd.C_drewN ?_ _) | (with_reducible refine Kd.C_drew ?_) | exact HR170_0.out)) 1 p177 q177
                                   obtain rfl : ad171 = ad177 := (by injection e177)
                                   (try simp only [show (1 : Int).toNat = 1 from rfl, Nat.reduceMul, Nat.reduceEqDiff, Go.Addr.add, ↓reduceIte] at hx177_0)
                                   have qi177 : (1 < (rd_Ints t153 x474_5).length) = True := eq_true (by omega)
                                   (try rw [show ((1 : Int)).toNat = 1 from rfl] at hx177_0)
                                   replace p177 := eq_true p177
                                   replace q177 := eq_true q177
                                   refine hK.out _ _ ⟨hHeld.1, hHeld.2.1, hHeld.2.2.1, hHeld.2.2.2.1, hHeld.2.2.2.2⟩ (fun hHeld => ?_)
                                   clear hK K
                                   refine norm_ (a' := ?_) ?_ ?_
                                   rotate_left
                                   ·show Act.put _ (some 490) _ = _
                                    simp only [Act.put, List.setIfInBounds_toArray, List.set_cons_zero, List.set_cons_succ, i64_w, i32_w]
                                    rfl
                                   refine pure_ (i := 5) (N := some 491) (v := ?_) (a' := ?_) #[true, true, true, true, true, true, false, false, false, false, false, false, false, false, false, false, false, false, false, false, false, false, false, false, false, false, false, false, false, false, false, false, false, false, false, false] rfl rfl (any_of HT_.out (by kernel_rfl)) (fun _ _ _ h => h) (Or.inl ⟨by rfl, ?_⟩) ?_ ?_
                                   rotate_left
                                   ·intro w'
                                    go_simp
                                    with_reducible rfl
                                   rotate_left
                                   ·simp only [Act.put, List.setIfInBounds_toArray, List.set_cons_zero, List.set_cons_succ, i64_w, i32_w]
                                    rfl
                                   refine pure_ (i := 6) (N := some 492) (v := ?_) (a' := ?_) #[true, true, true, true, true, true, true, false, false, false, false, false, false, false, false, false, false, false, false, false, false, false, false, false, false, false, false, false, false, false, false, false, false, false, false, false] rfl rfl (any_of HT_.out (by kernel_rfl)) (fun _ _ _ h => h) (Or.inl ⟨by rfl, ?_⟩) ?_ ?_
                                   rotate_left
                                   ·intro w'
                                    go_simp
                                    with_reducible rfl
                                   rotate_left
                                   ·simp only [Act.put, List.setIfInBounds_toArray, List.set_cons_zero, List.set_cons_succ, i64_w, i32_w]
                                    rfl
                                   refine pure_ (i := 7) (N := some 493) (v := ?_) (a' := ?_) #[true, true, true, true, true, true, true, true, false, false, false, false, false, false, false, false, false, false, false, false, false, false, false, false, false, false, false, false, false, false, false, false, false, false, false, false] rfl rfl (any_of HT_.out (by kernel_rfl)) (fun _ _ _ h => h) (Or.inl ⟨by rfl, ?_⟩) ?_ ?_
                                   rotate_left
                                   ·intro w'
                                    go_simp
                                    with_reducible rfl
                                   rotate_left
                                   ·simp only [Act.put, List.setIfInBounds_toArray, List.set_cons_zero, List.set_cons_succ, i64_w, i32_w]
                                    rfl
                                   refine pure_ (i := 8) (N := some 494) (v := ?_) (a' := ?_) #[true, true, true, true, true, true, true, true, true, false, false, false, false, false, false, false, false, false, false, false, false, false, false, false, false, false, false, false, false, false, false, false, false, false, false, false] rfl rfl (any_of HT_.out (by kernel_rfl)) (fun _ _ _ h => h) (Or.inl ⟨by rfl, ?_⟩) ?_ ?_
                                   rotate_left
                                   ·intro w'
                                    go_simp
                                    with_reducible rfl
                                   rotate_left
                                   ·simp only [Act.put, List.setIfInBounds_toArray, List.set_cons_zero, List.set_cons_succ, i64_w, i32_w]
                                    rfl
                                   refine pure_ (i := 10) (N := some 496) (v := ?_) (a' := ?_) #[true, true, true, true, true, true, true, true, true, false, true, false, false, false, false, false, false, false, false, false, false, false, false, false, false, false, false, false, false, false, false, false, false, false, false, false] rfl rfl (any_of HT_.out (by kernel_rfl)) (fun _ _ _ h => h) (Or.inl ⟨by rfl, ?_⟩) ?_ ?_
                                   rotate_left
                                   ·intro w'
                                    go_simp
                                    with_reducible rfl
                                   rotate_left
                                   ·simp only [Act.put, List.setIfInBounds_toArray, List.set_cons_zero, List.set_cons_succ, i64_w, i32_w]
                                    rfl
                                   refine take_ (i := 9) (N := some 495) (v := ?_) (a' := ?_) #[true, true, true, true, true, true, true, true, true, true, true, false, false, false, false, false, false, false, false, false, false, false, false, false, false, false, false, false, false, false, false, false, false, false, false, false] rfl rfl (take_ofW HT_.out HW_.out (by kernel_rfl)) (fun _ _ _ h => h) (Or.inl ⟨by rfl, ?_⟩) hHeld ?_ ?_
                                   rotate_left
                                   ·rintro w' ⟨s0, s1, s2, s3, s4⟩
                                    go_simp
                                    with_reducible rfl
                                   rotate_left
                                   ·simp only [Act.put, List.setIfInBounds_toArray, List.set_cons_zero, List.set_cons_succ, i64_w, i32_w]
                                    rfl
                                   refine pure_ (i := 11) (N := some 497) (v := ?_) (a' := ?_) #[true, true, true, true, true, true, true, true, true, true, true, true, false, false, false, false, false, false, false, false, false, false, false, false, false, false, false, false, false, false, false, false, false, false, false, false] rfl rfl (any_of HT_.out (by kernel_rfl)) (fun _ _ _ h => h) (Or.inl ⟨by rfl, ?_⟩) ?_ ?_
                                   rotate_left
                                   ·intro w'
                                    go_simp
                                    with_reducible rfl
                                   rotate_left
                                   ·simp only [Act.put, List.setIfInBounds_toArray, List.set_cons_zero, List.set_cons_succ, i64_w, i32_w]
                                    rfl
                                   refine pure_ (i := 12) (N := some 498) (v := ?_) (a' := ?_) #[true, true, true, true, true, true, true, true, true, true, true, true, true, false, false, false, false, false, false, false, false, false, false, false, false, false, false, false, false, false, false, false, false, false, false, false] rfl rfl (any_of HT_.out (by kernel_rfl)) (fun _ _ _ h => h) (Or.inl ⟨by rfl, ?_⟩) ?_ ?_
                                   rotate_left
                                   ·intro w'
                                    go_simp
                                    with_reducible rfl
                                   rotate_left
                                   ·simp only [Act.put, List.setIfInBounds_toArray, List.set_cons_zero, List.set_cons_succ, i64_w, i32_w]
                                    rfl
                                   refine pure_ (i := 13) (N := some 499) (v := ?_) (a' := ?_) #[true, true, true, true, true, true, true, true, true, true, true, true, true, true, false, false, false, false, false, false, false, false, false, false, false, false, false, false, false, false, false, false, false, false, false, false] rfl rfl (any_of HT_.out (by kernel_rfl)) (fun _ _ _ h => h) (Or.inl ⟨by rfl, ?_⟩) ?_ ?_
                                   rotate_left
                                   ·intro w'
                                    go_simp
                                    with_reducible rfl
                                   rotate_left
                                   ·simp only [Act.put, List.setIfInBounds_toArray, List.set_cons_zero, List.set_cons_succ, i64_w, i32_w]
                                    rfl
                                   refine pure_ (i := 14) (N := some 500) (v := ?_) (a' := ?_) #[true, true, true, true, true, true, true, true, true, true, true, true, true, true, true, false, false, false, false, false, false, false, false, false, false, false, false, false, false, false, false, false, false, false, false, false] rfl rfl (any_of HT_.out (by kernel_rfl)) (fun _ _ _ h => h) (Or.inl ⟨by rfl, ?_⟩) ?_ ?_
                                   rotate_left
                                   ·intro w'
                                    go_simp
                                    with_reducible rfl
                                   rotate_left
                                   ·simp only [Act.put, List.setIfInBounds_toArray, List.set_cons_zero, List.set_cons_succ, i64_w, i32_w]
                                    rfl
                                   refine pure_ (i := 15) (N := some 501) (v := ?_) (a' := ?_) #[true, true, true, true, true, true, true, true, true, true, true, true, true, true, true, true, false, false, false, false, false, false, false, false, false, false, false, false, false, false, false, false, false, false, false, false] rfl rfl (any_of HT_.out (by kernel_rfl)) (fun _ _ _ h => h) (Or.inl ⟨by rfl, ?_⟩) ?_ ?_
                                   rotate_left
                                   ·intro w'
                                    go_simp
                                    with_reducible rfl
                                   rotate_left
                                   ·simp only [Act.put, List.setIfInBounds_toArray, List.set_cons_zero, List.set_cons_succ, i64_w, i32_w]
                                    rfl
                                   refine pure_ (i := 16) (N := some 502) (v := ?_) (a' := ?_) #[true, true, true, true, true, true, true, true, true, true, true, true, true, true, true, true, true, false, false, false, false, false, false, false, false, false, false, false, false, false, false, false, false, false, false, false] rfl rfl (any_of HT_.out (by kernel_rfl)) (fun _ _ _ h => h) (Or.inl ⟨by rfl, ?_⟩) ?_ ?_
                                   rotate_left
                                   ·intro w'
                                    go_simp
                                    with_reducible rfl
                                   rotate_left
                                   ·simp only [Act.put, List.setIfInBounds_toArray, List.set_cons_zero, List.set_cons_succ, i64_w, i32_w]
                                    rfl
                                   refine take_ (i := 17) (N := some 503) (v := ?_) (a' := ?_) #[true, true, true, true, true, true, true, true, true, true, true, true, true, true, true, true, true, true, false, false, false, false, false, false, false, false, false, false, false, false, false, false, false, false, false, false] rfl rfl (take_ofW HT_.out HW_.out (by kernel_rfl)) (fun _ _ _ h => h) (Or.inl ⟨by rfl, ?_⟩) hHeld ?_ ?_
                                   rotate_left
                                   ·rintro w' ⟨s0, s1, s2, s3, s4⟩
                                    go_simp
                                    with_reducible rfl
                                   rotate_left
                                   ·simp only [Act.put, List.setIfInBounds_toArray, List.set_cons_zero, List.set_cons_succ, i64_w, i32_w]
                                    rfl
                                   refine one_ (i := 18) (N := some 504) #[true, true, true, true, true, true, true, true, true, true, true, true, true, true, true, true, true, true, true, false, false, false, false, false, false, false, false, false, false, false, false, false, false, false, false, false] rfl rfl (one_of HT_.out (by kernel_rfl)) (by decide) (fun K hK => ?_)
                                   refine goes_ Try.func39 (by kernel_rfl) rfl #[.slice Ao123 t145.length co123, .int .i64 (rd (rd_Ints t153 x474_5) 1)] (by rfl) rfl rfl (by (try simp only [List.map_toArray, List.map_cons, List.map_nil]); first | done | rfl | (simp only [List.length_drop, List.length_take]; rfl)) ?_
                                   with_reducible refine (laws_tHas.calls k5 _ _ t145 (rd (rd_Ints t153 x474_5) 1) true _ ?side1 ?side2 A153.out).mono ?_
                                   (case side1 => repeat (first | exact (Kd.R_reads' HO_58.out).2.2 | (with_reducible refine Kd.C_alloc ?_ _) | (with_reducible refine Kd.C_drewN ?_ _) | (with_reducible refine Kd.C_drew ?_)))
                                   (case side2 => exact (Kd.R_reads' HO_58.out).2.1)
                                   rintro e w' ⟨rfl, ⟨nd, rfl⟩⟩
                                   refine ⟨_, rfl, ?_⟩
                                   have p179 : 0 ≤ (0 : Int) := (by omega)
                                   have q179 : 0 < ((rd_Ints t153 x474_5).length : Int) := of_decide_eq_true (by first | (with_reducible assumption) | assumption)
                                   obtain ⟨ad179, e179, hx179_0⟩ := Kd.at_int (by repeat (first | (with_reducible exact HR170_0.out) | (with_reducible refine Kd.C_alloc ?_ _) | (with_reducible refine Kd.C_drewN ?_ _) | (with_reducible refine Kd.C_drew ?_) | exact HR170_0.out)) 0 p179 q179
                                   obtain rfl : ad171 = ad179 := (by injection e179)
                                   have qi179 : (0 < (rd_Ints t153 x474_5).length) = True := eq_true (by omega)
                                   (try rw [show ((0 : Int)).toNat = 0 from rfl] at hx179_0)
                                   (try rw [Addr.add_zero'] at hx179_0)
                                   replace p179 := eq_true p179
                                   replace q179 := eq_true q179
                                   have p180 : 0 ≤ (1 : Int) := (by omega)
                                   have q180 : 1 < ((rd_Ints t153 x474_5).length : Int) := of_decide_eq_true (by first | (with_reducible assumption) | assumption)
                                   obtain ⟨ad180, e180, hx180_0⟩ := Kd.at_int (by repeat (first | (with_reducible exact HR170_0.out) | (with_reducible refine Kd.C_alloc ?_ _) | (with_reducible refine Kd.C_drewN ?_ _) | (with_reducible refine Kd.C_drew ?_) | exact HR170_0.out)) 1 p180 q180
                                   obtain rfl : ad171 = ad180 := (by injection e180)
                                   (try simp only [show (1 : Int).toNat = 1 from rfl, Nat.reduceMul, Nat.reduceEqDiff, Go.Addr.add, ↓reduceIte] at hx180_0)
                                   have qi180 : (1 < (rd_Ints t153 x474_5).length) = True := eq_true (by omega)
                                   (try rw [show ((1 : Int)).toNat = 1 from rfl] at hx180_0)
                                   replace p180 := eq_true p180
                                   replace q180 := eq_true q180
                                   refine hK.out _ _ ⟨hHeld.1, hHeld.2.1, hHeld.2.2.1, hHeld.2.2.2.1, hHeld.2.2.2.2⟩ (fun hHeld => ?_)
                                   clear hK K
                                   refine norm_ (a' := ?_) ?_ ?_
                                   rotate_left
                                   ·show Act.put _ (some 504) _ = _
                                    simp only [Act.put, List.setIfInBounds_toArray, List.set_cons_zero, List.set_cons_succ, i64_w, i32_w]
                                    rfl
                                   refine pure_ (i := 19) (N := some 505) (v := ?_) (a' := ?_) #[true, true, true, true, true, true, true, true, true, true, true, true, true, true, true, true, true, true, true, true, false, false, false, false, false, false, false, false, false, false, false, false, false, false, false, false] rfl rfl (any_of HT_.out (by kernel_rfl)) (fun _ _ _ h => h) (Or.inl ⟨by rfl, ?_⟩) ?_ ?_
                                   rotate_left
                                   ·intro w'
                                    go_simp
                                    with_reducible rfl
                                   rotate_left
                                   ·simp only [Act.put, List.setIfInBounds_toArray, List.set_cons_zero, List.set_cons_succ, i64_w, i32_w]
                                    rfl
                                   refine pure_ (i := 20) (N := some 506) (v := ?_) (a' := ?_) #[true, true, true, true, true, true, true, true, true, true, true, true, true, true, true, true, true, true, true, true, true, false, false, false, false, false, false, false, false, false, false, false, false, false, false, false] rfl rfl (any_of HT_.out (by kernel_rfl)) (fun _ _ _ h => h) (Or.inl ⟨by rfl, ?_⟩) ?_ ?_
                                   rotate_left
                                   ·intro w'
                                    go_simp
                                    with_reducible rfl
                                   rotate_left
                                   ·simp only [Act.put, List.setIfInBounds_toArray, List.set_cons_zero, List.set_cons_succ, i64_w, i32_w]
                                    rfl
                                   refine pure_ (i := 21) (N := some 507) (v := ?_) (a' := ?_) #[true, true, true, true, true, true, true, true, true, true, true, true, true, true, true, true, true, true, true, true, true, true, false, false, false, false, false, false, false, false, false, false, false, false, false, false] rfl rfl (any_of HT_.out (by kernel_rfl)) (fun _ _ _ h => h) (Or.inl ⟨by rfl, ?_⟩) ?_ ?_
                                   rotate_left
                                   ·intro w'
                                    go_simp
                                    with_reducible rfl
                                   rotate_left
                                   ·simp only [Act.put, List.setIfInBounds_toArray, List.set_cons_zero, List.set_cons_succ, i64_w, i32_w]
                                    rfl
                                   refine pure_ (i := 22) (N := some 508) (v := ?_) (a' := ?_) #[true, true, true, true, true, true, true, true, true, true, true, true, true, true, true, true, true, true, true, true, true, true, true, false, false, false, false, false, false, false, false, false, false, false, false, false] rfl rfl (any_of HT_.out (by kernel_rfl)) (fun _ _ _ h => h) (Or.inl ⟨by rfl, ?_⟩) ?_ ?_
                                   rotate_left
                                   ·intro w'
                                    go_simp
                                    with_reducible rfl
                                   rotate_left
                                   ·simp only [Act.put, List.setIfInBounds_toArray, List.set_cons_zero, List.set_cons_succ, i64_w, i32_w]
                                    rfl
                                   refine pure_ (i := 23) (N := some 509) (v := ?_) (a' := ?_) #[true, true, true, true, true, true, true, true, true, true, true, true, true, true, true, true, true, true, true, true, true, true, true, true, false, false, false, false, false, false, false, false, false, false, false, false] rfl rfl (any_of HT_.out (by kernel_rfl)) (fun _ _ _ h => h) (Or.inl ⟨by rfl, ?_⟩) ?_ ?_
                                   rotate_left
                                   ·intro w'
                                    go_simp
                                    with_reducible rfl
                                   rotate_left
                                   ·simp only [Act.put, List.setIfInBounds_toArray, List.set_cons_zero, List.set_cons_succ, i64_w, i32_w]
                                    rfl
                                   refine pure_ (i := 24) (N := some 510) (v := ?_) (a' := ?_) #[true, true, true, true, true, true, true, true, true, true, true, true, true, true, true, true, true, true, true, true, true, true, true, true, true, false, false, false, false, false, false, false, false, false, false, false] rfl rfl (any_of HT_.out (by kernel_rfl)) (fun _ _ _ h => h) (Or.inl ⟨by rfl, ?_⟩) ?_ ?_
                                   rotate_left
                                   ·intro w'
                                    go_simp
                                    with_reducible rfl
                                   rotate_left
                                   ·simp only [Act.put, List.setIfInBounds_toArray, List.set_cons_zero, List.set_cons_succ, i64_w, i32_w]
                                    rfl
                                   refine pure_ (i := 25) (N := some 511) (v := ?_) (a' := ?_) #[true, true, true, true, true, true, true, true, true, true, true, true, true, true, true, true, true, true, true, true, true, true, true, true, true, true, false, false, false, false, false, false, false, false, false, false] rfl rfl (any_of HT_.out (by kernel_rfl)) (fun _ _ _ h => h) (Or.inl ⟨by rfl, ?_⟩) ?_ ?_
                                   rotate_left
                                   ·intro w'
                                    go_simp
                                    with_reducible rfl
                                   rotate_left
                                   ·simp only [Act.put, List.setIfInBounds_toArray, List.set_cons_zero, List.set_cons_succ, i64_w, i32_w]
                                    rfl
                                   refine pure_ (i := 26) (N := some 512) (v := ?_) (a' := ?_) #[true, true, true, true, true, true, true, true, true, true, true, true, true, true, true, true, true, true, true, true, true, true, true, true, true, true, true, false, false, false, false, false, false, false, false, false] rfl rfl (any_of HT_.out (by kernel_rfl)) (fun _ _ _ h => h) (Or.inl ⟨by rfl, ?_⟩) ?_ ?_
                                   rotate_left
                                   ·intro w'
                                    go_simp
                                    with_reducible rfl
                                   rotate_left
                                   ·simp only [Act.put, List.setIfInBounds_toArray, List.set_cons_zero, List.set_cons_succ, i64_w, i32_w]
                                    rfl
                                   refine pure_ (i := 27) (N := some 513) (v := ?_) (a' := ?_) #[true, true, true, true, true, true, true, true, true, true, true, true, true, true, true, true, true, true, true, true, true, true, true, true, true, true, true, true, false, false, false, false, false, false, false, false] rfl rfl (any_of HT_.out (by kernel_rfl)) (fun _ _ _ h => h) (Or.inl ⟨by rfl, ?_⟩) ?_ ?_
                                   rotate_left
                                   ·intro w'
                                    go_simp
                                    with_reducible rfl
                                   rotate_left
                                   ·simp only [Act.put, List.setIfInBounds_toArray, List.set_cons_zero, List.set_cons_succ, i64_w, i32_w]
                                    rfl
                                   refine pure_ (i := 28) (N := some 514) (v := ?_) (a' := ?_) #[true, true, true, true, true, true, true, true, true, true, true, true, true, true, true, true, true, true, true, true, true, true, true, true, true, true, true, true, true, false, false, false, false, false, false, false] rfl rfl (any_of HT_.out (by kernel_rfl)) (fun _ _ _ h => h) (Or.inl ⟨by rfl, ?_⟩) ?_ ?_
                                   rotate_left
                                   ·intro w'
                                    go_simp
                                    with_reducible rfl
                                   rotate_left
                                   ·simp only [Act.put, List.setIfInBounds_toArray, List.set_cons_zero, List.set_cons_succ, i64_w, i32_w]
                                    rfl
                                   refine pure_ (i := 30) (N := some 516) (v := ?_) (a' := ?_) #[true, true, true, true, true, true, true, true, true, true, true, true, true, true, true, true, true, true, true, true, true, true, true, true, true, true, true, true, true, false, true, false, false, false, false, false] rfl rfl (any_of HT_.out (by kernel_rfl)) (fun _ _ _ h => h) (Or.inl ⟨by rfl, ?_⟩) ?_ ?_
                                   rotate_left
                                   ·intro w'
                                    go_simp
                                    with_reducible rfl
                                   rotate_left
                                   ·simp only [Act.put, List.setIfInBounds_toArray, List.set_cons_zero, List.set_cons_succ, i64_w, i32_w]
                                    rfl
                                   refine pure_ (i := 31) (N := some 517) (v := ?_) (a' := ?_) #[true, true, true, true, true, true, true, true, true, true, true, true, true, true, true, true, true, true, true, true, true, true, true, true, true, true, true, true, true, false, true, true, false, false, false, false] rfl rfl (any_of HT_.out (by kernel_rfl)) (fun _ _ _ h => h) (Or.inl ⟨by rfl, ?_⟩) ?_ ?_
                                   rotate_left
                                   ·intro w'
                                    go_simp
                                    with_reducible rfl
                                   rotate_left
                                   ·simp only [Act.put, List.setIfInBounds_toArray, List.set_cons_zero, List.set_cons_succ, i64_w, i32_w]
                                    rfl
                                   refine take_ (i := 29) (N := some 515) (v := ?_) (a' := ?_) #[true, true, true, true, true, true, true, true, true, true, true, true, true, true, true, true, true, true, true, true, true, true, true, true, true, true, true, true, true, true, true, true, false, false, false, false] rfl rfl (take_ofW HT_.out HW_.out (by kernel_rfl)) (fun _ _ _ h => h) (Or.inl ⟨by rfl, ?_⟩) hHeld ?_ ?_
                                   rotate_left
                                   ·rintro w' ⟨s0, s1, s2, s3, s4⟩
                                    go_simp
                                    with_reducible rfl
                                   rotate_left
                                   ·simp only [Act.put, List.setIfInBounds_toArray, List.set_cons_zero, List.set_cons_succ, i64_w, i32_w]
                                    rfl
                                   refine take_ (i := 32) (N := some 518) (v := ?_) (a' := ?_) #[true, true, true, true, true, true, true, true, true, true, true, true, true, true, true, true, true, true, true, true, true, true, true, true, true, true, true, true, true, true, true, true, true, false, false, false] rfl rfl (take_ofW HT_.out HW_.out (by kernel_rfl)) (fun _ _ _ h => h) (Or.inl ⟨by rfl, ?_⟩) hHeld ?_ ?_
                                   rotate_left
                                   ·rintro w' ⟨s0, s1, s2, s3, s4⟩
                                    go_simp
                                    with_reducible rfl
                                   rotate_left
                                   ·simp only [Act.put, List.setIfInBounds_toArray, List.set_cons_zero, List.set_cons_succ, i64_w, i32_w]
                                    rfl
                                   refine pure_ (i := 33) (N := some 519) (v := ?_) (a' := ?_) #[true, true, true, true, true, true, true, true, true, true, true, true, true, true, true, true, true, true, true, true, true, true, true, true, true, true, true, true, true, true, true, true, true, true, false, false] rfl rfl (any_of HT_.out (by kernel_rfl)) (fun _ _ _ h => h) (Or.inl ⟨by rfl, ?_⟩) ?_ ?_
                                   rotate_left
                                   ·intro w'
                                    go_simp
                                    with_reducible rfl
                                   rotate_left
                                   ·simp only [Act.put, List.setIfInBounds_toArray, List.set_cons_zero, List.set_cons_succ, i64_w, i32_w]
                                    rfl
                                   refine pure_ (i := 34) (N := some 520) (v := ?_) (a' := ?_) #[true, true, true, true, true, true, true, true, true, true, true, true, true, true, true, true, true, true, true, true, true, true, true, true, true, true, true, true, true, true, true, true, true, true, true, false] rfl rfl (any_of HT_.out (by kernel_rfl)) (fun _ _ _ h => h) (Or.inl ⟨by rfl, ?_⟩) ?_ ?_
                                   rotate_left
                                   ·intro w'
                                    go_simp
                                    with_reducible rfl
                                   rotate_left
                                   ·simp only [Act.put, List.setIfInBounds_toArray, List.set_cons_zero, List.set_cons_succ, i64_w, i32_w]
                                    rfl
                                   refine pure_ (i := 35) (N := some 521) (v := ?_) (a' := ?_) #[true, true, true, true, true, true, true, true, true, true, true, true, true, true, true, true, true, true, true, true, true, true, true, true, true, true, true, true, true, true, true, true, true, true, true, true] rfl rfl (any_of HT_.out (by kernel_rfl)) (fun _ _ _ h => h) (Or.inl ⟨by rfl, ?_⟩) ?_ ?_
                                   rotate_left
                                   ·intro w'
                                    go_simp
                                    with_reducible rfl
                                   rotate_left
                                   ·simp only [Act.put, List.setIfInBounds_toArray, List.set_cons_zero, List.set_cons_succ, i64_w, i32_w]
                                    rfl
                                   refine done_ (done_of HT_.out (by kernel_rfl)) ?_
                                   have p181 : 0 ≤ (1 : Int) := (by omega)
                                   have q181 : 1 < ((rd_Ints t153 x474_5).length : Int) := of_decide_eq_true (by first | (with_reducible assumption) | assumption)
                                   obtain ⟨ad181, e181, hx181_0⟩ := Kd.at_int (by repeat (first | (with_reducible exact HR170_0.out) | (with_reducible refine Kd.C_alloc ?_ _) | (with_reducible refine Kd.C_drewN ?_ _) | (with_reducible refine Kd.C_drew ?_) | exact HR170_0.out)) 1 p181 q181
                                   obtain rfl : ad171 = ad181 := (by injection e181)
                                   (try simp only [show (1 : Int).toNat = 1 from rfl, Nat.reduceMul, Nat.reduceEqDiff, Go.Addr.add, ↓reduceIte] at hx181_0)
                                   have qi181 : (1 < (rd_Ints t153 x474_5).length) = True := eq_true (by omega)
                                   (try rw [show ((1 : Int)).toNat = 1 from rfl] at hx181_0)
                                   replace p181 := eq_true p181
                                   replace q181 := eq_true q181
                                   try go_wp2
                                   go_roundg k5
                                   case measure => have := HJ9.out; have := HJ23.out; have := HJ50.out; have := HJ128.out; have := HK5.out; omega
                                   case rel => exact ⟨(rd (rd_Ints t153 x474_5) 1), (wrap64 (x474_5 + 1)), (by first | rfl | (simp; done) | (simp [*]; done)), (by first | rfl | (simp; done) | (simp [*]; done)), H', ⟨by have := HJ9.out; have := HJ23.out; have := HJ50.out; have := HJ128.out; have := HK5.out; omega⟩, ⟨by apply_rules only [HO_58.out, Kd.R_alloc, Kd.R_drewN, Kd.R_drew]⟩, ⟨by apply_rules only [HO_66.out, Kd.R_alloc, Kd.R_drewN, Kd.R_drew]⟩, ⟨by apply_rules only [HO_472.out, Kd.S_alloc, Kd.S_drewN, Kd.S_drew]⟩, ⟨by apply_rules only [HB.out, below_alloc, pw_below_drewN, below_drew1]⟩⟩
                                  ·rw [if_neg c156] at H
                                   have c156b0 : (t172 == (wrap64 ((rd (rd_Ints t153 x474_5) 0) + (rd (rd_Ints t153 x474_5) 1)))) = false := beq_eq_false_iff_ne.mpr c156
                                   have c156b1 : (t172 != (wrap64 ((rd (rd_Ints t153 x474_5) 0) + (rd (rd_Ints t153 x474_5) 1)))) = true := bne_iff_ne.mpr c156
                                   exact absurd H (by simp)
                                 ·replace c155 := Bool.eq_false_iff.mpr c155
                                  subst c155
                                  rw [if_neg (show ¬ (false = true) by decide)] at H
                                  exact absurd H (by simp)
                                ·replace c154 := Bool.eq_false_iff.mpr c154
                                 subst c154
                                 rw [if_neg (show ¬ (false = true) by decide)] at H
                                 exact absurd H (by simp)
                              ·rw [if_neg c151] at H
                               exact absurd H (by simp)
                             ·replace c150 := Bool.eq_false_iff.mpr c150
                              subst c150
                              rw [if_neg (show ¬ (false = true) by decide)] at H
                              exact absurd H (by simp)
                            ·rw [if_neg c147] at H
                             exact absurd H (by simp)
                           ·rw [if_neg c146] at H
                            exact absurd H (by simp)
                          ·rw [if_neg c145] at H
                           exact absurd H (by simp)
                         ·rw [if_neg c144] at H
                          have c144b0 : decide (x474_5 < (t153.length : Int)) = false := decide_eq_false c144
                          clear c144
                          have H' := Aside0.mk H
                          clear H
                          go_wp2
                          go_loopg [528] k5 (fun kq v528 w' => ∃ (x528_6 : Int), v528 = .int .i64 x528_6 ∧ Aside0 (laws_FnGapsToldOfAll.l3 kq l3 a4 l5 a6 l7 a8 x68_5 t145 (t145.length : Int) x528_6 = some true) ∧ Aside0 (kq ≤ k5) ∧ Aside0 (Kd.R (Kd.int .i64) 3 w' w.heap.size (fun _ => True) (.slice Ao123 t145.length co123) t145) ∧ Aside0 (Below w.heap.size w w'))
                          case atStart => exact ⟨(0), (by first | rfl | (simp; done) | (simp [*]; done)), H', ⟨Nat.le_refl _⟩, ⟨by (with_reducible repeat (first | apply Kd.R_alloc | apply Kd.R_drewN | apply Kd.R_drew)); exact Kd.R_mono HO_58.out (fun _ hk => trivial)⟩, ⟨by apply_rules only [HB.out, below_alloc, pw_below_drewN, below_drew1]⟩⟩
                          case round =>
                           clear H'
                           (try clear c1); (try clear c15); (try clear c114); (try clear c114b0); (try clear c114b1); (try clear c114b2); (try clear c116); (try clear c117); (try clear c117b0); (try clear c117b1); (try clear c117b2); (try clear c127); (try clear c143); (try clear c144); (try clear c144b0)
                           obtain ⟨x528_6, rfl, HA, HK6, HO_526, HB⟩ := hrel
                           cases gk with
                           | zero => exact absurd HA.out (by simp [laws_FnGapsToldOfAll.l3])
                           | succ k6 =>
                            have H := HA.out
                            clear HA
                            simp only [laws_FnGapsToldOfAll.l3] at H
                            by_cases c160 : x528_6 < (t145.length : Int)
                            ·rw [if_pos c160] at H
                             have c160b0 : decide (x528_6 < (t145.length : Int)) = true := decide_eq_true c160
                             clear c160
                             by_cases c161 : 0 ≤ x528_6
                             ·rw [if_pos c161] at H
                              have c161b0 : decide (0 ≤ x528_6) = true := decide_eq_true c161
                              clear c161
                              by_cases c162 : x528_6 < (t145.length : Int)
                              ·rw [if_pos c162] at H
                               have c162b0 : decide (x528_6 < (t145.length : Int)) = true := decide_eq_true c162
                               clear c162
                               by_cases c163 : (rd t145 x528_6) > x68_5
                               ·rw [if_pos c163] at H
                                have c163b0 : decide (x68_5 < (rd t145 x528_6)) = true := decide_eq_true c163
                                clear c163
                                exact absurd H (by simp)
                               ·rw [if_neg c163] at H
                                have c163b0 : decide (x68_5 < (rd t145 x528_6)) = false := decide_eq_false c163
                                clear c163
                                have H' := Aside0.mk H
                                clear H
                                have p182 : 0 ≤ (x528_6 : Int) := of_decide_eq_true (by first | (with_reducible assumption) | assumption)
                                have q182 : x528_6 < (t145.length : Int) := of_decide_eq_true (by first | (with_reducible assumption) | assumption)
                                obtain ⟨ad182, e182, hx182_0⟩ := Kd.at_int (Kd.R_reads' HO_526.out).2.2 x528_6 p182 q182
                                cases e182
                                replace p182 := eq_true p182
                                replace q182 := eq_true q182
                                go_wp2
                                go_roundg k6
                                case measure => have := HJ9.out; have := HJ23.out; have := HJ50.out; have := HJ128.out; have := HK5.out; have := HK6.out; omega
                                case rel => exact ⟨(wrap64 (x528_6 + 1)), (by first | rfl | (simp; done) | (simp [*]; done)), H', ⟨by have := HJ9.out; have := HJ23.out; have := HJ50.out; have := HJ128.out; have := HK5.out; have := HK6.out; omega⟩, ⟨by apply_rules only [HO_526.out, Kd.R_alloc, Kd.R_drewN, Kd.R_drew]⟩, ⟨by apply_rules only [HB.out, below_alloc, pw_below_drewN, below_drew1]⟩⟩
                              ·rw [if_neg c162] at H
                               exact absurd H (by simp)
                             ·rw [if_neg c161] at H
                              exact absurd H (by simp)
                            ·rw [if_neg c160] at H
                             have c160b0 : decide (x528_6 < (t145.length : Int)) = false := decide_eq_false c160
                             clear c160
                             have H' := Aside0.mk H
                             clear H
                             go_wp2
                             go_meet
                             case rel => exact ⟨_, H', ⟨by have := HJ9.out; have := HJ23.out; have := HJ50.out; have := HJ128.out; have := HK5.out; have := HK6.out; first | omega | exact Nat.le_refl _⟩, ⟨by apply_rules only [HB.out, below_alloc, pw_below_drewN, below_drew1]⟩⟩
                  ·replace c127 := Bool.eq_false_iff.mpr c127
                   subst c127
                   rw [if_neg (show ¬ (false = true) by decide)] at H
                   have H' := Aside0.mk H
                   clear H
                   go_wp2
                   go_meet
                   case rel => exact ⟨_, H', ⟨by have := HJ9.out; have := HJ23.out; have := HJ50.out; first | omega | exact Nat.le_refl _⟩, ⟨by apply_rules only [HB.out, below_alloc, pw_below_drewN, below_drew1]⟩⟩
                case rest =>
                 as_aux_lemma =>
                  clear HC118
                  (try clear c1); (try clear c15); (try clear c114); (try clear c114b0); (try clear c114b1); (try clear c114b2); (try clear c116); (try clear c117); (try clear c117b0); (try clear c117b1); (try clear c117b2)
                  obtain ⟨kq, HA, HJ117, HB⟩ := hcut
                  cases kq with
                  | zero => exact absurd HA.out (by simp [laws_FnGapsToldOfAll.j11])
                  | succ kj117 =>
                   have H := HA.out
                   clear HA
                   simp only [laws_FnGapsToldOfAll.j11] at H
                   replace H := Option.bind_eq_some_iff.mp H
                   obtain ⟨⟨t183, t184⟩, A1640, H⟩ := H
                   (try dsimp only at H)
                   have A164 := Aside0.mk A1640
                   clear A1640
                   replace H := Option.bind_eq_some_iff.mp H
                   obtain ⟨⟨t185, t186⟩, A1650, H⟩ := H
                   (try dsimp only at H)
                   have A165 := Aside0.mk A1650
                   clear A1650
                   replace H := Option.bind_eq_some_iff.mp H
                   obtain ⟨⟨t187, t188⟩, A1660, H⟩ := H
                   (try dsimp only at H)
                   have A166 := Aside0.mk A1660
                   clear A1660
                   replace H := Option.bind_eq_some_iff.mp H
                   obtain ⟨⟨t189, t190⟩, A1670, H⟩ := H
                   (try dsimp only at H)
                   have A167 := Aside0.mk A1670
                   clear A1670
                   replace H := Option.bind_eq_some_iff.mp H
                   obtain ⟨⟨t191, t192⟩, A1680, H⟩ := H
                   (try dsimp only at H)
                   have A168 := Aside0.mk A1680
                   clear A1680
                   replace H := Option.bind_eq_some_iff.mp H
                   obtain ⟨⟨t193, t194⟩, A1690, H⟩ := H
                   (try dsimp only at H)
                   have A169 := Aside0.mk A1690
                   clear A1690
                   replace H := Option.bind_eq_some_iff.mp H
                   obtain ⟨⟨t195, t196⟩, A1700, H⟩ := H
                   (try dsimp only at H)
                   have A170 := Aside0.mk A1700
                   clear A1700
                   replace H := Option.bind_eq_some_iff.mp H
                   obtain ⟨⟨t197, t198⟩, A1710, H⟩ := H
                   (try dsimp only at H)
                   have A171 := Aside0.mk A1710
                   clear A1710
                   by_cases c172 : (t184 == t186) = true
                   ·rw [if_pos c172] at H
                    have c172b0 : (t184 == t186) = true := c172
                    (try (have c172b1 : decide (t184 = t186) = true := by simpa using c172))
                    (try (have c172b2 : (t184 == t186) = true := by simpa using c172))
                    clear c172
                    by_cases c173 : t183 = t185
                    ·rw [if_pos c173] at H
                     have c173b0 : (t183 == t185) = true := beq_iff_eq.mpr c173
                     have c173b1 : (t183 != t185) = false := bne_eq_false_iff_eq.mpr c173
                     clear c173
                     by_cases c174 : (t188 == t190) = true
                     ·rw [if_pos c174] at H
                      have c174b0 : (t188 == t190) = true := c174
                      (try (have c174b1 : decide (t188 = t190) = true := by simpa using c174))
                      (try (have c174b2 : (t188 == t190) = true := by simpa using c174))
                      clear c174
                      by_cases c175 : t187 = t189
                      ·rw [if_pos c175] at H
                       have c175b0 : (t187 == t189) = true := beq_iff_eq.mpr c175
                       have c175b1 : (t187 != t189) = false := bne_eq_false_iff_eq.mpr c175
                       clear c175
                       by_cases c176 : (t184 == t188) = true
                       ·rw [if_pos c176] at H
                        have c176b0 : (t184 == t188) = true := c176
                        (try (have c176b1 : decide (t184 = t188) = true := by simpa using c176))
                        (try (have c176b2 : (t184 == t188) = true := by simpa using c176))
                        clear c176
                        by_cases c177 : t183 ≥ t187
                        ·rw [if_pos c177] at H
                         have c177b0 : decide (t187 ≤ t183) = true := decide_eq_true c177
                         clear c177
                         by_cases c178 : (t192 == t194) = true
                         ·rw [if_pos c178] at H
                          have c178b0 : (t192 == t194) = true := c178
                          (try (have c178b1 : decide (t192 = t194) = true := by simpa using c178))
                          (try (have c178b2 : (t192 == t194) = true := by simpa using c178))
                          clear c178
                          by_cases c179 : t191 = t193
                          ·rw [if_pos c179] at H
                           have c179b0 : (t191 == t193) = true := beq_iff_eq.mpr c179
                           have c179b1 : (t191 != t193) = false := bne_eq_false_iff_eq.mpr c179
                           clear c179
                           by_cases c180 : (t196 == t198) = true
                           ·rw [if_pos c180] at H
                            have c180b0 : (t196 == t198) = true := c180
                            (try (have c180b1 : decide (t196 = t198) = true := by simpa using c180))
                            (try (have c180b2 : (t196 == t198) = true := by simpa using c180))
                            clear c180
                            have HV_ := Option.some.inj H
                            try subst HV_
                            go_wp2_with (first | ((with_reducible refine gate_callee (f := 41) rfl ?_); refine goesL_ (some 539) rfl rfl Try.func41 (by kernel_rfl) rfl #[.slice A3 l3.length c3, .int .i64 a4] rfl (by (try simp only [List.map_toArray, List.map_cons, List.map_nil]); first | done | rfl | (simp only [List.length_drop, List.length_take]; rfl)) ?_; (with_reducible refine (impl_MostInWindow.calls kj117 _ _ l3 a4 t183 t184 _ ?side1 ?side2 A164.out).mono ?_); (case side1 => repeat (first | exact (Kd.C_below HR3.out HB.out) | (with_reducible refine Kd.C_alloc ?_ _) | (with_reducible refine Kd.C_drewN ?_ _) | (with_reducible refine Kd.C_drew ?_))); (case side2 => exact HC3.out); rintro e w181 ⟨rfl, hb⟩; refine ⟨_, rfl, ?_⟩; have n0_ := Aside0.mk (below_step (by apply_rules only [HB.out, below_alloc, pw_below_drewN, below_drew1]) hb); clear HB; have HB := n0_; clear n0_; (try clear hb); (try clear hb2); (try clear hk); (try clear hi)) | ((with_reducible refine gate_callee (f := 50) rfl ?_); refine goesL_ (some 545) rfl rfl Try.func50 (by kernel_rfl) rfl #[.slice A3 l3.length c3, .int .i64 a4] rfl (by (try simp only [List.map_toArray, List.map_cons, List.map_nil]); first | done | rfl | (simp only [List.length_drop, List.length_take]; rfl)) ?_; (with_reducible refine (spec_MostInWindow.calls kj117 _ _ l3 a4 t185 t186 _ ?side1 ?side2 A165.out).mono ?_); (case side1 => repeat (first | exact (Kd.C_below HR3.out HB.out) | (with_reducible refine Kd.C_alloc ?_ _) | (with_reducible refine Kd.C_drewN ?_ _) | (with_reducible refine Kd.C_drew ?_))); (case side2 => exact HC3.out); rintro e w182 ⟨rfl, hb⟩; refine ⟨_, rfl, ?_⟩; have n0_ := Aside0.mk (below_step (by apply_rules only [HB.out, below_alloc, pw_below_drewN, below_drew1]) hb); clear HB; have HB := n0_; clear n0_; (try clear hb); (try clear hb2); (try clear hk); (try clear hi)) | ((with_reducible refine gate_callee (f := 40) rfl ?_); refine goesL_ (some 551) rfl rfl Try.func40 (by kernel_rfl) rfl #[.slice A3 l3.length c3, .int .i64 a4] rfl (by (try simp only [List.map_toArray, List.map_cons, List.map_nil]); first | done | rfl | (simp only [List.length_drop, List.length_take]; rfl)) ?_; (with_reducible refine (impl_LeastInWindow.calls kj117 _ _ l3 a4 t187 t188 _ ?side1 ?side2 A166.out).mono ?_); (case side1 => repeat (first | exact (Kd.C_below HR3.out HB.out) | (with_reducible refine Kd.C_alloc ?_ _) | (with_reducible refine Kd.C_drewN ?_ _) | (with_reducible refine Kd.C_drew ?_))); (case side2 => exact HC3.out); rintro e w183 ⟨rfl, hb⟩; refine ⟨_, rfl, ?_⟩; have n0_ := Aside0.mk (below_step (by apply_rules only [HB.out, below_alloc, pw_below_drewN, below_drew1]) hb); clear HB; have HB := n0_; clear n0_; (try clear hb); (try clear hb2); (try clear hk); (try clear hi)) | ((with_reducible refine gate_callee (f := 51) rfl ?_); refine goesL_ (some 557) rfl rfl Try.func51 (by kernel_rfl) rfl #[.slice A3 l3.length c3, .int .i64 a4] rfl (by (try simp only [List.map_toArray, List.map_cons, List.map_nil]); first | done | rfl | (simp only [List.length_drop, List.length_take]; rfl)) ?_; (with_reducible refine (spec_LeastInWindow.calls kj117 _ _ l3 a4 t189 t190 _ ?side1 ?side2 A167.out).mono ?_); (case side1 => repeat (first | exact (Kd.C_below HR3.out HB.out) | (with_reducible refine Kd.C_alloc ?_ _) | (with_reducible refine Kd.C_drewN ?_ _) | (with_reducible refine Kd.C_drew ?_))); (case side2 => exact HC3.out); rintro e w184 ⟨rfl, hb⟩; refine ⟨_, rfl, ?_⟩; have n0_ := Aside0.mk (below_step (by apply_rules only [HB.out, below_alloc, pw_below_drewN, below_drew1]) hb); clear HB; have HB := n0_; clear n0_; (try clear hb); (try clear hb2); (try clear hk); (try clear hi)) | ((with_reducible refine gate_callee (f := 42) rfl ?_); refine goesL_ (some 563) rfl rfl Try.func42 (by kernel_rfl) rfl #[.slice A5 l5.length c5, .int .i64 a6] rfl (by (try simp only [List.map_toArray, List.map_cons, List.map_nil]); first | done | rfl | (simp only [List.length_drop, List.length_take]; rfl)) ?_; (with_reducible refine (impl_PairsInPeriod.calls kj117 _ _ l5 a6 t191 t192 _ ?side1 ?side2 A168.out).mono ?_); (case side1 => repeat (first | exact (Kd.C_below HR5.out HB.out) | (with_reducible refine Kd.C_alloc ?_ _) | (with_reducible refine Kd.C_drewN ?_ _) | (with_reducible refine Kd.C_drew ?_))); (case side2 => exact HC5.out); rintro e w185 ⟨rfl, hb⟩; refine ⟨_, rfl, ?_⟩; have n0_ := Aside0.mk (below_step (by apply_rules only [HB.out, below_alloc, pw_below_drewN, below_drew1]) hb); clear HB; have HB := n0_; clear n0_; (try clear hb); (try clear hb2); (try clear hk); (try clear hi)) | ((with_reducible refine gate_callee (f := 52) rfl ?_); refine goesL_ (some 569) rfl rfl Try.func52 (by kernel_rfl) rfl #[.slice A5 l5.length c5, .int .i64 a6] rfl (by (try simp only [List.map_toArray, List.map_cons, List.map_nil]); first | done | rfl | (simp only [List.length_drop, List.length_take]; rfl)) ?_; (with_reducible refine (spec_PairsInPeriod.calls kj117 _ _ l5 a6 t193 t194 _ ?side1 ?side2 A169.out).mono ?_); (case side1 => repeat (first | exact (Kd.C_below HR5.out HB.out) | (with_reducible refine Kd.C_alloc ?_ _) | (with_reducible refine Kd.C_drewN ?_ _) | (with_reducible refine Kd.C_drew ?_))); (case side2 => exact HC5.out); rintro e w186 ⟨rfl, hb⟩; refine ⟨_, rfl, ?_⟩; have n0_ := Aside0.mk (below_step (by apply_rules only [HB.out, below_alloc, pw_below_drewN, below_drew1]) hb); clear HB; have HB := n0_; clear n0_; (try clear hb); (try clear hb2); (try clear hk); (try clear hi)) | ((with_reducible refine gate_callee (f := 38) rfl ?_); refine goesL_ (some 575) rfl rfl Try.func38 (by kernel_rfl) rfl #[.slice A7 l7.length c7, .int .i64 a8] rfl (by (try simp only [List.map_toArray, List.map_cons, List.map_nil]); first | done | rfl | (simp only [List.length_drop, List.length_take]; rfl)) ?_; (with_reducible refine (impl_CountGaps.calls kj117 _ _ l7 a8 t195 t196 _ ?side1 ?side2 A170.out).mono ?_); (case side1 => repeat (first | exact (Kd.C_below HR7.out HB.out) | (with_reducible refine Kd.C_alloc ?_ _) | (with_reducible refine Kd.C_drewN ?_ _) | (with_reducible refine Kd.C_drew ?_))); (case side2 => exact HC7.out); rintro e w187 ⟨rfl, hb⟩; refine ⟨_, rfl, ?_⟩; have n0_ := Aside0.mk (below_step (by apply_rules only [HB.out, below_alloc, pw_below_drewN, below_drew1]) hb); clear HB; have HB := n0_; clear n0_; (try clear hb); (try clear hb2); (try clear hk); (try clear hi)) | ((with_reducible refine gate_callee (f := 53) rfl ?_); refine goesL_ (some 581) rfl rfl Try.func53 (by kernel_rfl) rfl #[.slice A7 l7.length c7, .int .i64 a8] rfl (by (try simp only [List.map_toArray, List.map_cons, List.map_nil]); first | done | rfl | (simp only [List.length_drop, List.length_take]; rfl)) ?_; (with_reducible refine (spec_CountGaps.calls kj117 _ _ l7 a8 t197 t198 _ ?side1 ?side2 A171.out).mono ?_); (case side1 => repeat (first | exact (Kd.C_below HR7.out HB.out) | (with_reducible refine Kd.C_alloc ?_ _) | (with_reducible refine Kd.C_drewN ?_ _) | (with_reducible refine Kd.C_drew ?_))); (case side2 => exact HC7.out); rintro e w188 ⟨rfl, hb⟩; refine ⟨_, rfl, ?_⟩; have n0_ := Aside0.mk (below_step (by apply_rules only [HB.out, below_alloc, pw_below_drewN, below_drew1]) hb); clear HB; have HB := n0_; clear n0_; (try clear hb); (try clear hb2); (try clear hk); (try clear hi)))
                            go_ret
                            exact ⟨by first | rfl | (simp [errW_none, errW_some] <;> rfl) | (simp [*, errW_none, errW_some] <;> rfl), by apply_rules only [HB.out, below_alloc, pw_below_drewN, below_drew1]⟩
                           ·rw [if_neg c180] at H
                            have c180b0 : (t196 == t198) = false := by simpa using c180
                            (try (have c180b1 : decide (t196 = t198) = false := by simpa using c180))
                            (try (have c180b2 : (t196 == t198) = false := by simpa using c180))
                            (try (have c180b3 : ¬ (t196 = t198) := by simpa using c180))
                            clear c180
                            exact absurd H (by simp)
                          ·rw [if_neg c179] at H
                           have c179b0 : (t191 == t193) = false := beq_eq_false_iff_ne.mpr c179
                           have c179b1 : (t191 != t193) = true := bne_iff_ne.mpr c179
                           exact absurd H (by simp)
                         ·rw [if_neg c178] at H
                          have c178b0 : (t192 == t194) = false := by simpa using c178
                          (try (have c178b1 : decide (t192 = t194) = false := by simpa using c178))
                          (try (have c178b2 : (t192 == t194) = false := by simpa using c178))
                          (try (have c178b3 : ¬ (t192 = t194) := by simpa using c178))
                          clear c178
                          exact absurd H (by simp)
                        ·rw [if_neg c177] at H
                         have c177b0 : decide (t187 ≤ t183) = false := decide_eq_false c177
                         clear c177
                         exact absurd H (by simp)
                       ·rw [if_neg c176] at H
                        have c176b0 : (t184 == t188) = false := by simpa using c176
                        (try (have c176b1 : decide (t184 = t188) = false := by simpa using c176))
                        (try (have c176b2 : (t184 == t188) = false := by simpa using c176))
                        (try (have c176b3 : ¬ (t184 = t188) := by simpa using c176))
                        clear c176
                        exact absurd H (by simp)
                      ·rw [if_neg c175] at H
                       have c175b0 : (t187 == t189) = false := beq_eq_false_iff_ne.mpr c175
                       have c175b1 : (t187 != t189) = true := bne_iff_ne.mpr c175
                       exact absurd H (by simp)
                     ·rw [if_neg c174] at H
                      have c174b0 : (t188 == t190) = false := by simpa using c174
                      (try (have c174b1 : decide (t188 = t190) = false := by simpa using c174))
                      (try (have c174b2 : (t188 == t190) = false := by simpa using c174))
                      (try (have c174b3 : ¬ (t188 = t190) := by simpa using c174))
                      clear c174
                      exact absurd H (by simp)
                    ·rw [if_neg c173] at H
                     have c173b0 : (t183 == t185) = false := beq_eq_false_iff_ne.mpr c173
                     have c173b1 : (t183 != t185) = true := bne_iff_ne.mpr c173
                     exact absurd H (by simp)
                   ·rw [if_neg c172] at H
                    have c172b0 : (t184 == t186) = false := by simpa using c172
                    (try (have c172b1 : decide (t184 = t186) = false := by simpa using c172))
                    (try (have c172b2 : (t184 == t186) = false := by simpa using c172))
                    (try (have c172b3 : ¬ (t184 = t186) := by simpa using c172))
                    clear c172
                    exact absurd H (by simp)
              ·replace c116 := Bool.eq_false_iff.mpr c116
               subst c116
               rw [if_neg (show ¬ (false = true) by decide)] at H
               exact absurd H (by simp)
            ·replace c113 := Bool.eq_false_iff.mpr c113
             subst c113
             rw [if_neg (show ¬ (false = true) by decide)] at H
             exact absurd H (by simp)
def laws_FnGapsToldOfAll.Pure : Prop := ∀ (l0 : List (SRule)) (l1 : List (SRule)) (a2 : Int) (l3 : List (SRule)) (a4 : Int) (l5 : List (SRule)) (a6 : Int) (l7 : List (SRule)) (a8 : Int), l0.length ≤ 9223372036854775807 → l1.length ≤ 9223372036854775807 → (Lit.int .i64 a2).wf = true → l3.length ≤ 9223372036854775807 → (Lit.int .i64 a4).wf = true → l5.length ≤ 9223372036854775807 → (Lit.int .i64 a6).wf = true → l7.length ≤ 9223372036854775807 → (Lit.int .i64 a8).wf = true → ∃ k, laws_FnGapsToldOfAll.f k l0 l1 a2 l3 a4 l5 a6 l7 a8 = some true
end Go.Proofs.Ytphlfkeamhpimaa.P
namespace Go.Proofs.Ytphlfkeamhpimaa.P
open Go.RowKit Go.Proofs.YtphlfkeamhpimaaW.PrintWords Go.Proofs.YtphlfkeamhpimaaW.PrintLast Go.Proofs.YtphlfkeamhpimaaW.PrintMore
attribute [local go_sem] max2_int min2_int max_two min_two max_three min_three max_four min_four
set_option linter.unusedVariables false
set_option linter.unusedSimpArgs false
set_option maxHeartbeats 8000000 in
set_option maxRecDepth 100000 in
theorem ixfS_calls (p : List SRule → Bool) (g : Nat) (lb : Array Value) (eg : ∀ args w, (callFunc g args).run Try.prog w = .ok (.enter g args) w)
    (A0 : Option Addr) (c0 : Nat) (zs : List (List Value × List SRule)) (w : World) (hp : ∀ (W : World) (z : List Value × List SRule), z ∈ zs → Below w.heap.size w W → ∃ A' c', z.1 = [.slice A' z.2.length c'] ∧ Calls Try.prog g (#[.slice A' z.2.length c'] ++ lb) W fun e w' => e = .returned (.bool (p z.2)) ∧ Below w.heap.size w w') (hr0 : Kd.C (kRaw (List SRule)) w A0 zs.length zs) :
    Calls Try.prog 98 #[.slice A0 zs.length c0, .func (.func g) #[] lb] w fun e w' => e = .returned (.int .i64 (fIx (fun z : List Value × List SRule => p z.2) zs 0)) ∧ Below w.heap.size w w' := by
  have hm : zs.length ≤ 9223372036854775807 := Kd.C_max hr0
  have HR0 := Aside0.mk hr0
  have HP := Aside0.mk hp
  clear hr0 hp
  have HB := Aside0.mk (Below.refl w.heap.size w)
  have H0 := Aside0.mk (show fIx (fun z : List Value × List SRule => p z.2) zs 0 = fIx (fun z : List Value × List SRule => p z.2) (zs.drop 0) ((0 : Nat) : Int) from rfl)
  go_enter Try.func98, Try.ntmps98
  go_wp2
  go_loopg [5, 8] zs.length (fun gg _ s8 wr => ∃ kk : Nat, kk ≤ zs.length ∧ zs.length - kk ≤ gg ∧ s8 = .int .i64 kk ∧ Aside0 (Below w.heap.size w wr) ∧ Aside0 (fIx (fun z : List Value × List SRule => p z.2) zs 0 = fIx (fun z : List Value × List SRule => p z.2) (zs.drop kk) kk))
  case atStart => exact ⟨0, Nat.zero_le _, by omega, rfl, HB, H0⟩
  case round =>
    clear HB H0
    obtain ⟨kk, hkk, hg, rfl, HB, HI⟩ := hrel
    by_cases hlt : kk < zs.length
    · have hltz : (kk : Int) < (zs.length : Int) := by omega
      obtain ⟨z, hz⟩ : ∃ z, zs[kk]? = some z := ⟨zs[kk], List.getElem?_eq_getElem hlt⟩
      have hdz : zs.drop kk = z :: zs.drop (kk + 1) := by
        rw [List.drop_eq_getElem_cons hlt]
        rw [List.getElem?_eq_getElem hlt] at hz
        injection hz with hz
        rw [hz]
      obtain ⟨A', c', ez, hcall⟩ := HP.out wr z (List.mem_of_getElem? hz) HB.out
      obtain ⟨ad, ce, e_, hcl, hK, hcc⟩ := Kd.C_get HR0.out z (kk : Int) (by omega) hltz
      have ey : zs.getD (kk : Int).toNat z = z := by simp [List.getD, hz]
      rw [ey] at hK
      obtain ⟨rfl, -, -⟩ := hK
      subst e_
      have hx0 : w.cell? (ad.add ((kk : Int).toNat * 1 + 0)) = some (.slice A' z.2.length c') := hcc 0 _ (by rw [ez]; rfl)
      simp only [Int.toNat_natCast, Nat.mul_one, Nat.add_zero] at hx0
      replace hx0 := (HB.out.cell (World.block_lt_of_cell? w _ hx0)).trans hx0
      have HDZ := Aside0.mk hdz
      clear hcl hcc hz ez ey hdz
      cases hq : p z.2 with
      | true =>
        rw [hq] at hcall
        have HQ := Aside0.mk hq
        clear hq
        go_wp2_with (go_at_fn g; refine hcall.mono ?_; rintro e w' ⟨rfl, hb'⟩)
        go_ret
        exact ⟨by rw [HI.out, HDZ.out, fIx, if_pos HQ.out]; rfl, hb'⟩
      | false =>
        rw [hq] at hcall
        have HQ := Aside0.mk hq
        clear hq
        go_wp2_with (go_at_fn g; refine hcall.mono ?_; rintro e w' ⟨rfl, hb'⟩)
        go_roundg (zs.length - (kk + 1))
        case measure => omega
        case rel => exact ⟨kk + 1, by omega, by omega, by go_num, ⟨hb'⟩, ⟨by rw [HI.out, HDZ.out, fIx, if_neg (by rw [HQ.out]; decide)]; rfl⟩⟩
    · have hltz : ¬ (kk : Int) < (zs.length : Int) := by omega
      have HDZ := Aside0.mk (List.drop_eq_nil_of_le (by omega : zs.length ≤ kk))
      go_wp2
      go_ret
      exact ⟨by rw [HI.out, HDZ.out]; rfl, HB.out⟩
end Go.Proofs.Ytphlfkeamhpimaa.P
namespace Go.Proofs.Ytphlfkeamhpimaa.P
open Go.RowKit Go.Proofs.YtphlfkeamhpimaaW.PrintWords Go.Proofs.YtphlfkeamhpimaaW.PrintLast Go.Proofs.YtphlfkeamhpimaaW.PrintMore
attribute [local go_sem] max2_int min2_int max_two min_two max_three min_three max_four min_four
set_option linter.unusedVariables false
set_option linter.unusedSimpArgs false
theorem infoS_RuleD : (Try.prog.info? 30).map (fun i => (i.zero, i.size, i.bytes)) = some (some (.slice none 0 0), 1, 24) := by kernel_rfl
set_option maxHeartbeats 8000000 in
set_option maxRecDepth 100000 in
theorem delS_calls (p : List SRule → Bool) (g : Nat) (lb : Array Value) (eg : ∀ args w, (callFunc g args).run Try.prog w = .ok (.enter g args) w)
    (A : Option Addr) (c base : Nat) (ok : Nat → Prop) (xs : List (List SRule)) (w : World) (hbase : base ≤ w.heap.size) (hS : Kd.S (Kd.slice 41 kRule) 30 w base ok (.slice A xs.length c) xs)
    (hp : ∀ (W : World) (x : List SRule) (A' : Option Addr) (c' : Nat), x ∈ xs → w.grownBy W (Value.slice A xs.length c).ownBlock → Kd.C kRule W A' x.length x → x.length ≤ c' → Calls Try.prog g (#[.slice A' x.length c'] ++ lb) W fun e w' => e = .returned (.bool (p x)) ∧ Below W.heap.size W w') :
    Calls Try.prog 84 #[.slice A xs.length c, .func (.func g) #[] lb] w fun e w' => e = .returned (.slice A (xs.filter fun x => !p x).length c) ∧ Kd.S (Kd.slice 41 kRule) 30 w' base ok (.slice A (xs.filter fun x => !p x).length c) (xs.filter fun x => !p x) ∧ w.grownBy w' (Value.slice A xs.length c).ownBlock := by
  obtain ⟨f, zs, hzx, hR, hM⟩ := raw_of_S hS rfl
  have hzl : zs.length = xs.length := by rw [← hzx, List.length_map]
  have hfl : (xs.filter fun x => !p x) = (zs.filter fun z => !p z.2).map Prod.snd := by rw [← hzx, List.filter_map]; rfl
  have hel : ∀ (W : World), w.grownBy W (Value.slice A xs.length c).ownBlock → ∀ z ∈ zs, ∃ A' c', z.1 = [.slice A' z.2.length c'] ∧ Calls Try.prog g (#[.slice A' z.2.length c'] ++ lb) W fun e w' => e = .returned (.bool (p z.2)) ∧ Below W.heap.size W w' := by
    intro W hg z hz
    obtain ⟨m, hm⟩ := List.getElem?_of_mem hz
    obtain ⟨v, hv, hRv⟩ := Kd.M_grown (hM m z hm) hg (fun _ hk => hk.2)
    obtain ⟨A', c', rfl⟩ := Kd.R_slice hRv
    exact ⟨A', c', hv, hp W z.2 A' c' (by rw [← hzx]; exact List.mem_map_of_mem hz) hg (Kd.R_reads' hRv).2.2 (Kd.R_reads' hRv).2.1⟩
  have hIX := ixfS_calls p g lb eg A c zs w (fun W z hz hb => by
    obtain ⟨A', c', e1, h1⟩ := hel W (grown_of_below hb _) z hz
    exact ⟨A', c', e1, h1.mono fun e w' ⟨he, hb2⟩ => ⟨he, below_step hb hb2⟩⟩) (by rw [hzl]; have h_ := (Kd.R_reads' hR).2.2; rwa [hzl] at h_)
  rw [hzl] at hIX
  rw [hfl, List.length_map]
  rcases fIx_spec (fun z : List Value × List SRule => p z.2) zs 0 with ⟨e1, e2⟩ | ⟨k0, hk0, e1, e2⟩
  · rw [e1] at hIX
    have e3 : (zs.filter fun z => !p z.2) = zs := e2
    rw [e3, hzl, hzx]
    have HX := Aside0.mk hIX
    have HS := Aside0.mk hS
    clear hIX hS hR hM hp hel e1 e2 e3 hfl hzx hzl
    go_enter Try.func84, Try.ntmps84
    go_wp2_with (go_at_call 98; refine HX.out.mono ?_; rintro e w1 ⟨rfl, hb⟩; have HB := Aside0.mk hb; clear hb)
    go_ret
    exact ⟨rfl, Kd.S_below HS.out HB.out, grown_of_below HB.out _⟩
  · rw [e1] at hIX
    obtain ⟨G, c', eG, hGb, hGl, -⟩ := Kd.S_form hS (by omega)
    obtain ⟨rfl, -, rfl⟩ := Value.slice.inj eG
    clear eG
    have HX := Aside0.mk hIX
    have HR0 := Aside0.mk hR
    have HM0 := Aside0.mk hM
    have HEL := Aside0.mk hel
    have HGB := Aside0.mk hGb
    have HK0 := Aside0.mk hk0
    have HE2 := Aside0.mk (show (zs.take (k0 + 1)).filter (fun z => !p z.2) = zs.take k0 from e2)
    have HZL := Aside0.mk hzl
    have hm : xs.length ≤ 9223372036854775807 := by have h_ := Kd.C_max (Kd.R_reads' hR).2.2; omega
    have hne : (((0 : Int) + (k0 : Int)) == -1) = false := beq_eq_false_iff_ne.2 (by omega)
    have hkx : k0 < xs.length := by omega
    clear hIX hS hR hM hp hel hGb e1 e2 hGl hfl hzx hzl
    go_enter Try.func84, Try.ntmps84
    go_wp2_with (go_at_call 98; refine HX.out.mono ?_; rintro e w1 ⟨rfl, hb⟩; have HB := Aside0.mk hb; clear hb)
    go_loopg [5, 6] xs.length (fun gg v5 v6 wx => ∃ (i j : Nat) (ys : List (List Value × List SRule)), v5 = .int .i64 i ∧ v6 = .int .i64 j ∧ j ≤ xs.length ∧ xs.length - j ≤ gg ∧ Aside0 (KI (fun z : List Value × List SRule => !p z.2) zs ys i j) ∧ Aside0 (Kd.R (kRaw (List SRule)) 30 wx base ok (.slice (some ⟨G, 0, none⟩) xs.length c) ys) ∧ Aside0 (w.grownBy wx (some G)))
    case atStart => exact ⟨k0, k0 + 1, zs, by go_num, by first | rfl | go_num, by have h1_ := HK0.out; have h2_ := HZL.out; omega, by omega, ⟨KI.start HK0.out HE2.out⟩, ⟨Kd.R_below HR0.out HB.out⟩, ⟨grown_of_below HB.out _⟩⟩
    case round =>
      obtain ⟨i, j, ys, rfl, rfl, hj, hgg, HK, HR, HG⟩ := hrel
      have hyl : ys.length = xs.length := HK.out.len.trans HZL.out
      by_cases hlt : j < xs.length
      · have hltz : (j : Int) < (xs.length : Int) := by omega
        have hjz : j < zs.length := by rw [HZL.out]; exact hlt
        obtain ⟨z, hxj⟩ : ∃ z, zs[j]? = some z := ⟨zs[j], List.getElem?_eq_getElem hjz⟩
        have hyj : ys[j]? = some z := HK.out.read.trans hxj
        have HXJ := Aside0.mk hxj
        obtain ⟨A', c', ez, -⟩ := HEL.out wr HG.out z (List.mem_of_getElem? hxj)
        obtain ⟨ce, hcl, hMj, hcc, -⟩ := Kd.R_elem HR.out z (j : Int) (by omega) hltz
        have ey : ys.getD (j : Int).toNat z = z := by simp [List.getD, hyj]
        rw [ey] at hMj
        obtain ⟨rfl, -, -⟩ := hMj
        have hx0 : wr.cell? ⟨G, (j : Int).toNat * 1, none⟩ = some (.slice A' z.2.length c') := hcc 0 _ (by rw [ez]; rfl)
        simp only [Int.toNat_natCast, Nat.mul_one] at hx0
        have HEZ := Aside0.mk ez
        clear hcl hcc hxj hjz hyj ez ey
        have hil : (i : Int) < (xs.length : Int) := by have := HK.out.lt; omega
        have hij : i < xs.length := by omega
        have HPZ := Aside0.mk (show ∀ W, w.grownBy W (some G) → Calls Try.prog g (#[.slice A' z.2.length c'] ++ lb) W fun e w' => e = .returned (.bool (p z.2)) ∧ Below W.heap.size W w' from fun W hg' => by
          obtain ⟨A2, c2, e2, h2⟩ := HEL.out W hg' z (List.mem_of_getElem? HXJ.out)
          rw [HEZ.out] at e2
          simp only [List.cons.injEq, Value.slice.injEq, and_true, true_and] at e2
          obtain ⟨rfl, rfl⟩ := e2
          exact h2)
        cases hq : p z.2 with
        | false =>
          have HPX := Aside0.mk (show ∀ W, w.grownBy W (some G) → Calls Try.prog g (#[.slice A' z.2.length c'] ++ lb) W fun e w' => e = .returned (.bool false) ∧ Below W.heap.size W w' from fun W hg' => by have h_ := HPZ.out W hg'; rw [hq] at h_; exact h_)
          have HQ := Aside0.mk hq
          clear hq
          go_wp2_with (go_at_fn g; refine (HPX.out _ HG.out).mono ?_; rintro e w30 ⟨rfl, hb⟩; have HB3 := Aside0.mk hb; have HR3 := Aside0.mk (Kd.R_below HR.out hb); obtain ⟨ci, hcl, hMi, hcc, hfr⟩ := Kd.R_elem HR3.out z (i : Int) (by omega) hil; obtain ⟨ui, rfl⟩ : ∃ u_, ci = [u_] := by { rcases ci with _ | ⟨u_, _ | ⟨_, _⟩⟩ <;> simp [kRaw, Kd.iso, Kd.raw] at hcl; exact ⟨u_, rfl⟩ }; have hy0 : w30.cell? ⟨G, (i : Int).toNat * 1, none⟩ = some ui := hcc 0 _ rfl; have hz0 : w30.frozen? ⟨G, (i : Int).toNat * 1, none⟩ = false := hfr 0; have HSG := Aside0.mk (Kd.R_seg HR3.out (i : Int) (by omega) hil (seg := [.slice A' z.2.length c']) (j := 0) hcl hcc (show 1 ≤ 1 from by decide) (x' := z) (okp := fun _ => False) (by show (kRaw (List SRule)).M _ _ _ z _; exact ⟨HEZ.out.symm, rfl, fun u hu => by simp at hu; subst hu; rfl⟩) (fun _ hk => hk.elim)); simp only [Int.toNat_natCast, Nat.mul_one] at hy0 hz0; clear hcl hMi hcc hfr hb)
          go_roundg (xs.length - (j + 1))
          case measure => omega
          case rel => exact ⟨i + 1, j + 1, ys.set i z, by go_num, by go_num, by omega, Nat.le_refl _, ⟨KI.keep HK.out (by rw [HZL.out]; exact hlt) HXJ.out (by rw [HQ.out]; rfl)⟩, ⟨by have h_ := HSG.out.1; simpa [World.setCells, show (kRaw (List SRule)).sz = 1 from rfl] using h_⟩, ⟨by have h_ := grown_trans (grown_trans HG.out (grown_of_below HB3.out (some G)) (.inl rfl)) HSG.out.2 (.inl rfl); simpa [World.setCells, show (kRaw (List SRule)).sz = 1 from rfl] using h_⟩⟩
        | true =>
          have HPX := Aside0.mk (show ∀ W, w.grownBy W (some G) → Calls Try.prog g (#[.slice A' z.2.length c'] ++ lb) W fun e w' => e = .returned (.bool true) ∧ Below W.heap.size W w' from fun W hg' => by have h_ := HPZ.out W hg'; rw [hq] at h_; exact h_)
          have HQ := Aside0.mk hq
          clear hq
          go_wp2_with (go_at_fn g; refine (HPX.out _ HG.out).mono ?_; rintro e w30 ⟨rfl, hb⟩; have HB3 := Aside0.mk hb; have HR3 := Aside0.mk (Kd.R_below HR.out hb); clear hb)
          go_roundg (xs.length - (j + 1))
          case measure => omega
          case rel => exact ⟨i, j + 1, ys, rfl, by go_num, by omega, Nat.le_refl _, ⟨KI.skip HK.out (by rw [HZL.out]; exact hlt) HXJ.out (by rw [HQ.out]; rfl)⟩, HR3, ⟨grown_trans HG.out (grown_of_below HB3.out (some G)) (.inl rfl)⟩⟩
      · obtain rfl : j = xs.length := by omega
        have hltz : ¬ (xs.length : Int) < (xs.length : Int) := by omega
        have hil : (i : Int) < (xs.length : Int) := by have := HK.out.lt; omega
        have hnc : xs.length ≤ c := (Kd.R_reads' HR0.out).2.1
        obtain ⟨i0_, hi0_, _, hsz_, _⟩ := info_parts infoS_RuleD
        have hcut : ∀ W : World, (Instr.slice 57 (.slice (some ⟨G, 0, none⟩) xs.length c) (some (.int .i64 (i : Int))) none none).run Try.prog W = .ok (.slice (some ⟨G, i, none⟩) (xs.length - i) (c - i)) W := by
          intro W
          have h := cut_from (P := Try.prog) 57 30 .i64 Try.underlying57 hi0_ 1 hsz_ (some ⟨G, 0, none⟩) xs.length c (i : Int) (by omega) (by omega) W
          rw [h, if_neg (by omega)]
          simp only [Int.toNat_natCast, Option.map_some, add_off, Nat.zero_add, Nat.mul_one]
        have hcut2 : ∀ W : World, (Instr.slice 57 (.slice (some ⟨G, 0, none⟩) xs.length c) none (some (.int .i64 (i : Int))) none).run Try.prog W = .ok (.slice (some ⟨G, 0, none⟩) i c) W := by
          intro W
          have h := cut_to (P := Try.prog) 57 30 .i64 Try.underlying57 hi0_ (some ⟨G, 0, none⟩) xs.length c (i : Int) (by omega) (by omega) hnc W
          rw [h, Int.toNat_natCast]
        have hclr : ∀ ty, (Builtin.clear_ #[57] ty #[.slice (some ⟨G, i, none⟩) (xs.length - i) (c - i)]).run Try.prog wr = .ok (.tuple #[]) (wr.setCells G i (Builtin.zeroCells (Value.slice none 0 0).cells (xs.length - i)).toList) := fun ty =>
          clear_cells (n := xs.length - i) wr 57 30 ty (.slice none 0 0) Try.underlying57 (zero_run infoS_RuleD) (by
            intro u hu
            simp [Builtin.zeroCells, Value.cells] at hu
            obtain ⟨k_, hk_, rfl⟩ := hu
            simp [Nat.mod_one]; rfl) G i (c - i) (by omega) (by decide)
            (fun j_ hj_ => (R_cells HR.out (i + j_) (by rw [hyl]; show i + j_ < xs.length * 1; have hj2_ : j_ < (xs.length - i) * 1 := hj_; omega)).1)
            (fun j_ hj_ => (R_cells HR.out (i + j_) (by rw [hyl]; show i + j_ < xs.length * 1; have hj2_ : j_ < (xs.length - i) * 1 := hj_; omega)).2)
        obtain ⟨zs_, hzs_⟩ : ∃ z_, z_ = (Builtin.zeroCells (Value.slice none 0 0).cells (xs.length - i)).toList := ⟨_, rfl⟩
        rw [← hzs_] at hclr
        have HYL := Aside0.mk hyl
        clear hzs_ hi0_ hsz_ hyl
        go_wp2
        go_ret
        have hK := HK.out
        rw [← HZL.out] at hK
        have hd := KI.done hK
        have hit : i ≤ ys.length := by have := HYL.out; omega
        have hR2 := R_clear (Kd.R_take HR.out hit) i zs_ (by rw [List.length_take, Nat.min_eq_left hit]; show i * 1 ≤ i; omega)
        rw [hd.1] at hR2
        rw [← hd.2]
        have hgf := grown_trans HG.out (grown_setCells wr G i zs_) (.inl rfl)
        exact ⟨rfl, S_of_raw rfl (fun z : List Value × List SRule => !p z.2) (fun m z hm => Kd.M_grown (HM0.out m z hm) hgf (fun _ hk => hk.2)) (fun k hk => hk) hR2, hgf⟩
end Go.Proofs.Ytphlfkeamhpimaa.P
namespace Go.Proofs.Ytphlfkeamhpimaa.P
open Go.RowKit Go.Proofs.YtphlfkeamhpimaaW.PrintWords Go.Proofs.YtphlfkeamhpimaaW.PrintLast Go.Proofs.YtphlfkeamhpimaaW.PrintMore
attribute [local go_sem] max2_int min2_int max_two min_two max_three min_three max_four min_four
set_option linter.unusedVariables false
set_option linter.unusedSimpArgs false
def okC (ps : List Int) : Bool := decide (ps.length ≤ 5) && ps.all (fun p => decide (0 ≤ p) && decide (p ≤ 13))
def extL (L : List (List SRule)) (p : Int) : List (List SRule) := L.flatMap fun r => (List.range p.toNat).map fun (i : Nat) => r ++ [(⟨p, (i : Int)⟩ : SRule)]
def covL (ps : List Int) : List (List SRule) := ps.foldl extL [[]]
def impl_coversOf.f (k : Nat) (l0 : List Int) (a1 : Int) : Option (List (List SRule)) := if okC l0 = true ∧ (covL l0).all (fun r => (impl_leftBetween.f k r 1 a1).isSome) = true then some ((covL l0).filter fun r => !decide (0 < ((impl_leftBetween.f k r 1 a1).getD []).length)) else none
theorem extL_length (L : List (List SRule)) (p : Int) : (extL L p).length = L.length * p.toNat := by
  unfold extL
  induction L with
  | nil => simp
  | cons x t ih => rw [List.flatMap_cons, List.length_append, ih, List.length_map, List.length_range, List.length_cons, Nat.succ_mul, Nat.add_comm]
theorem covL_succ (ps : List Int) (a : Nat) (h : a < ps.length) : covL (ps.take (a + 1)) = extL (covL (ps.take a)) (rd ps a) := by
  have e : ps.take (a + 1) = ps.take a ++ [rd ps a] := by
    rw [List.take_succ_eq_append_getElem h]
    simp [rd, List.getD, h]
  unfold covL
  rw [e, List.foldl_append]; rfl
theorem okC_rd {ps : List Int} (h : okC ps = true) (a : Nat) (ha : a < ps.length) : 0 ≤ rd ps a ∧ rd ps a ≤ 13 := by
  unfold okC at h
  simp only [Bool.and_eq_true, List.all_eq_true, decide_eq_true_eq] at h
  have := h.2 (rd ps a) (by simp [rd, List.getD, ha])
  exact this
theorem okC_len {ps : List Int} (h : okC ps = true) : ps.length ≤ 5 := by
  unfold okC at h
  simp only [Bool.and_eq_true, decide_eq_true_eq] at h
  exact h.1
theorem covL_length {ps : List Int} (h : okC ps = true) : ∀ a : Nat, a ≤ ps.length → (covL (ps.take a)).length ≤ 13 ^ a
  | 0, _ => by simp [covL]
  | a + 1, ha => by
    have ih := covL_length h a (by omega)
    have hr := okC_rd h a (by omega)
    rw [covL_succ ps a (by omega), extL_length, Nat.pow_succ]
    exact Nat.mul_le_mul ih (by omega)
theorem covL_small {ps : List Int} (h : okC ps = true) (a : Nat) (ha : a ≤ ps.length) : (covL (ps.take a)).length ≤ 371293 :=
  Nat.le_trans (covL_length h a ha) (Nat.le_trans (Nat.pow_le_pow_right (by decide) (Nat.le_trans ha (okC_len h))) (by decide))
theorem extL_mem {L : List (List SRule)} {p : Int} {x : List SRule} (h : x ∈ extL L p) : ∃ r ∈ L, ∃ i : Nat, i < p.toNat ∧ x = r ++ [⟨p, (i : Int)⟩] := by
  unfold extL at h
  obtain ⟨r, hr, hx⟩ := List.mem_flatMap.1 h
  obtain ⟨i, hi, rfl⟩ := List.mem_map.1 hx
  exact ⟨r, hr, i, List.mem_range.1 hi, rfl⟩
theorem covL_row {ps : List Int} : ∀ a : Nat, a ≤ ps.length → ∀ r ∈ covL (ps.take a), r.length = a
  | 0, _, r, h => by simp [covL] at h; subst h; rfl
  | a + 1, ha, r, h => by
    rw [covL_succ ps a (by omega)] at h
    obtain ⟨r', hr, i, hi, rfl⟩ := extL_mem h
    rw [List.length_append, covL_row a (by omega) r' hr]; rfl
def nextAt (L : List (List SRule)) (p : Int) (b c : Nat) : List (List SRule) := extL (L.take b) p ++ (List.range c).map (fun (i : Nat) => rd_Rules L b ++ [(⟨p, (i : Int)⟩ : SRule)])
theorem nextAt_zero (L : List (List SRule)) (p : Int) (b : Nat) : nextAt L p b 0 = extL (L.take b) p := by simp [nextAt]
theorem nextAt_start (L : List (List SRule)) (p : Int) : nextAt L p 0 0 = [] := by simp [nextAt, extL]
theorem nextAt_succ (L : List (List SRule)) (p : Int) (b c : Nat) : nextAt L p b c ++ [rd_Rules L b ++ [(⟨p, (c : Int)⟩ : SRule)]] = nextAt L p b (c + 1) := by
  unfold nextAt
  rw [List.range_succ, List.map_append, List.append_assoc]; rfl
theorem nextAt_full (L : List (List SRule)) (p : Int) (b : Nat) (h : b < L.length) : nextAt L p b p.toNat = nextAt L p (b + 1) 0 := by
  rw [nextAt_zero]
  unfold nextAt extL
  have e : L.take (b + 1) = L.take b ++ [rd_Rules L b] := by
    rw [List.take_succ_eq_append_getElem h]
    simp [rd_Rules, List.getD, h]
  rw [e, List.flatMap_append]
  simp
theorem nextAt_length (L : List (List SRule)) (p : Int) (hp : p ≤ 13) (b c : Nat) (hc : c ≤ p.toNat) (hL : L.length ≤ 371293) : (nextAt L p b c).length ≤ 10000000 := by
  unfold nextAt
  rw [List.length_append, extL_length, List.length_map, List.length_range, List.length_take]
  have h1 : min b L.length * p.toNat ≤ 371293 * 13 := Nat.mul_le_mul (by omega) (by omega)
  omega
theorem infoS_RuleC : (Try.prog.info? 30).map (fun i => (i.zero, i.size, i.bytes)) = some (some (.slice none 0 0), 1, 24) := by kernel_rfl
set_option maxHeartbeats 8000000 in
set_option maxRecDepth 100000 in
theorem cov1_calls (k : Nat) (len : Int) (B : Nat) (x : List SRule) (A' : Option Addr) (c' : Nat) (l : List Int) (W : World) (hx : Kd.C kRule W A' x.length x) (hc : x.length ≤ c') (hn : W.cell? ⟨B, 0, none⟩ = some (.int .i64 len)) (h : impl_leftBetween.f k x 1 len = some l) :
    Calls Try.prog 85 #[.slice A' x.length c', .pointer (some ⟨B, 0, none⟩)] W fun e w' => e = .returned (.bool (decide (0 < l.length))) ∧ Below W.heap.size W w' := by
  have HX := Aside0.mk hx
  have HC := Aside0.mk hc
  have H := Aside0.mk h
  clear hx hc h
  by_cases c_ : 0 < l.length
  · have d1 : decide (0 < (l.length : Int)) = true := decide_eq_true (by omega)
    have d2 : decide (0 < l.length) = true := decide_eq_true c_
    rw [d2]
    go_enter Try.func85, Try.ntmps85
    go_wp2_with (((with_reducible refine gate_callee (f := 61) rfl ?_); refine goesL_ (some 6) rfl rfl Try.func61 (by kernel_rfl) rfl #[.slice A' x.length c', .int .i64 1, .int .i64 len] rfl (by (try simp only [List.map_toArray, List.map_cons, List.map_nil]); first | done | rfl) ?_; (with_reducible refine (impl_leftBetween.calls k _ _ x 1 len l _ ?side1 ?side2 H.out).mono ?_); (case side1 => exact HX.out); (case side2 => exact HC.out); rintro e w2 ⟨v6, rfl, ho, hb⟩; refine ⟨_, rfl, ?_⟩; obtain ⟨A6, c6, e6⟩ := Kd.R_slice ho; subst e6; have HB := Aside0.mk hb; clear ho hb))
    go_ret
    exact ⟨rfl, HB.out⟩
  · have d1 : decide (0 < (l.length : Int)) = false := decide_eq_false (by omega)
    have d2 : decide (0 < l.length) = false := decide_eq_false c_
    rw [d2]
    go_enter Try.func85, Try.ntmps85
    go_wp2_with (((with_reducible refine gate_callee (f := 61) rfl ?_); refine goesL_ (some 6) rfl rfl Try.func61 (by kernel_rfl) rfl #[.slice A' x.length c', .int .i64 1, .int .i64 len] rfl (by (try simp only [List.map_toArray, List.map_cons, List.map_nil]); first | done | rfl) ?_; (with_reducible refine (impl_leftBetween.calls k _ _ x 1 len l _ ?side1 ?side2 H.out).mono ?_); (case side1 => exact HX.out); (case side2 => exact HC.out); rintro e w2 ⟨v6, rfl, ho, hb⟩; refine ⟨_, rfl, ?_⟩; obtain ⟨A6, c6, e6⟩ := Kd.R_slice ho; subst e6; have HB := Aside0.mk hb; clear ho hb))
    go_ret
    exact ⟨rfl, HB.out⟩
set_option maxHeartbeats 8000000 in
set_option maxRecDepth 100000 in
theorem impl_coversOf.calls (k : Nat) (A0 : Option Addr) (c0 : Nat) (l0 : List Int) (a1 : Int) (r : List (List SRule)) (w : World) (hr0 : Kd.C (Kd.int .i64) w A0 l0.length l0) (hc0 : l0.length ≤ c0) (h : impl_coversOf.f k l0 a1 = some r) :
    Calls Try.prog 57 #[.slice A0 l0.length c0, .int .i64 a1] w fun e w' => ∃ v0_ : Value, e = .returned (v0_) ∧ Kd.S (Kd.slice 41 kRule) 30 w' w.heap.size (fun _ => True) v0_ r ∧ Below w.heap.size w w' := by
  have HR0 := Aside0.mk hr0
  have HC0 := Aside0.mk hc0
  clear hr0 hc0
  unfold impl_coversOf.f at h
  by_cases hok : okC l0 = true ∧ (covL l0).all (fun r => (impl_leftBetween.f k r 1 a1).isSome) = true
  · rw [if_pos hok] at h
    have HOK := Aside0.mk hok.1
    have HALL := Aside0.mk hok.2
    have HRES := Aside0.mk (Option.some.inj h)
    have hpl : l0.length ≤ 5 := okC_len hok.1
    clear hok h
    go_enter Try.func57, Try.ntmps57
    go_wp2_with (first | ((with_reducible refine gate_dst (N := 3) rfl ?_); (try (refine gate_guard (by rfl) ?_; dsimp only)); refine box_event ?hg (N := 3) ?hd (cs := #[.int .i64 a1]) (t := 3) ?hr ?_; (case hd => rfl); (case hg => rfl); (case hr => first | (go_simp; done) | (go_simp; rfl)); intro gL hg w1 hbox hb; have BL1 := Aside0.mk hbox; have HB1 := Aside0.mk hb; clear hbox hb hg) | ((with_reducible refine gate_dst (N := 12) rfl ?_); refine Kd.R_lit kRule _ 41 ?hg (N := 12) ?hd (xs := ([] : List SRule)) (inner := []) (ok := fun _ => True) (okp := fun _ => True) ?hr ?hp (fun _ hk => hk) trivial (Below.refl _ _) (Nat.le_refl _) (by simp) ?_; (case hd => rfl); (case hg => rfl); (case hr => first | (go_simp; done) | (go_simp; rfl)); (case hp => exact Reps.none _ _); intro v12 w2 ho hb hg_ hnew_; clear hg_ hnew_; have HL2 := Aside0.mk (Kd.R_lower ho HB1.out.size); have BL2 := Aside0.mk (blk_below BL1.out hb); have HB2 := Aside0.mk (below_step HB1.out hb); clear BL1 HB1; obtain ⟨A12, c12, e12⟩ := Kd.R_slice HL2.out; replace e12 : v12 = .slice A12 0 c12 := e12; subst e12; clear ho hb) | ((with_reducible refine gate_dst (N := 13) rfl ?_); refine Kd.R_lit (Kd.tag (fun _ => 0) (Kd.slice 41 kRule)) w.heap.size 30 ?hg (N := 13) ?hd (xs := ([([], 0)] : List (List SRule × Nat))) (inner := [.slice A12 0 c12]) (ok := fun _ => True) (okp := fun _ => True) ?hr ?hp (fun _ hk => hk) trivial HB2.out (below_size HB2.out) (by simp) ?_; (case hd => rfl); (case hg => rfl); (case hr => first | (go_simp; done) | (go_simp; rfl)); (case hp => exact Reps.one (show (Kd.tag (fun _ => 0) (Kd.slice 41 kRule)).M _ _ _ ([], 0) [.slice A12 0 c12] from ⟨_, rfl, Kd.R_mono HL2.out (fun _ _ => ⟨trivial, rfl⟩)⟩) (Reps.none _ _)); intro v13 w3 ho hb hg_ hnew_; have BL3 := Aside0.mk (blk_grown BL2.out hg_ (by simp)); clear hg_ hnew_; have HS3 := Aside0.mk (show Kd.S (Kd.slice 41 kRule) 30 w3 w.heap.size (fun _ => True) v13 (covL (l0.take 0)) from ⟨fun _ => 0, ho⟩); have HB3 := Aside0.mk hb; clear ho hb BL2 HB2 HL2))
    go_loopg [5, 16] l0.length (fun gg v5 v16 wx => ∃ a : Nat, v16 = .int .i64 a ∧ a ≤ l0.length ∧ l0.length - a ≤ gg ∧ Aside0 (Kd.S (Kd.slice 41 kRule) 30 wx w.heap.size (fun _ => True) v5 (covL (l0.take a))) ∧ Aside0 (wx.heap[gL]? = some (.cells #[.int .i64 a1] 3 (0, 0))) ∧ Aside0 (Below w.heap.size w wx))
    case atStart => exact ⟨0, rfl, Nat.zero_le _, by omega, HS3, BL3, HB3⟩
    case round =>
      clear HS3 BL3 HB3
      obtain ⟨a, rfl, ha, hgg, HS, BL, HB⟩ := hrel
      by_cases c1_ : a < l0.length
      · have c1z : (a : Int) < (l0.length : Int) := by omega
        obtain ⟨ad, e_, hx0⟩ := Kd.at_int (Kd.C_below HR0.out HB.out) (a : Int) (by omega) c1z
        subst e_
        simp only [Int.toNat_natCast] at hx0
        have hp0 := okC_rd HOK.out a c1_
        obtain ⟨p, hpe⟩ : ∃ p, p = rd l0 (a : Int) := ⟨_, rfl⟩
        rw [← hpe] at hx0 hp0
        obtain ⟨L, hL⟩ : ∃ L, L = covL (l0.take a) := ⟨_, rfl⟩
        have hsm := covL_small HOK.out a ha
        have hrow : ∀ r ∈ L, r.length ≤ 5 := by
          intro r hr
          have := covL_row a ha r (by rw [← hL]; exact hr)
          omega
        have HNX := Aside0.mk (show covL (l0.take (a + 1)) = extL L p by rw [covL_succ l0 a c1_, hL, hpe])
        have HSL := Aside0.mk (show Kd.S (Kd.slice 41 kRule) 30 wr w.heap.size (fun k_ => k_ < wr.heap.size) _ L from Kd.S_mono (Kd.S_bound (by rw [hL]; exact HS.out)) (fun _ hk => hk.2.2.1))
        rw [← hL] at hsm
        have HROW := Aside0.mk hrow
        obtain ⟨N, hN⟩ : ∃ N, N = wr.heap.size := ⟨_, rfl⟩
        rw [← hN] at HSL
        have GN := Aside0.mk (show gL < N by rw [hN]; exact blk_lt BL.out)
        have GNw := Aside0.mk (show N ≤ wr.heap.size by rw [hN]; exact Nat.le_refl _)
        obtain ⟨Al, cl, el⟩ := Kd.S_slice HSL.out
        subst el
        have hll : L.length ≤ 371293 := hsm
        clear hpe hL hrow hN HS hsm
        go_wp2_with (first | ((with_reducible refine gate_dst (N := 20) rfl ?_); refine Kd.R_lit (Kd.tag (fun _ => 0) (Kd.slice 41 kRule)) w.heap.size 30 ?hg (N := 20) ?hd (xs := ([] : List (List SRule × Nat))) (inner := []) (ok := fun k_ => N ≤ k_) (okp := fun _ => False) ?hr ?hp (fun _ hk => hk.elim) GNw.out HB.out (below_size HB.out) (by simp) ?_; (case hd => rfl); (case hg => rfl); (case hr => first | (go_simp; done) | (go_simp; rfl)); (case hp => exact Reps.none _ _); intro v20 w20 ho hb hg_ hnew_; have HN20 := Aside0.mk (show Kd.S (Kd.slice 41 kRule) 30 w20 w.heap.size (fun k_ => N ≤ k_) v20 (nextAt L p 0 0) from by rw [nextAt_start]; exact ⟨fun _ => 0, ho⟩); have HL20 := Aside0.mk (Kd.S_grown HSL.out hg_ (fun _ _ => by simp)); have BL20 := Aside0.mk (blk_grown BL.out hg_ (by simp)); have HB20 := Aside0.mk hb; have GN20 := Aside0.mk (Nat.le_trans GNw.out hg_.size); clear ho hb hg_ hnew_))
        go_loopg [8, 23] L.length (fun gb v8 v23 wx => ∃ b : Nat, v23 = .int .i64 b ∧ b ≤ L.length ∧ L.length - b ≤ gb ∧ Aside0 (Kd.S (Kd.slice 41 kRule) 30 wx w.heap.size (fun k_ => N ≤ k_) v8 (nextAt L p b 0)) ∧ Aside0 (Kd.S (Kd.slice 41 kRule) 30 wx w.heap.size (fun k_ => k_ < N) (.slice Al L.length cl) L) ∧ Aside0 (wx.heap[gL]? = some (.cells #[.int .i64 a1] 3 (0, 0))) ∧ Aside0 (Below w.heap.size w wx) ∧ Aside0 (N ≤ wx.heap.size))
        case atStart => exact ⟨0, rfl, Nat.zero_le _, by omega, HN20, HL20, BL20, HB20, GN20⟩
        case round =>
          clear HN20 HL20 BL20 HB20 GN20 HSL BL HB hx0 GNw
          obtain ⟨b, rfl, hb_, hgb, HN, HSL, BL, HB, GNw⟩ := hrel
          by_cases c2_ : b < L.length
          · have c2z : (b : Int) < (L.length : Int) := by omega
            obtain ⟨ad2, ead⟩ : ∃ ad2, Al = some ad2 := by
              obtain ⟨g_, cap_, e_, -⟩ := Kd.S_form HSL.out (by omega)
              obtain ⟨rfl, -, -⟩ := Value.slice.inj e_
              exact ⟨_, rfl⟩
            subst ead
            obtain ⟨cs_, hcsl, hM, hcc⟩ := Kd.S_get HSL.out ([] : List SRule) (b : Int) (by omega) c2z
            obtain ⟨vr, rfl, hRr⟩ := hM
            obtain ⟨Ar, cr, er⟩ := Kd.R_slice hRr
            subst er
            have hxr : _root_.Go.World.cell? _ _ = _ := hcc 0 _ rfl
            rw [show (Kd.slice 41 kRule).sz = 1 from rfl] at hxr
            simp only [Int.toNat_natCast, Nat.mul_one, Nat.add_zero] at hxr
            obtain ⟨rr, hrr⟩ : ∃ rr, rr = rd_Rules L (b : Int) := ⟨_, rfl⟩
            have hRr2 : Kd.R kRule 41 wr w.heap.size (fun k_ => k_ < N ∧ some k_ ≠ (Value.slice (some ad2) L.length cl).ownBlock) (.slice Ar rr.length cr) rr := by rw [hrr]; exact hRr
            have hxr2 : wr.cell? (ad2.add b) = some (.slice Ar rr.length cr) := by rw [hrr]; exact hxr
            have HRR := Aside0.mk (show Kd.R kRule 41 wr w.heap.size (fun k_ => k_ < N) (.slice Ar rr.length cr) rr from Kd.R_mono hRr2 (fun _ hk => hk.1))
            have HRL := Aside0.mk (show rr.length ≤ 5 by rw [hrr]; exact HROW.out _ (by simp [rd_Rules, List.getD, c2_]))
            have HRE := Aside0.mk hrr
            clear hcsl hcc hRr hxr hRr2 hrr
            go_wp2
            go_loopg [8, 28] p.toNat (fun gc v8 v28 wx => ∃ c : Nat, v28 = .int .i64 c ∧ c ≤ p.toNat ∧ p.toNat - c ≤ gc ∧ Aside0 (Kd.S (Kd.slice 41 kRule) 30 wx w.heap.size (fun k_ => N ≤ k_) v8 (nextAt L p b c)) ∧ Aside0 (Kd.S (Kd.slice 41 kRule) 30 wx w.heap.size (fun k_ => k_ < N) (.slice (some ad2) L.length cl) L) ∧ Aside0 (wx.heap[gL]? = some (.cells #[.int .i64 a1] 3 (0, 0))) ∧ Aside0 (Below w.heap.size w wx) ∧ Aside0 (N ≤ wx.heap.size) ∧ Aside0 (Kd.R kRule 41 wx w.heap.size (fun k_ => k_ < N) (.slice Ar rr.length cr) rr))
            case atStart => exact ⟨0, rfl, Nat.zero_le _, by omega, HN, HSL, BL, HB, GNw, HRR⟩
            case round =>
              clear HN HSL BL HB GNw HRR hxr2
              obtain ⟨c, rfl, hc_, hgc, HN, HSL, BL, HB, GNw, HRR⟩ := hrel
              by_cases c3_ : c < p.toNat
              · have c3z : (c : Int) < p := by omega
                have c3b : decide ((c : Int) < p) = true := decide_eq_true c3z
                obtain ⟨A8, c8, e8⟩ := Kd.S_slice HN.out
                subst e8
                obtain ⟨nx, hnx⟩ : ∃ nx, nx = nextAt L p b c := ⟨_, rfl⟩
                rw [← hnx] at HN
                have hnl : nx.length ≤ 10000000 := by rw [hnx]; exact nextAt_length L p hp0.2 b c hc_ hll
                have HNE := Aside0.mk (show nx ++ [rr ++ [(⟨p, (c : Int)⟩ : SRule)]] = nextAt L p b (c + 1) by rw [hnx, HRE.out]; exact nextAt_succ L p b c)
                rw [← hnx]
                have HNL := Aside0.mk hnl
                clear hnx hnl
                go_wp2_with (first | ((with_reducible refine gate_dst (N := 32) rfl ?_); refine Kd.R_lit kRule _ 41 ?hg (N := 32) ?hd (xs := ([] : List SRule)) (inner := []) (ok := fun _ => True) (okp := fun _ => True) ?hr ?hp (fun _ hk => hk) trivial (Below.refl _ _) (Nat.le_refl _) (by simp) ?_; (case hd => rfl); (case hg => rfl); (case hr => first | (go_simp; done) | (go_simp; rfl)); (case hp => exact Reps.none _ _); intro v32 w32 ho hb hg_ hnew_; clear hg_ hnew_; have HL0 := Aside0.mk ho; have HB32 := Aside0.mk hb; clear ho hb) | ((with_reducible refine gate_builtin (b := .append) (xs := #[.tmp 32, .tmp 33]) rfl ?_); at_builtin; refine Kd.R_append_rows kRule (w0 := wr) wr.heap.size rfl (.tmp 32) (.tmp 33) 30 41 (.agg #[(.int .i64 0), (.int .i64 0)]) 16 rfl Try.underlying30 infoE_Rule rfl (by decide) (by omega) v32 ([] : List SRule) rr _ _ _ (fun _ => True) (fun _ => False) rfl rfl HL0.out ?aR (fun _ _ h => h) (fun _ h => h.elim) (fun _ _ => trivial) HB32.out (below_size HB32.out) ?aL ?_; (case aR => exact (Kd.R_reads' (Kd.R_below HRR.out HB32.out)).2.2); (case aL => have h_ := HRL.out; simp only [List.length_nil]; omega); intro v34 w34 ho hb hg_ hat_; clear hg_ hat_; simp only [List.nil_append] at ho; have HL34 := Aside0.mk ho; have HB34 := Aside0.mk hb; clear HL0 HB32 ho hb) | ((with_reducible refine gate_builtin (b := .append) (xs := #[.tmp 34, .tmp 38]) rfl ?_); at_builtin; refine Kd.R_append kRule (w0 := wr) wr.heap.size rfl (.tmp 34) (.tmp 38) 30 41 (.agg #[(.int .i64 0), (.int .i64 0)]) 16 rfl Try.underlying30 infoE_Rule rfl (by decide) (by omega) v34 rr (⟨p, (c : Int)⟩ : SRule) [.int .i64 p, .int .i64 (c : Int)] (fun _ => True) (fun _ => False) rfl rfl (kRule_mkM _ _ _ (⟨p, (c : Int)⟩ : SRule)) (fun _ hk => hk.elim) (fun _ _ => trivial) HL34.out HB34.out (below_size HB34.out) ?aL ?_; (case aL => have h_ := HRL.out; omega); intro v39 w39 ho hb hg_ hat_; clear hg_ hat_; obtain ⟨nr, hnr⟩ : ∃ nr, nr = rr ++ [(⟨p, (c : Int)⟩ : SRule)] := ⟨_, rfl⟩; rw [← hnr] at ho HNE; have HL39 := Aside0.mk ho; have HB39 := Aside0.mk hb; clear hnr HL34 HB34 ho hb; obtain ⟨A39, c39, e39⟩ := Kd.R_slice HL39.out; subst e39) | ((with_reducible refine gate_builtin (b := .append) (xs := #[.tmp 31, .tmp 40]) rfl ?_); at_builtin; refine Kd.S_append (Kd.slice 41 kRule) (w0 := w) w.heap.size rfl (.tmp 31) (.tmp 40) 57 30 (.slice none 0 0) 24 rfl Try.underlying57 infoS_RuleC rfl (by decide) (by omega) (.slice A8 nx.length c8) nx nr [.slice A39 nr.length c39] (fun k_ => N ≤ k_) (fun k_ => some k_ = (.slice A39 nr.length c39 : Value).ownBlock) rfl rfl ?aP ?aK ?aF ?aO ?aB ?aS ?aL ?_; (case aP => exact Kd.M_row (Kd.R_tight rfl (Kd.R_lower HL39.out HB.out.size))); (case aK => exact (fun k_ hk => ⟨Nat.le_trans GNw.out (Kd.R_base HL39.out k_ hk.symm), fun e_ => by have h1_ := Kd.R_base HL39.out k_ hk.symm; have h2_ := Kd.S_lt HN.out k_ e_.symm; omega⟩)); (case aF => exact (fun k_ hk => Nat.le_trans GNw.out (Nat.le_trans HB39.out.size hk))); (case aO => exact Kd.S_mono (Kd.S_below (Kd.S_bound HN.out) HB39.out) (fun k_ hk => ⟨hk.1, fun e_ => by have h1_ := Kd.R_base HL39.out k_ e_.symm; have h2_ := hk.2.2.1; omega⟩)); (case aB => exact below_step HB.out HB39.out); (case aS => exact below_size (below_step HB.out HB39.out)); (case aL => have h_ := HNL.out; omega); intro v41 w41 ho hb hg hat; have hne_ : ∀ k_, k_ < N → some k_ ≠ (Value.slice A8 nx.length c8).ownBlock := (fun k_ hk e_ => by have h_ := (Kd.S_R HN.out).1 k_ e_.symm; omega); have HN41 := Aside0.mk (show Kd.S (Kd.slice 41 kRule) 30 w41 w.heap.size (fun k_ => N ≤ k_) v41 (nextAt L p b (c + 1)) from by rw [← HNE.out]; exact ho); have HSL41 := Aside0.mk (Kd.S_grown (Kd.S_below HSL.out HB39.out) hg hne_); have HRR41 := Aside0.mk (Kd.R_grown (Kd.R_below HRR.out HB39.out) hg hne_); have BL41 := Aside0.mk (blk_grown (blk_below BL.out HB39.out) hg (hne_ gL GN.out)); have HB41 := Aside0.mk hb; have GN41 := Aside0.mk (Nat.le_trans GNw.out (Nat.le_trans HB39.out.size hg.size)); clear ho hb hg hat hne_))
                go_roundg (p.toNat - (c + 1))
                case measure => omega
                case rel => exact ⟨c + 1, by go_num, by omega, Nat.le_refl _, HN41, HSL41, BL41, HB41, GN41, HRR41⟩
              · have c3z : ¬ (c : Int) < p := by omega
                have c3b : decide ((c : Int) < p) = false := decide_eq_false c3z
                obtain rfl : c = p.toNat := by omega
                have HNF := Aside0.mk (show Kd.S (Kd.slice 41 kRule) 30 wr w.heap.size (fun k_ => N ≤ k_) _ (nextAt L p (b + 1) 0) from by rw [← nextAt_full L p b c2_]; exact HN.out)
                go_wp2
                go_roundg (L.length - (b + 1))
                case measure => omega
                case rel => exact ⟨b + 1, by go_num, by omega, Nat.le_refl _, HNF, HSL, BL, HB, GNw⟩
          · have c2z : ¬ (b : Int) < (L.length : Int) := by omega
            obtain rfl : b = L.length := by omega
            have HNF := Aside0.mk (show Kd.S (Kd.slice 41 kRule) 30 wr w.heap.size (fun _ => True) _ (covL (l0.take (a + 1))) from by
              rw [HNX.out, show extL L p = nextAt L p L.length 0 by rw [nextAt_zero, List.take_length]]
              exact Kd.S_mono HN.out (fun _ _ => trivial))
            go_wp2
            go_roundg (l0.length - (a + 1))
            case measure => omega
            case rel => exact ⟨a + 1, by go_num, by omega, Nat.le_refl _, HNF, BL, HB⟩
      · have c1z : ¬ (a : Int) < (l0.length : Int) := by omega
        obtain rfl : a = l0.length := by omega
        obtain ⟨L, hL⟩ : ∃ L, L = covL l0 := ⟨_, rfl⟩
        have HSF := Aside0.mk (show Kd.S (Kd.slice 41 kRule) 30 wr w.heap.size (fun k_ => k_ ≠ gL) _ L from by
          rw [hL]
          have h_ := HS.out
          rw [List.take_length] at h_
          exact Kd.S_mono (Kd.S_types h_ BL.out (by decide)) (fun _ hk => hk.2))
        rw [← hL] at HALL HRES
        obtain ⟨Al, cl, el⟩ := Kd.S_slice HSF.out
        subst el
        clear hL HS
        go_wp2_with (((with_reducible refine gate_callee (f := 84) rfl ?_); refine goesL_ (some 48) rfl rfl Try.func84 (by kernel_rfl) rfl #[.slice Al L.length cl, .func (.func 85) #[] #[.pointer (some ⟨gL, 0, none⟩)]] rfl (by (try simp only [List.map_toArray, List.map_cons, List.map_nil]); first | done | rfl) ?_; refine (delS_calls (fun x => decide (0 < ((impl_leftBetween.f k x 1 a1).getD []).length)) 85 #[.pointer (some ⟨gL, 0, none⟩)] (enters_of Try.func85 (by kernel_rfl) rfl) Al cl w.heap.size (fun k_ => k_ ≠ gL) L _ HB.out.size HSF.out ?sP).mono ?_; (case sP => exact (fun W_ x A' c' hx hg_ hC hc' => by
          obtain ⟨l_, hl_⟩ := Option.isSome_iff_exists.1 (List.all_eq_true.1 HALL.out x hx)
          have h2_ := cov1_calls k a1 gL x A' c' l_ W_ hC hc' ((blk_cell (blk_grown BL.out hg_ (fun e_ => (Kd.S_R HSF.out).1 gL e_.symm rfl)) 0).trans rfl) hl_
          show Calls _ _ _ _ (fun e w' => e = .returned (.bool (decide (0 < ((impl_leftBetween.f k x 1 a1).getD []).length))) ∧ _)
          rw [hl_]
          exact h2_)); rintro e w48 ⟨rfl, hS_, hg_⟩; refine ⟨_, rfl, ?_⟩; have HS48 := Aside0.mk hS_; have HB48 := Aside0.mk (HB.out.grown hg_ HB.out.size (Kd.S_base HSF.out)); clear hS_ hg_))
        go_ret
        exact ⟨_, rfl, by rw [← HRES.out]; exact Kd.S_mono HS48.out (fun _ _ => trivial), HB48.out⟩
  · rw [if_neg hok] at h
    exact absurd h (by simp)
end Go.Proofs.Ytphlfkeamhpimaa.P
namespace Go.Proofs.Ytphlfkeamhpimaa.P
open Go.RowKit Go.Proofs.YtphlfkeamhpimaaW.PrintWords Go.Proofs.YtphlfkeamhpimaaW.PrintLast Go.Proofs.YtphlfkeamhpimaaW.PrintMore
attribute [local go_sem] max2_int min2_int max_two min_two max_three min_three max_four min_four
set_option linter.unusedVariables false
set_option linter.unusedSimpArgs false
def spec_gpCovers.l0 : Nat → List (SRule) → Int → Int → Option (Bool)
 | 0, _, _, _ => none
 | k + 1, x0, x1, x5 => if x5 ≤ x1 then ((spec_siLeft.f k x0 x5).bind fun t101 => (if t101 = true then (some false) else (spec_gpCovers.l0 k x0 x1 (wrap64 (x5 + 1))))) else (some true)
def spec_gpCovers.f (k : Nat) (l0 : List (SRule)) (a1 : Int) : Option (Bool) := spec_gpCovers.l0 k l0 a1 1
set_option maxHeartbeats 8000000 in
set_option maxRecDepth 100000 in
theorem spec_gpCovers.calls (k : Nat) (A0 : Option Addr) (c0 : Nat) (l0 : List (SRule)) (a1 : Int) (r : Bool) (w : World) (hr0 : Kd.C kRule w A0 l0.length l0) (hc0 : l0.length ≤ c0) (h : spec_gpCovers.f k l0 a1 = some r) :
  Calls Try.prog 66 #[.slice A0 l0.length c0, .int .i64 a1] w fun e w' => e = .returned (.bool r) ∧ Below w.heap.size w w' := by
 have HR0 := Aside0.mk hr0
 have HC0 := Aside0.mk hc0
 clear hr0 hc0
 have HB := Aside0.mk (Below.refl w.heap.size w)
 have H : (spec_gpCovers.l0 k l0 a1 1) = some r := h
 clear h
 have H' := Aside0.mk H
 clear H
 go_enter Try.func66, Try.ntmps66
 go_wp2
 go_loopg [5] k (fun kq v5 w' => ∃ (x5_1 : Int), v5 = .int .i64 x5_1 ∧ Aside0 (spec_gpCovers.l0 kq l0 a1 x5_1 = some r) ∧ Aside0 (kq ≤ k) ∧ Aside0 (Below w.heap.size w w'))
 case atStart => exact ⟨(1), (by first | rfl | (simp; done) | (simp [*]; done)), H', ⟨Nat.le_refl _⟩, ⟨by apply_rules only [HB.out, below_alloc, pw_below_drewN, below_drew1]⟩⟩
 case round =>
  clear H'
  obtain ⟨x5_1, rfl, HA, HK1, HB⟩ := hrel
  cases gk with
  | zero => exact absurd HA.out (by simp [spec_gpCovers.l0])
  | succ k1 =>
   have H := HA.out
   clear HA
   simp only [spec_gpCovers.l0] at H
   by_cases c3 : x5_1 ≤ a1
   ·rw [if_pos c3] at H
    have c3b0 : decide (x5_1 ≤ a1) = true := decide_eq_true c3
    clear c3
    replace H := Option.bind_eq_some_iff.mp H
    obtain ⟨t101, A40, H⟩ := H
    (try dsimp only at H)
    have A4 := Aside0.mk A40
    clear A40
    by_cases c5 : t101 = true
    ·subst c5
     rw [if_pos rfl] at H
     obtain rfl := Option.some.inj H
     go_wp2_with (first | ((with_reducible refine gate_callee (f := 81) rfl ?_); refine goesL_ (some 13) rfl rfl Try.func81 (by kernel_rfl) rfl #[.slice A0 l0.length c0, .int .i64 x5_1] rfl (by (try simp only [List.map_toArray, List.map_cons, List.map_nil]); first | done | rfl | (simp only [List.length_drop, List.length_take]; rfl)) ?_; (with_reducible refine (spec_siLeft.calls k1 _ _ l0 x5_1 true _ ?side1 ?side2 A4.out).mono ?_); (case side1 => repeat (first | exact (Kd.C_below HR0.out HB.out) | (with_reducible refine Kd.C_alloc ?_ _) | (with_reducible refine Kd.C_drewN ?_ _) | (with_reducible refine Kd.C_drew ?_))); (case side2 => exact HC0.out); rintro e w6 ⟨rfl, hb⟩; refine ⟨_, rfl, ?_⟩; have n0_ := Aside0.mk (below_step (by apply_rules only [HB.out, below_alloc, pw_below_drewN, below_drew1]) hb); clear HB; have HB := n0_; clear n0_; (try clear hb); (try clear hb2); (try clear hk); (try clear hi)))
     go_ret
     exact ⟨by first | rfl | (simp [errW_none, errW_some] <;> rfl) | (simp [*, errW_none, errW_some] <;> rfl), by apply_rules only [HB.out, below_alloc, pw_below_drewN, below_drew1]⟩
    ·replace c5 := Bool.eq_false_iff.mpr c5
     subst c5
     rw [if_neg (show ¬ (false = true) by decide)] at H
     have H' := Aside0.mk H
     clear H
     go_wp2_with (first | ((with_reducible refine gate_callee (f := 81) rfl ?_); refine goesL_ (some 13) rfl rfl Try.func81 (by kernel_rfl) rfl #[.slice A0 l0.length c0, .int .i64 x5_1] rfl (by (try simp only [List.map_toArray, List.map_cons, List.map_nil]); first | done | rfl | (simp only [List.length_drop, List.length_take]; rfl)) ?_; (with_reducible refine (spec_siLeft.calls k1 _ _ l0 x5_1 false _ ?side1 ?side2 A4.out).mono ?_); (case side1 => repeat (first | exact (Kd.C_below HR0.out HB.out) | (with_reducible refine Kd.C_alloc ?_ _) | (with_reducible refine Kd.C_drewN ?_ _) | (with_reducible refine Kd.C_drew ?_))); (case side2 => exact HC0.out); rintro e w7 ⟨rfl, hb⟩; refine ⟨_, rfl, ?_⟩; have n0_ := Aside0.mk (below_step (by apply_rules only [HB.out, below_alloc, pw_below_drewN, below_drew1]) hb); clear HB; have HB := n0_; clear n0_; (try clear hb); (try clear hb2); (try clear hk); (try clear hi)))
     go_roundg k1
     case measure => have := HK1.out; omega
     case rel => exact ⟨(wrap64 (x5_1 + 1)), (by first | rfl | (simp; done) | (simp [*]; done)), H', ⟨by have := HK1.out; omega⟩, ⟨by apply_rules only [HB.out, below_alloc, pw_below_drewN, below_drew1]⟩⟩
   ·rw [if_neg c3] at H
    have c3b0 : decide (x5_1 ≤ a1) = false := decide_eq_false c3
    clear c3
    obtain rfl := Option.some.inj H
    go_wp2
    go_ret
    exact ⟨by first | rfl | (simp [errW_none, errW_some] <;> rfl) | (simp [*, errW_none, errW_some] <;> rfl), by apply_rules only [HB.out, below_alloc, pw_below_drewN, below_drew1]⟩
end Go.Proofs.Ytphlfkeamhpimaa.P
