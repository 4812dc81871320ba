/- What functions of the program answer. Proved in this text: its theorems. Conditions: as each theorem states them. -/
import Derived.Test.YtphlfkeamhpimaaCFnGapsToldOfAllP
import Derived.Test.YtphlfkeamhpimaaCFnGapsToldOfAllF0
import Derived.Test.YtphlfkeamhpimaaCFnGapsToldOfAllF1
namespace Go.Proofs.Ytphlfkeamhpimaa.P
open Go.RowKit Go.Proofs.YtphlfkeamhpimaaW.PrintWords Go.Proofs.YtphlfkeamhpimaaW.PrintLast Go.Proofs.YtphlfkeamhpimaaW.PrintMore
attribute [local go_sem] max2_int min2_int max_two min_two max_three min_three max_four min_four
set_option linter.unusedVariables false
set_option linter.unusedSimpArgs false
mutual
def spec_gpWindows.j0 : Nat → List (SRule) → Int → Bool → Option (Int × Int × Bool)
 | 0, _, _, _ => none
 | k + 1, x0, x1, x25 => if x25 = true then (some (0, 0, false)) else (spec_gpWindows.l0 k x0 x1 0 0)
def spec_gpWindows.l0 : Nat → List (SRule) → Int → Int → Int → Option (Int × Int × Bool)
 | 0, _, _, _, _ => none
 | k + 1, x0, x1, x9, x10 => if x10 < x1 then ((spec_siLeft.f k x0 x10).bind fun t106 => (if t106 = true then (spec_gpWindows.l0 k x0 x1 (wrap64 (x9 + 1)) (wrap64 (x10 + 1))) else (spec_gpWindows.l0 k x0 x1 x9 (wrap64 (x10 + 1))))) else (spec_gpWindows.l1 k x0 x1 x9 x9 x9 0)
def spec_gpWindows.l1 : Nat → List (SRule) → Int → Int → Int → Int → Int → Option (Int × Int × Bool)
 | 0, _, _, _, _, _, _ => none
 | k + 1, x0, x1, x9, x11, x12, x13 => (spec_siPeriod.f k x0).bind fun t107 => (if x13 < t107 then ((spec_siLeft.f k x0 x13).bind fun t108 => (if t108 = true then (spec_gpWindows.j3 k x0 x1 (wrap64 (x9 - 1)) x11 x12 x13) else (spec_gpWindows.j3 k x0 x1 x9 x11 x12 x13))) else (some (x11, x12, true)))
def spec_gpWindows.j3 : Nat → List (SRule) → Int → Int → Int → Int → Int → Option (Int × Int × Bool)
 | 0, _, _, _, _, _, _ => none
 | k + 1, x0, x1, x9, x11, x12, x13 => (spec_siLeft.f k x0 (wrap64 (x13 + x1))).bind fun t109 => (if t109 = true then ((spec_l1Most.f x11 (wrap64 (x9 + 1))).bind fun t110 => ((spec_l1Least.f x12 (wrap64 (x9 + 1))).bind fun t111 => (spec_gpWindows.l1 k x0 x1 (wrap64 (x9 + 1)) t110 t111 (wrap64 (x13 + 1))))) else ((spec_l1Most.f x11 x9).bind fun t112 => ((spec_l1Least.f x12 x9).bind fun t113 => (spec_gpWindows.l1 k x0 x1 x9 t112 t113 (wrap64 (x13 + 1))))))
end
def spec_gpWindows.f (k : Nat) (l0 : List (SRule)) (a1 : Int) : Option (Int × Int × Bool) := (spec_gpLeft.f k l0).bind fun bt101 => (if bt101.2 = true then ((spec_l1In.f a1 0 200).bind fun t105 => (spec_gpWindows.j0 k l0 a1 (!t105))) else (spec_gpWindows.j0 k l0 a1 true))
set_option maxHeartbeats 8000000 in
set_option maxRecDepth 100000 in
theorem spec_gpWindows.calls (k : Nat) (A0 : Option Addr) (c0 : Nat) (l0 : List (SRule)) (a1 : Int) (r1 : Int) (r2 : Int) (r3 : Bool) (w : World) (hr0 : Kd.C kRule w A0 l0.length l0) (hc0 : l0.length ≤ c0) (h : spec_gpWindows.f k l0 a1 = some (r1, r2, r3)) :
  Calls Try.prog 79 #[.slice A0 l0.length c0, .int .i64 a1] w fun e w' => e = .returned (.tuple #[.int .i64 r1, .int .i64 r2, .bool r3]) ∧ Below w.heap.size w w' := by
 have HR0 := Aside0.mk hr0
 have HC0 := Aside0.mk hc0
 clear hr0 hc0
 have HB := Aside0.mk (Below.refl w.heap.size w)
 have H : ((spec_gpLeft.f k l0).bind fun bt101 => (if bt101.2 = true then ((spec_l1In.f a1 0 200).bind fun t105 => (spec_gpWindows.j0 k l0 a1 (!t105))) else (spec_gpWindows.j0 k l0 a1 true))) = some (r1, r2, r3) := h
 clear h
 replace H := Option.bind_eq_some_iff.mp H
 obtain ⟨⟨t101, t102⟩, A30, H⟩ := H
 (try dsimp only at H)
 have A3 := Aside0.mk A30
 clear A30
 have HC4 := Aside0.mk H
 clear H
 go_enter Try.func79, Try.ntmps79
 go_upto_region 2 with (first | ((with_reducible refine gate_callee (f := 80) rfl ?_); refine goesL_ (some 16) rfl rfl Try.func80 (by kernel_rfl) rfl #[.slice A0 l0.length c0] rfl (by (try simp only [List.map_toArray, List.map_cons, List.map_nil]); first | done | rfl | (simp only [List.length_drop, List.length_take]; rfl)) ?_; (with_reducible refine (spec_gpLeft.calls k _ _ l0 t101 t102 _ ?side1 ?side2 A3.out).mono ?_); (case side1 => repeat (first | exact HR0.out | (with_reducible refine Kd.C_alloc ?_ _) | (with_reducible refine Kd.C_drewN ?_ _) | (with_reducible refine Kd.C_drew ?_))); (case side2 => exact HC0.out); rintro e w5 ⟨v103, rfl, ho0, hb⟩; refine ⟨_, rfl, ?_⟩; have n0_ := Aside0.mk (Kd.R_lower ho0 (below_size (by apply_rules only [HB.out, below_alloc, pw_below_drewN, below_drew1]))); have n1_ := Aside0.mk (below_step (by apply_rules only [HB.out, below_alloc, pw_below_drewN, below_drew1]) hb); clear HB; have HO104 := n0_; have HB := n1_; clear n0_ n1_; (try clear hb); (try clear hb2); (try clear hk); (try clear hi); (try clear ho0)))
 (try simp only [Act.put, List.setIfInBounds_toArray, List.set_cons_zero, List.set_cons_succ])
 go_cut [25] (fun v25 wc => ∃ (kq : Nat) (x25_3 : Bool), v25 = .bool x25_3 ∧ Aside0 (spec_gpWindows.j0 kq l0 a1 x25_3 = some (r1, r2, r3)) ∧ Aside0 (kq ≤ k) ∧ Aside0 (Below w.heap.size w wc))
 case first =>
  have H := HC4.out
  clear HC4
  by_cases c6 : t102 = true
  ·subst c6
   rw [if_pos rfl] at H
   replace H := Option.bind_eq_some_iff.mp H
   obtain ⟨t105, A70, H⟩ := H
   (try dsimp only at H)
   have A7 := Aside0.mk A70
   clear A70
   have H' := Aside0.mk H
   clear H
   go_wp2_with (first | (go_at_call 65; (with_reducible refine (spec_l1In.calls a1 0 200 t105 _ A7.out).mono ?_); rintro e w' ⟨rfl, ⟨nd, rfl⟩⟩))
   go_meet
   case rel => exact ⟨_, (!t105), (by first | rfl | (simp; done) | (simp [*]; done)), H', ⟨by first | omega | exact Nat.le_refl _⟩, ⟨by apply_rules only [HB.out, below_alloc, pw_below_drewN, below_drew1]⟩⟩
  ·replace c6 := Bool.eq_false_iff.mpr c6
   subst c6
   rw [if_neg (show ¬ (false = true) by decide)] at H
   have H' := Aside0.mk H
   clear H
   go_wp2
   go_meet
   case rel => exact ⟨_, (true), (by first | rfl | (simp; done) | (simp [*]; done)), H', ⟨by first | omega | exact Nat.le_refl _⟩, ⟨by apply_rules only [HB.out, below_alloc, pw_below_drewN, below_drew1]⟩⟩
 case rest =>
  clear HC4
  obtain ⟨kq, x25_3, rfl, HA, HJ3, HB⟩ := hcut
  cases kq with
  | zero => exact absurd HA.out (by simp [spec_gpWindows.j0])
  | succ kj3 =>
   have H := HA.out
   clear HA
   simp only [spec_gpWindows.j0] at H
   by_cases c8 : x25_3 = true
   ·subst c8
    rw [if_pos rfl] at H
    simp only [Option.some.injEq, Prod.mk.injEq] at H
    obtain ⟨rfl, rfl, rfl⟩ := H
    go_wp2
    go_ret3
    exact ⟨by first | rfl | (simp [errW_none, errW_some] <;> rfl) | (simp [*, errW_none, errW_some] <;> rfl), by apply_rules only [HB.out, below_alloc, pw_below_drewN, below_drew1]⟩
   ·replace c8 := Bool.eq_false_iff.mpr c8
    subst c8
    rw [if_neg (show ¬ (false = true) by decide)] at H
    have H' := Aside0.mk H
    clear H
    go_wp2
    go_loopg [9, 10] kj3 (fun kq v9 v10 w' => ∃ (x9_2 : Int) (x10_2 : Int), v9 = .int .i64 x9_2 ∧ v10 = .int .i64 x10_2 ∧ Aside0 (spec_gpWindows.l0 kq l0 a1 x9_2 x10_2 = some (r1, r2, r3)) ∧ Aside0 (kq ≤ kj3) ∧ Aside0 (Below w.heap.size w w'))
    case atStart => exact ⟨(0), (0), (by first | rfl | (simp; done) | (simp [*]; done)), (by first | rfl | (simp; done) | (simp [*]; done)), H', ⟨Nat.le_refl _⟩, ⟨by apply_rules only [HB.out, below_alloc, pw_below_drewN, below_drew1]⟩⟩
    case round =>
     clear H'
     (try clear c8)
     obtain ⟨x9_2, x10_2, rfl, rfl, HA, HK2, HB⟩ := hrel
     cases gk with
     | zero => exact absurd HA.out (by simp [spec_gpWindows.l0])
     | succ k2 =>
      have H := HA.out
      clear HA
      simp only [spec_gpWindows.l0] at H
      by_cases c9 : x10_2 < a1
      ·rw [if_pos c9] at H
       have c9b0 : decide (x10_2 < a1) = true := decide_eq_true c9
       clear c9
       replace H := Option.bind_eq_some_iff.mp H
       obtain ⟨t106, A100, H⟩ := H
       (try dsimp only at H)
       have A10 := Aside0.mk A100
       clear A100
       by_cases c11 : t106 = true
       ·subst c11
        rw [if_pos rfl] at H
        have H' := Aside0.mk H
        clear H
        go_wp2_with (first | ((with_reducible refine gate_callee (f := 81) rfl ?_); refine goesL_ (some 33) rfl rfl Try.func81 (by kernel_rfl) rfl #[.slice A0 l0.length c0, .int .i64 x10_2] rfl (by (try simp only [List.map_toArray, List.map_cons, List.map_nil]); first | done | rfl | (simp only [List.length_drop, List.length_take]; rfl)) ?_; (with_reducible refine (spec_siLeft.calls k2 _ _ l0 x10_2 true _ ?side1 ?side2 A10.out).mono ?_); (case side1 => repeat (first | exact (Kd.C_below HR0.out HB.out) | (with_reducible refine Kd.C_alloc ?_ _) | (with_reducible refine Kd.C_drewN ?_ _) | (with_reducible refine Kd.C_drew ?_))); (case side2 => exact HC0.out); rintro e w12 ⟨rfl, hb⟩; refine ⟨_, rfl, ?_⟩; have n0_ := Aside0.mk (below_step (by apply_rules only [HB.out, below_alloc, pw_below_drewN, below_drew1]) hb); clear HB; have HB := n0_; clear n0_; (try clear hb); (try clear hb2); (try clear hk); (try clear hi)))
        go_roundg k2
        case measure => have := HJ3.out; have := HK2.out; omega
        case rel => exact ⟨(wrap64 (x9_2 + 1)), (wrap64 (x10_2 + 1)), (by first | rfl | (simp; done) | (simp [*]; done)), (by first | rfl | (simp; done) | (simp [*]; done)), H', ⟨by have := HJ3.out; have := HK2.out; omega⟩, ⟨by apply_rules only [HB.out, below_alloc, pw_below_drewN, below_drew1]⟩⟩
       ·replace c11 := Bool.eq_false_iff.mpr c11
        subst c11
        rw [if_neg (show ¬ (false = true) by decide)] at H
        have H' := Aside0.mk H
        clear H
        go_wp2_with (first | ((with_reducible refine gate_callee (f := 81) rfl ?_); refine goesL_ (some 33) rfl rfl Try.func81 (by kernel_rfl) rfl #[.slice A0 l0.length c0, .int .i64 x10_2] rfl (by (try simp only [List.map_toArray, List.map_cons, List.map_nil]); first | done | rfl | (simp only [List.length_drop, List.length_take]; rfl)) ?_; (with_reducible refine (spec_siLeft.calls k2 _ _ l0 x10_2 false _ ?side1 ?side2 A10.out).mono ?_); (case side1 => repeat (first | exact (Kd.C_below HR0.out HB.out) | (with_reducible refine Kd.C_alloc ?_ _) | (with_reducible refine Kd.C_drewN ?_ _) | (with_reducible refine Kd.C_drew ?_))); (case side2 => exact HC0.out); rintro e w13 ⟨rfl, hb⟩; refine ⟨_, rfl, ?_⟩; have n0_ := Aside0.mk (below_step (by apply_rules only [HB.out, below_alloc, pw_below_drewN, below_drew1]) hb); clear HB; have HB := n0_; clear n0_; (try clear hb); (try clear hb2); (try clear hk); (try clear hi)))
        go_roundg k2
        case measure => have := HJ3.out; have := HK2.out; omega
        case rel => exact ⟨(x9_2), (wrap64 (x10_2 + 1)), (by first | rfl | (simp; done) | (simp [*]; done)), (by first | rfl | (simp; done) | (simp [*]; done)), H', ⟨by have := HJ3.out; have := HK2.out; omega⟩, ⟨by apply_rules only [HB.out, below_alloc, pw_below_drewN, below_drew1]⟩⟩
      ·rw [if_neg c9] at H
       have c9b0 : decide (x10_2 < a1) = false := decide_eq_false c9
       clear c9
       have H' := Aside0.mk H
       clear H
       go_wp2
       go_loopg [9, 11, 12, 13] k2 (fun kq v9 v11 v12 v13 w' => ∃ (x9_3 : Int) (x11_3 : Int) (x12_3 : Int) (x13_3 : Int), v9 = .int .i64 x9_3 ∧ v11 = .int .i64 x11_3 ∧ v12 = .int .i64 x12_3 ∧ v13 = .int .i64 x13_3 ∧ Aside0 (spec_gpWindows.l1 kq l0 a1 x9_3 x11_3 x12_3 x13_3 = some (r1, r2, r3)) ∧ Aside0 (kq ≤ k2) ∧ Aside0 (Below w.heap.size w w'))
       case atStart => exact ⟨(x9_2), (x9_2), (x9_2), (0), (by first | rfl | (simp; done) | (simp [*]; done)), (by first | rfl | (simp; done) | (simp [*]; done)), (by first | rfl | (simp; done) | (simp [*]; done)), (by first | rfl | (simp; done) | (simp [*]; done)), H', ⟨Nat.le_refl _⟩, ⟨by apply_rules only [HB.out, below_alloc, pw_below_drewN, below_drew1]⟩⟩
       case round =>
        clear H'
        (try clear c8); (try clear c9); (try clear c9b0)
        obtain ⟨x9_3, x11_3, x12_3, x13_3, rfl, rfl, rfl, rfl, HA, HK3, HB⟩ := hrel
        cases gk with
        | zero => exact absurd HA.out (by simp [spec_gpWindows.l1])
        | succ k3 =>
         have H := HA.out
         clear HA
         simp only [spec_gpWindows.l1] at H
         replace H := Option.bind_eq_some_iff.mp H
         obtain ⟨t107, A140, H⟩ := H
         (try dsimp only at H)
         have A14 := Aside0.mk A140
         clear A140
         by_cases c15 : x13_3 < t107
         ·rw [if_pos c15] at H
          have c15b0 : decide (x13_3 < t107) = true := decide_eq_true c15
          clear c15
          replace H := Option.bind_eq_some_iff.mp H
          obtain ⟨t108, A160, H⟩ := H
          (try dsimp only at H)
          have A16 := Aside0.mk A160
          clear A160
          have HC17 := Aside0.mk H
          clear H
          go_upto_if 46 with (first | ((with_reducible refine gate_callee (f := 91) rfl ?_); refine goesL_ (some 40) rfl rfl Try.func91 (by kernel_rfl) rfl #[.slice A0 l0.length c0] rfl (by (try simp only [List.map_toArray, List.map_cons, List.map_nil]); first | done | rfl | (simp only [List.length_drop, List.length_take]; rfl)) ?_; (with_reducible refine (spec_siPeriod.calls k3 _ _ l0 t107 _ ?side1 ?side2 A14.out).mono ?_); (case side1 => repeat (first | exact (Kd.C_below HR0.out HB.out) | (with_reducible refine Kd.C_alloc ?_ _) | (with_reducible refine Kd.C_drewN ?_ _) | (with_reducible refine Kd.C_drew ?_))); (case side2 => exact HC0.out); rintro e w18 ⟨rfl, hb⟩; refine ⟨_, rfl, ?_⟩; have n0_ := Aside0.mk (below_step (by apply_rules only [HB.out, below_alloc, pw_below_drewN, below_drew1]) hb); clear HB; have HB := n0_; clear n0_; (try clear hb); (try clear hb2); (try clear hk); (try clear hi)) | ((with_reducible refine gate_callee (f := 81) rfl ?_); refine goesL_ (some 46) rfl rfl Try.func81 (by kernel_rfl) rfl #[.slice A0 l0.length c0, .int .i64 x13_3] rfl (by (try simp only [List.map_toArray, List.map_cons, List.map_nil]); first | done | rfl | (simp only [List.length_drop, List.length_take]; rfl)) ?_; (with_reducible refine (spec_siLeft.calls k3 _ _ l0 x13_3 t108 _ ?side1 ?side2 A16.out).mono ?_); (case side1 => repeat (first | exact (Kd.C_below HR0.out HB.out) | (with_reducible refine Kd.C_alloc ?_ _) | (with_reducible refine Kd.C_drewN ?_ _) | (with_reducible refine Kd.C_drew ?_))); (case side2 => exact HC0.out); rintro e w19 ⟨rfl, hb⟩; refine ⟨_, rfl, ?_⟩; have n0_ := Aside0.mk (below_step (by apply_rules only [HB.out, below_alloc, pw_below_drewN, below_drew1]) hb); clear HB; have HB := n0_; clear n0_; (try clear hb); (try clear hb2); (try clear hk); (try clear hi)))
          (try simp only [Act.put, List.setIfInBounds_toArray, List.set_cons_zero, List.set_cons_succ])
          go_cut [9] (fun v9 wc => ∃ (kq : Nat) (x9_16 : Int), v9 = .int .i64 x9_16 ∧ Aside0 (spec_gpWindows.j3 kq l0 a1 x9_16 x11_3 x12_3 x13_3 = some (r1, r2, r3)) ∧ Aside0 (kq ≤ k3) ∧ Aside0 (Below w.heap.size w wc))
          case first =>
           have H := HC17.out
           clear HC17
           by_cases c20 : t108 = true
           ·subst c20
            rw [if_pos rfl] at H
            have H' := Aside0.mk H
            clear H
            go_wp2
            go_meet
            case rel => exact ⟨_, (wrap64 (x9_3 - 1)), (by first | rfl | (simp; done) | (simp [*]; done)), H', ⟨by have := HJ3.out; have := HK2.out; have := HK3.out; first | omega | exact Nat.le_refl _⟩, ⟨by apply_rules only [HB.out, below_alloc, pw_below_drewN, below_drew1]⟩⟩
           ·replace c20 := Bool.eq_false_iff.mpr c20
            subst c20
            rw [if_neg (show ¬ (false = true) by decide)] at H
            have H' := Aside0.mk H
            clear H
            go_wp2
            go_meet
            case rel => exact ⟨_, (x9_3), (by first | rfl | (simp; done) | (simp [*]; done)), H', ⟨by have := HJ3.out; have := HK2.out; have := HK3.out; first | omega | exact Nat.le_refl _⟩, ⟨by apply_rules only [HB.out, below_alloc, pw_below_drewN, below_drew1]⟩⟩
          case rest =>
           clear HC17
           (try clear c8); (try clear c9); (try clear c9b0); (try clear c15); (try clear c15b0)
           obtain ⟨kq, x9_16, rfl, HA, HJ16, HB⟩ := hcut
           cases kq with
           | zero => exact absurd HA.out (by simp [spec_gpWindows.j3])
           | succ kj16 =>
            have H := HA.out
            clear HA
            simp only [spec_gpWindows.j3] at H
            replace H := Option.bind_eq_some_iff.mp H
            obtain ⟨t109, A210, H⟩ := H
            (try dsimp only at H)
            have A21 := Aside0.mk A210
            clear A210
            by_cases c22 : t109 = true
            ·subst c22
             rw [if_pos rfl] at H
             replace H := Option.bind_eq_some_iff.mp H
             obtain ⟨t110, A230, H⟩ := H
             (try dsimp only at H)
             have A23 := Aside0.mk A230
             clear A230
             replace H := Option.bind_eq_some_iff.mp H
             obtain ⟨t111, A240, H⟩ := H
             (try dsimp only at H)
             have A24 := Aside0.mk A240
             clear A240
             have H' := Aside0.mk H
             clear H
             go_wp2_with (first | ((with_reducible refine gate_callee (f := 81) rfl ?_); refine goesL_ (some 53) rfl rfl Try.func81 (by kernel_rfl) rfl #[.slice A0 l0.length c0, .int .i64 (wrap64 (x13_3 + a1))] rfl (by (try simp only [List.map_toArray, List.map_cons, List.map_nil]); first | done | rfl | (simp only [List.length_drop, List.length_take]; rfl)) ?_; (with_reducible refine (spec_siLeft.calls kj16 _ _ l0 (wrap64 (x13_3 + a1)) true _ ?side1 ?side2 A21.out).mono ?_); (case side1 => repeat (first | exact (Kd.C_below HR0.out HB.out) | (with_reducible refine Kd.C_alloc ?_ _) | (with_reducible refine Kd.C_drewN ?_ _) | (with_reducible refine Kd.C_drew ?_))); (case side2 => exact HC0.out); rintro e w25 ⟨rfl, hb⟩; refine ⟨_, rfl, ?_⟩; have n0_ := Aside0.mk (below_step (by apply_rules only [HB.out, below_alloc, pw_below_drewN, below_drew1]) hb); clear HB; have HB := n0_; clear n0_; (try clear hb); (try clear hb2); (try clear hk); (try clear hi)) | ((with_reducible refine gate_callee (f := 70) rfl ?_); refine goesL_ (some 58) rfl rfl Try.func70 (by kernel_rfl) rfl #[.int .i64 x11_3, .int .i64 (wrap64 (x9_16 + 1))] rfl (by (try simp only [List.map_toArray, List.map_cons, List.map_nil]); first | done | rfl | (simp only [List.length_drop, List.length_take]; rfl)) ?_; (with_reducible refine (spec_l1Most.calls x11_3 (wrap64 (x9_16 + 1)) t110 _ A23.out).mono ?_); rintro e w' ⟨rfl, ⟨nd, rfl⟩⟩; refine ⟨_, rfl, ?_⟩) | ((with_reducible refine gate_callee (f := 94) rfl ?_); refine goesL_ (some 61) rfl rfl Try.func94 (by kernel_rfl) rfl #[.int .i64 x12_3, .int .i64 (wrap64 (x9_16 + 1))] rfl (by (try simp only [List.map_toArray, List.map_cons, List.map_nil]); first | done | rfl | (simp only [List.length_drop, List.length_take]; rfl)) ?_; (with_reducible refine (spec_l1Least.calls x12_3 (wrap64 (x9_16 + 1)) t111 _ A24.out).mono ?_); rintro e w' ⟨rfl, ⟨nd, rfl⟩⟩; refine ⟨_, rfl, ?_⟩))
             go_roundg kj16
             case measure => have := HJ3.out; have := HK2.out; have := HK3.out; have := HJ16.out; omega
             case rel => exact ⟨(wrap64 (x9_16 + 1)), (t110), (t111), (wrap64 (x13_3 + 1)), (by first | rfl | (simp; done) | (simp [*]; done)), (by first | rfl | (simp; done) | (simp [*]; done)), (by first | rfl | (simp; done) | (simp [*]; done)), (by first | rfl | (simp; done) | (simp [*]; done)), H', ⟨by have := HJ3.out; have := HK2.out; have := HK3.out; have := HJ16.out; omega⟩, ⟨by apply_rules only [HB.out, below_alloc, pw_below_drewN, below_drew1]⟩⟩
            ·replace c22 := Bool.eq_false_iff.mpr c22
             subst c22
             rw [if_neg (show ¬ (false = true) by decide)] at H
             replace H := Option.bind_eq_some_iff.mp H
             obtain ⟨t112, A260, H⟩ := H
             (try dsimp only at H)
             have A26 := Aside0.mk A260
             clear A260
             replace H := Option.bind_eq_some_iff.mp H
             obtain ⟨t113, A270, H⟩ := H
             (try dsimp only at H)
             have A27 := Aside0.mk A270
             clear A270
             have H' := Aside0.mk H
             clear H
             go_wp2_with (first | ((with_reducible refine gate_callee (f := 81) rfl ?_); refine goesL_ (some 53) rfl rfl Try.func81 (by kernel_rfl) rfl #[.slice A0 l0.length c0, .int .i64 (wrap64 (x13_3 + a1))] rfl (by (try simp only [List.map_toArray, List.map_cons, List.map_nil]); first | done | rfl | (simp only [List.length_drop, List.length_take]; rfl)) ?_; (with_reducible refine (spec_siLeft.calls kj16 _ _ l0 (wrap64 (x13_3 + a1)) false _ ?side1 ?side2 A21.out).mono ?_); (case side1 => repeat (first | exact (Kd.C_below HR0.out HB.out) | (with_reducible refine Kd.C_alloc ?_ _) | (with_reducible refine Kd.C_drewN ?_ _) | (with_reducible refine Kd.C_drew ?_))); (case side2 => exact HC0.out); rintro e w28 ⟨rfl, hb⟩; refine ⟨_, rfl, ?_⟩; have n0_ := Aside0.mk (below_step (by apply_rules only [HB.out, below_alloc, pw_below_drewN, below_drew1]) hb); clear HB; have HB := n0_; clear n0_; (try clear hb); (try clear hb2); (try clear hk); (try clear hi)) | ((with_reducible refine gate_callee (f := 70) rfl ?_); refine goesL_ (some 58) rfl rfl Try.func70 (by kernel_rfl) rfl #[.int .i64 x11_3, .int .i64 x9_16] rfl (by (try simp only [List.map_toArray, List.map_cons, List.map_nil]); first | done | rfl | (simp only [List.length_drop, List.length_take]; rfl)) ?_; (with_reducible refine (spec_l1Most.calls x11_3 x9_16 t112 _ A26.out).mono ?_); rintro e w' ⟨rfl, ⟨nd, rfl⟩⟩; refine ⟨_, rfl, ?_⟩) | ((with_reducible refine gate_callee (f := 94) rfl ?_); refine goesL_ (some 61) rfl rfl Try.func94 (by kernel_rfl) rfl #[.int .i64 x12_3, .int .i64 x9_16] rfl (by (try simp only [List.map_toArray, List.map_cons, List.map_nil]); first | done | rfl | (simp only [List.length_drop, List.length_take]; rfl)) ?_; (with_reducible refine (spec_l1Least.calls x12_3 x9_16 t113 _ A27.out).mono ?_); rintro e w' ⟨rfl, ⟨nd, rfl⟩⟩; refine ⟨_, rfl, ?_⟩))
             go_roundg kj16
             case measure => have := HJ3.out; have := HK2.out; have := HK3.out; have := HJ16.out; omega
             case rel => exact ⟨(x9_16), (t112), (t113), (wrap64 (x13_3 + 1)), (by first | rfl | (simp; done) | (simp [*]; done)), (by first | rfl | (simp; done) | (simp [*]; done)), (by first | rfl | (simp; done) | (simp [*]; done)), (by first | rfl | (simp; done) | (simp [*]; done)), H', ⟨by have := HJ3.out; have := HK2.out; have := HK3.out; have := HJ16.out; omega⟩, ⟨by apply_rules only [HB.out, below_alloc, pw_below_drewN, below_drew1]⟩⟩
         ·rw [if_neg c15] at H
          have c15b0 : decide (x13_3 < t107) = false := decide_eq_false c15
          clear c15
          simp only [Option.some.injEq, Prod.mk.injEq] at H
          obtain ⟨rfl, rfl, rfl⟩ := H
          go_wp2_with (first | ((with_reducible refine gate_callee (f := 91) rfl ?_); refine goesL_ (some 40) rfl rfl Try.func91 (by kernel_rfl) rfl #[.slice A0 l0.length c0] rfl (by (try simp only [List.map_toArray, List.map_cons, List.map_nil]); first | done | rfl | (simp only [List.length_drop, List.length_take]; rfl)) ?_; (with_reducible refine (spec_siPeriod.calls k3 _ _ l0 t107 _ ?side1 ?side2 A14.out).mono ?_); (case side1 => repeat (first | exact (Kd.C_below HR0.out HB.out) | (with_reducible refine Kd.C_alloc ?_ _) | (with_reducible refine Kd.C_drewN ?_ _) | (with_reducible refine Kd.C_drew ?_))); (case side2 => exact HC0.out); rintro e w29 ⟨rfl, hb⟩; refine ⟨_, rfl, ?_⟩; have n0_ := Aside0.mk (below_step (by apply_rules only [HB.out, below_alloc, pw_below_drewN, below_drew1]) hb); clear HB; have HB := n0_; clear n0_; (try clear hb); (try clear hb2); (try clear hk); (try clear hi)))
          go_ret3
          exact ⟨by first | rfl | (simp [errW_none, errW_some] <;> rfl) | (simp [*, errW_none, errW_some] <;> rfl), by apply_rules only [HB.out, below_alloc, pw_below_drewN, below_drew1]⟩
end Go.Proofs.Ytphlfkeamhpimaa.P
namespace Go.Proofs.Ytphlfkeamhpimaa.P
open Go.RowKit Go.Proofs.YtphlfkeamhpimaaW.PrintWords Go.Proofs.YtphlfkeamhpimaaW.PrintLast Go.Proofs.YtphlfkeamhpimaaW.PrintMore
attribute [local go_sem] max2_int min2_int max_two min_two max_three min_three max_four min_four
set_option linter.unusedVariables false
set_option linter.unusedSimpArgs false
def spec_MostInWindow.f (k : Nat) (l0 : List (SRule)) (a1 : Int) : Option (Int × Bool) := (spec_gpWindows.f k l0 a1).bind fun bt101 => (some (bt101.1, bt101.2.2))
set_option maxHeartbeats 8000000 in
set_option maxRecDepth 100000 in
theorem spec_MostInWindow.calls (k : Nat) (A0 : Option Addr) (c0 : Nat) (l0 : List (SRule)) (a1 : Int) (r1 : Int) (r2 : Bool) (w : World) (hr0 : Kd.C kRule w A0 l0.length l0) (hc0 : l0.length ≤ c0) (h : spec_MostInWindow.f k l0 a1 = some (r1, r2)) :
  Calls Try.prog 50 #[.slice A0 l0.length c0, .int .i64 a1] w fun e w' => e = .returned (.tuple #[.int .i64 r1, .bool r2]) ∧ Below w.heap.size w w' := by
 have HR0 := Aside0.mk hr0
 have HC0 := Aside0.mk hc0
 clear hr0 hc0
 have HB := Aside0.mk (Below.refl w.heap.size w)
 have H : ((spec_gpWindows.f k l0 a1).bind fun bt101 => (some (bt101.1, bt101.2.2))) = some (r1, r2) := h
 clear h
 replace H := Option.bind_eq_some_iff.mp H
 obtain ⟨⟨t101, t102, t103⟩, A30, H⟩ := H
 (try dsimp only at H)
 have A3 := Aside0.mk A30
 clear A30
 simp only [Option.some.injEq, Prod.mk.injEq] at H
 obtain ⟨rfl, rfl⟩ := H
 go_enter Try.func50, Try.ntmps50
 go_wp2_with (first | ((with_reducible refine gate_callee (f := 79) rfl ?_); refine goesL_ (some 12) rfl rfl Try.func79 (by kernel_rfl) rfl #[.slice A0 l0.length c0, .int .i64 a1] rfl (by (try simp only [List.map_toArray, List.map_cons, List.map_nil]); first | done | rfl | (simp only [List.length_drop, List.length_take]; rfl)) ?_; (with_reducible refine (spec_gpWindows.calls k _ _ l0 a1 t101 t102 t103 _ ?side1 ?side2 A3.out).mono ?_); (case side1 => repeat (first | exact HR0.out | (with_reducible refine Kd.C_alloc ?_ _) | (with_reducible refine Kd.C_drewN ?_ _) | (with_reducible refine Kd.C_drew ?_))); (case side2 => exact HC0.out); rintro e w4 ⟨rfl, hb⟩; refine ⟨_, rfl, ?_⟩; have n0_ := Aside0.mk (below_step (by apply_rules only [HB.out, below_alloc, pw_below_drewN, below_drew1]) hb); clear HB; have HB := n0_; clear n0_; (try clear hb); (try clear hb2); (try clear hk); (try clear hi)))
 go_ret2
 exact ⟨by first | rfl | (simp [errW_none, errW_some] <;> rfl) | (simp [*, errW_none, errW_some] <;> rfl), by apply_rules only [HB.out, below_alloc, pw_below_drewN, below_drew1]⟩
end Go.Proofs.Ytphlfkeamhpimaa.P
namespace Go.Proofs.Ytphlfkeamhpimaa.P
open Go.RowKit Go.Proofs.YtphlfkeamhpimaaW.PrintWords Go.Proofs.YtphlfkeamhpimaaW.PrintLast Go.Proofs.YtphlfkeamhpimaaW.PrintMore
attribute [local go_sem] max2_int min2_int max_two min_two max_three min_three max_four min_four
set_option linter.unusedVariables false
set_option linter.unusedSimpArgs false
def spec_LeastInWindow.f (k : Nat) (l0 : List (SRule)) (a1 : Int) : Option (Int × Bool) := (spec_gpWindows.f k l0 a1).bind fun bt101 => (some (bt101.2.1, bt101.2.2))
set_option maxHeartbeats 8000000 in
set_option maxRecDepth 100000 in
theorem spec_LeastInWindow.calls (k : Nat) (A0 : Option Addr) (c0 : Nat) (l0 : List (SRule)) (a1 : Int) (r1 : Int) (r2 : Bool) (w : World) (hr0 : Kd.C kRule w A0 l0.length l0) (hc0 : l0.length ≤ c0) (h : spec_LeastInWindow.f k l0 a1 = some (r1, r2)) :
  Calls Try.prog 51 #[.slice A0 l0.length c0, .int .i64 a1] w fun e w' => e = .returned (.tuple #[.int .i64 r1, .bool r2]) ∧ Below w.heap.size w w' := by
 have HR0 := Aside0.mk hr0
 have HC0 := Aside0.mk hc0
 clear hr0 hc0
 have HB := Aside0.mk (Below.refl w.heap.size w)
 have H : ((spec_gpWindows.f k l0 a1).bind fun bt101 => (some (bt101.2.1, bt101.2.2))) = some (r1, r2) := h
 clear h
 replace H := Option.bind_eq_some_iff.mp H
 obtain ⟨⟨t101, t102, t103⟩, A30, H⟩ := H
 (try dsimp only at H)
 have A3 := Aside0.mk A30
 clear A30
 simp only [Option.some.injEq, Prod.mk.injEq] at H
 obtain ⟨rfl, rfl⟩ := H
 go_enter Try.func51, Try.ntmps51
 go_wp2_with (first | ((with_reducible refine gate_callee (f := 79) rfl ?_); refine goesL_ (some 12) rfl rfl Try.func79 (by kernel_rfl) rfl #[.slice A0 l0.length c0, .int .i64 a1] rfl (by (try simp only [List.map_toArray, List.map_cons, List.map_nil]); first | done | rfl | (simp only [List.length_drop, List.length_take]; rfl)) ?_; (with_reducible refine (spec_gpWindows.calls k _ _ l0 a1 t101 t102 t103 _ ?side1 ?side2 A3.out).mono ?_); (case side1 => repeat (first | exact HR0.out | (with_reducible refine Kd.C_alloc ?_ _) | (with_reducible refine Kd.C_drewN ?_ _) | (with_reducible refine Kd.C_drew ?_))); (case side2 => exact HC0.out); rintro e w4 ⟨rfl, hb⟩; refine ⟨_, rfl, ?_⟩; have n0_ := Aside0.mk (below_step (by apply_rules only [HB.out, below_alloc, pw_below_drewN, below_drew1]) hb); clear HB; have HB := n0_; clear n0_; (try clear hb); (try clear hb2); (try clear hk); (try clear hi)))
 go_ret2
 exact ⟨by first | rfl | (simp [errW_none, errW_some] <;> rfl) | (simp [*, errW_none, errW_some] <;> rfl), by apply_rules only [HB.out, below_alloc, pw_below_drewN, below_drew1]⟩
end Go.Proofs.Ytphlfkeamhpimaa.P
namespace Go.Proofs.Ytphlfkeamhpimaa.P
open Go.RowKit Go.Proofs.YtphlfkeamhpimaaW.PrintWords Go.Proofs.YtphlfkeamhpimaaW.PrintLast Go.Proofs.YtphlfkeamhpimaaW.PrintMore
attribute [local go_sem] max2_int min2_int max_two min_two max_three min_three max_four min_four
set_option linter.unusedVariables false
set_option linter.unusedSimpArgs false
mutual
def spec_PairsInPeriod.j0 : Nat → List (SRule) → Int → List Int → Bool → Option (Int × Bool)
 | 0, _, _, _, _ => none
 | k + 1, x0, x1, x6, x22 => if x22 = true then (some (0, false)) else (spec_PairsInPeriod.l0 k x0 x1 0 x6 (x6.length : Int) 0)
def spec_PairsInPeriod.l0 : Nat → List (SRule) → Int → Int → List Int → Int → Int → Option (Int × Bool)
 | 0, _, _, _, _, _, _ => none
 | k + 1, x0, x1, x8, x23, x24, x25 => if x25 < x24 then (if 0 ≤ x25 then (if x25 < (x23.length : Int) then ((spec_siLeft.f k x0 (wrap64 ((rd x23 x25) + x1))).bind fun t107 => (if t107 = true then (spec_PairsInPeriod.l0 k x0 x1 (wrap64 (x8 + 1)) x23 x24 (wrap64 (x25 + 1))) else (spec_PairsInPeriod.l0 k x0 x1 x8 x23 x24 (wrap64 (x25 + 1))))) else (none)) else (none)) else (some (x8, true))
end
def spec_PairsInPeriod.f (k : Nat) (l0 : List (SRule)) (a1 : Int) : Option (Int × Bool) := (spec_gpLeft.f k l0).bind fun bt101 => (if bt101.2 = true then ((spec_l1In.f a1 0 1000).bind fun t105 => (spec_PairsInPeriod.j0 k l0 a1 bt101.1 (!t105))) else (spec_PairsInPeriod.j0 k l0 a1 bt101.1 true))
set_option maxHeartbeats 8000000 in
set_option maxRecDepth 100000 in
theorem spec_PairsInPeriod.calls (k : Nat) (A0 : Option Addr) (c0 : Nat) (l0 : List (SRule)) (a1 : Int) (r1 : Int) (r2 : Bool) (w : World) (hr0 : Kd.C kRule w A0 l0.length l0) (hc0 : l0.length ≤ c0) (h : spec_PairsInPeriod.f k l0 a1 = some (r1, r2)) :
  Calls Try.prog 52 #[.slice A0 l0.length c0, .int .i64 a1] w fun e w' => e = .returned (.tuple #[.int .i64 r1, .bool r2]) ∧ Below w.heap.size w w' := by
 have HR0 := Aside0.mk hr0
 have HC0 := Aside0.mk hc0
 clear hr0 hc0
 have HB := Aside0.mk (Below.refl w.heap.size w)
 have H : ((spec_gpLeft.f k l0).bind fun bt101 => (if bt101.2 = true then ((spec_l1In.f a1 0 1000).bind fun t105 => (spec_PairsInPeriod.j0 k l0 a1 bt101.1 (!t105))) else (spec_PairsInPeriod.j0 k l0 a1 bt101.1 true))) = some (r1, r2) := h
 clear h
 replace H := Option.bind_eq_some_iff.mp H
 obtain ⟨⟨t101, t102⟩, A30, H⟩ := H
 (try dsimp only at H)
 have A3 := Aside0.mk A30
 clear A30
 have HC4 := Aside0.mk H
 clear H
 go_enter Try.func52, Try.ntmps52
 go_upto_region 2 with (first | ((with_reducible refine gate_callee (f := 80) rfl ?_); refine goesL_ (some 13) rfl rfl Try.func80 (by kernel_rfl) rfl #[.slice A0 l0.length c0] rfl (by (try simp only [List.map_toArray, List.map_cons, List.map_nil]); first | done | rfl | (simp only [List.length_drop, List.length_take]; rfl)) ?_; (with_reducible refine (spec_gpLeft.calls k _ _ l0 t101 t102 _ ?side1 ?side2 A3.out).mono ?_); (case side1 => repeat (first | exact HR0.out | (with_reducible refine Kd.C_alloc ?_ _) | (with_reducible refine Kd.C_drewN ?_ _) | (with_reducible refine Kd.C_drew ?_))); (case side2 => exact HC0.out); rintro e w5 ⟨v103, rfl, ho0, hb⟩; refine ⟨_, rfl, ?_⟩; have n0_ := Aside0.mk (Kd.R_lower ho0 (below_size (by apply_rules only [HB.out, below_alloc, pw_below_drewN, below_drew1]))); have n1_ := Aside0.mk (below_step (by apply_rules only [HB.out, below_alloc, pw_below_drewN, below_drew1]) hb); clear HB; have HO104 := n0_; have HB := n1_; clear n0_ n1_; (try clear hb); (try clear hb2); (try clear hk); (try clear hi); (try clear ho0)))
 (try simp only [Act.put, List.setIfInBounds_toArray, List.set_cons_zero, List.set_cons_succ])
 go_cut [22] (fun v22 wc => ∃ (kq : Nat) (x22_3 : Bool), v22 = .bool x22_3 ∧ Aside0 (spec_PairsInPeriod.j0 kq l0 a1 t101 x22_3 = some (r1, r2)) ∧ Aside0 (kq ≤ k) ∧ Aside0 (Kd.R (Kd.int .i64) 3 wc w.heap.size (fun _ => True) v103 t101) ∧ Aside0 (Below w.heap.size w wc))
 case first =>
  have H := HC4.out
  clear HC4
  by_cases c6 : t102 = true
  ·subst c6
   rw [if_pos rfl] at H
   replace H := Option.bind_eq_some_iff.mp H
   obtain ⟨t105, A70, H⟩ := H
   (try dsimp only at H)
   have A7 := Aside0.mk A70
   clear A70
   have H' := Aside0.mk H
   clear H
   go_wp2_with (first | (go_at_call 65; (with_reducible refine (spec_l1In.calls a1 0 1000 t105 _ A7.out).mono ?_); rintro e w' ⟨rfl, ⟨nd, rfl⟩⟩))
   go_meet
   case rel => exact ⟨_, (!t105), (by first | rfl | (simp; done) | (simp [*]; done)), H', ⟨by first | omega | exact Nat.le_refl _⟩, ⟨by apply_rules only [HO104.out, Kd.R_alloc, Kd.R_drewN, Kd.R_drew]⟩, ⟨by apply_rules only [HB.out, below_alloc, pw_below_drewN, below_drew1]⟩⟩
  ·replace c6 := Bool.eq_false_iff.mpr c6
   subst c6
   rw [if_neg (show ¬ (false = true) by decide)] at H
   have H' := Aside0.mk H
   clear H
   go_wp2
   go_meet
   case rel => exact ⟨_, (true), (by first | rfl | (simp; done) | (simp [*]; done)), H', ⟨by first | omega | exact Nat.le_refl _⟩, ⟨by apply_rules only [HO104.out, Kd.R_alloc, Kd.R_drewN, Kd.R_drew]⟩, ⟨by apply_rules only [HB.out, below_alloc, pw_below_drewN, below_drew1]⟩⟩
 case rest =>
  clear HC4
  obtain ⟨kq, x22_3, rfl, HA, HJ3, HO_6, HB⟩ := hcut
  cases kq with
  | zero => exact absurd HA.out (by simp [spec_PairsInPeriod.j0])
  | succ kj3 =>
   have H := HA.out
   clear HA
   simp only [spec_PairsInPeriod.j0] at H
   by_cases c8 : x22_3 = true
   ·subst c8
    rw [if_pos rfl] at H
    simp only [Option.some.injEq, Prod.mk.injEq] at H
    obtain ⟨rfl, rfl⟩ := H
    go_wp2
    go_ret2
    exact ⟨by first | rfl | (simp [errW_none, errW_some] <;> rfl) | (simp [*, errW_none, errW_some] <;> rfl), by apply_rules only [HB.out, below_alloc, pw_below_drewN, below_drew1]⟩
   ·replace c8 := Bool.eq_false_iff.mpr c8
    subst c8
    rw [if_neg (show ¬ (false = true) by decide)] at H
    have H' := Aside0.mk H
    clear H
    obtain ⟨Ao9, co9, eo9⟩ := Kd.R_slice HO_6.out
    subst eo9
    go_wp2
    go_loopg [8, 25] kj3 (fun kq v8 v25 w' => ∃ (x8_2 : Int) (x25_2 : Int), v8 = .int .i64 x8_2 ∧ v25 = .int .i64 x25_2 ∧ Aside0 (spec_PairsInPeriod.l0 kq l0 a1 x8_2 t101 (t101.length : Int) x25_2 = some (r1, r2)) ∧ Aside0 (kq ≤ kj3) ∧ Aside0 (Kd.R (Kd.int .i64) 3 w' w.heap.size (fun _ => True) (.slice Ao9 t101.length co9) t101) ∧ Aside0 (Below w.heap.size w w'))
    case atStart => exact ⟨(0), (0), (by first | rfl | (simp; done) | (simp [*]; done)), (by first | rfl | (simp; done) | (simp [*]; done)), H', ⟨Nat.le_refl _⟩, ⟨by apply_rules only [HO_6.out, Kd.R_alloc, Kd.R_drewN, Kd.R_drew]⟩, ⟨by apply_rules only [HB.out, below_alloc, pw_below_drewN, below_drew1]⟩⟩
    case round =>
     clear H'
     (try clear c8)
     obtain ⟨x8_2, x25_2, rfl, rfl, HA, HK2, HO_23, HB⟩ := hrel
     cases gk with
     | zero => exact absurd HA.out (by simp [spec_PairsInPeriod.l0])
     | succ k2 =>
      have H := HA.out
      clear HA
      simp only [spec_PairsInPeriod.l0] at H
      by_cases c10 : x25_2 < (t101.length : Int)
      ·rw [if_pos c10] at H
       have c10b0 : decide (x25_2 < (t101.length : Int)) = true := decide_eq_true c10
       clear c10
       by_cases c11 : 0 ≤ x25_2
       ·rw [if_pos c11] at H
        have c11b0 : decide (0 ≤ x25_2) = true := decide_eq_true c11
        clear c11
        by_cases c12 : x25_2 < (t101.length : Int)
        ·rw [if_pos c12] at H
         have c12b0 : decide (x25_2 < (t101.length : Int)) = true := decide_eq_true c12
         clear c12
         replace H := Option.bind_eq_some_iff.mp H
         obtain ⟨t107, A130, H⟩ := H
         (try dsimp only at H)
         have A13 := Aside0.mk A130
         clear A130
         by_cases c14 : t107 = true
         ·subst c14
          rw [if_pos rfl] at H
          have H' := Aside0.mk H
          clear H
          have p106 : 0 ≤ (x25_2 : Int) := of_decide_eq_true (by first | (with_reducible assumption) | assumption)
          have q106 : x25_2 < (t101.length : Int) := of_decide_eq_true (by first | (with_reducible assumption) | assumption)
          obtain ⟨ad106, e106, hx106_0⟩ := Kd.at_int (Kd.R_reads' HO_23.out).2.2 x25_2 p106 q106
          cases e106
          replace p106 := eq_true p106
          replace q106 := eq_true q106
          go_wp2_with (first | ((with_reducible refine gate_callee (f := 81) rfl ?_); refine goesL_ (some 33) rfl rfl Try.func81 (by kernel_rfl) rfl #[.slice A0 l0.length c0, .int .i64 (wrap64 ((rd t101 x25_2) + a1))] rfl (by (try simp only [List.map_toArray, List.map_cons, List.map_nil]); first | done | rfl | (simp only [List.length_drop, List.length_take]; rfl)) ?_; (with_reducible refine (spec_siLeft.calls k2 _ _ l0 (wrap64 ((rd t101 x25_2) + a1)) true _ ?side1 ?side2 A13.out).mono ?_); (case side1 => repeat (first | exact (Kd.C_below HR0.out HB.out) | (with_reducible refine Kd.C_alloc ?_ _) | (with_reducible refine Kd.C_drewN ?_ _) | (with_reducible refine Kd.C_drew ?_))); (case side2 => exact HC0.out); rintro e w15 ⟨rfl, hb⟩; refine ⟨_, rfl, ?_⟩; have n0_ := Aside0.mk (Kd.R_below (by apply_rules only [HO_23.out, Kd.R_alloc, Kd.R_drewN, Kd.R_drew]) hb); have n1_ := Aside0.mk (below_step (by apply_rules only [HB.out, below_alloc, pw_below_drewN, below_drew1]) hb); clear HO_23; clear HB; have HO_23 := n0_; have HB := n1_; clear n0_ n1_; (try clear hb); (try clear hb2); (try clear hk); (try clear hi)))
          go_roundg k2
          case measure => have := HJ3.out; have := HK2.out; omega
          case rel => exact ⟨(wrap64 (x8_2 + 1)), (wrap64 (x25_2 + 1)), (by first | rfl | (simp; done) | (simp [*]; done)), (by first | rfl | (simp; done) | (simp [*]; done)), H', ⟨by have := HJ3.out; have := HK2.out; omega⟩, ⟨by apply_rules only [HO_23.out, Kd.R_alloc, Kd.R_drewN, Kd.R_drew]⟩, ⟨by apply_rules only [HB.out, below_alloc, pw_below_drewN, below_drew1]⟩⟩
         ·replace c14 := Bool.eq_false_iff.mpr c14
          subst c14
          rw [if_neg (show ¬ (false = true) by decide)] at H
          have H' := Aside0.mk H
          clear H
          have p106 : 0 ≤ (x25_2 : Int) := of_decide_eq_true (by first | (with_reducible assumption) | assumption)
          have q106 : x25_2 < (t101.length : Int) := of_decide_eq_true (by first | (with_reducible assumption) | assumption)
          obtain ⟨ad106, e106, hx106_0⟩ := Kd.at_int (Kd.R_reads' HO_23.out).2.2 x25_2 p106 q106
          cases e106
          replace p106 := eq_true p106
          replace q106 := eq_true q106
          go_wp2_with (first | ((with_reducible refine gate_callee (f := 81) rfl ?_); refine goesL_ (some 33) rfl rfl Try.func81 (by kernel_rfl) rfl #[.slice A0 l0.length c0, .int .i64 (wrap64 ((rd t101 x25_2) + a1))] rfl (by (try simp only [List.map_toArray, List.map_cons, List.map_nil]); first | done | rfl | (simp only [List.length_drop, List.length_take]; rfl)) ?_; (with_reducible refine (spec_siLeft.calls k2 _ _ l0 (wrap64 ((rd t101 x25_2) + a1)) false _ ?side1 ?side2 A13.out).mono ?_); (case side1 => repeat (first | exact (Kd.C_below HR0.out HB.out) | (with_reducible refine Kd.C_alloc ?_ _) | (with_reducible refine Kd.C_drewN ?_ _) | (with_reducible refine Kd.C_drew ?_))); (case side2 => exact HC0.out); rintro e w16 ⟨rfl, hb⟩; refine ⟨_, rfl, ?_⟩; have n0_ := Aside0.mk (Kd.R_below (by apply_rules only [HO_23.out, Kd.R_alloc, Kd.R_drewN, Kd.R_drew]) hb); have n1_ := Aside0.mk (below_step (by apply_rules only [HB.out, below_alloc, pw_below_drewN, below_drew1]) hb); clear HO_23; clear HB; have HO_23 := n0_; have HB := n1_; clear n0_ n1_; (try clear hb); (try clear hb2); (try clear hk); (try clear hi)))
          go_roundg k2
          case measure => have := HJ3.out; have := HK2.out; omega
          case rel => exact ⟨(x8_2), (wrap64 (x25_2 + 1)), (by first | rfl | (simp; done) | (simp [*]; done)), (by first | rfl | (simp; done) | (simp [*]; done)), H', ⟨by have := HJ3.out; have := HK2.out; omega⟩, ⟨by apply_rules only [HO_23.out, Kd.R_alloc, Kd.R_drewN, Kd.R_drew]⟩, ⟨by apply_rules only [HB.out, below_alloc, pw_below_drewN, below_drew1]⟩⟩
        ·rw [if_neg c12] at H
         exact absurd H (by simp)
       ·rw [if_neg c11] at H
        exact absurd H (by simp)
      ·rw [if_neg c10] at H
       have c10b0 : decide (x25_2 < (t101.length : Int)) = false := decide_eq_false c10
       clear c10
       simp only [Option.some.injEq, Prod.mk.injEq] at H
       obtain ⟨rfl, rfl⟩ := H
       go_wp2
       go_ret2
       exact ⟨by first | rfl | (simp [errW_none, errW_some] <;> rfl) | (simp [*, errW_none, errW_some] <;> rfl), by apply_rules only [HB.out, below_alloc, pw_below_drewN, below_drew1]⟩
end Go.Proofs.Ytphlfkeamhpimaa.P
namespace Go.Proofs.Ytphlfkeamhpimaa.P
open Go.RowKit Go.Proofs.YtphlfkeamhpimaaW.PrintWords Go.Proofs.YtphlfkeamhpimaaW.PrintLast Go.Proofs.YtphlfkeamhpimaaW.PrintMore
attribute [local go_sem] max2_int min2_int max_two min_two max_three min_three max_four min_four
set_option linter.unusedVariables false
set_option linter.unusedSimpArgs false
mutual
def spec_CountGaps.j0 : Nat → Int → List Int → Bool → Option (Int × Bool)
 | 0, _, _, _ => none
 | k + 1, x1, x6, x23 => if x23 = true then (some (0, false)) else (spec_CountGaps.l0 k x1 0 x6 (x6.length : Int) 0)
def spec_CountGaps.l0 : Nat → Int → Int → List Int → Int → Int → Option (Int × Bool)
 | 0, _, _, _, _, _ => none
 | k + 1, x1, x9, x24, x25, x26 => if x26 < x25 then (if 0 ≤ x26 then (if x26 < (x24.length : Int) then (if (rd x24 x26) = x1 then (spec_CountGaps.l0 k x1 (wrap64 (x9 + 1)) x24 x25 (wrap64 (x26 + 1))) else (spec_CountGaps.l0 k x1 x9 x24 x25 (wrap64 (x26 + 1)))) else (none)) else (none)) else (some (x9, true))
end
def spec_CountGaps.f (k : Nat) (l0 : List (SRule)) (a1 : Int) : Option (Int × Bool) := (spec_gpGaps.f k l0).bind fun bt101 => (if bt101.2.2 = true then (spec_CountGaps.j0 k a1 bt101.1 (decide (a1 < 1))) else (spec_CountGaps.j0 k a1 bt101.1 true))
set_option maxHeartbeats 8000000 in
set_option maxRecDepth 100000 in
theorem spec_CountGaps.calls (k : Nat) (A0 : Option Addr) (c0 : Nat) (l0 : List (SRule)) (a1 : Int) (r1 : Int) (r2 : Bool) (w : World) (hr0 : Kd.C kRule w A0 l0.length l0) (hc0 : l0.length ≤ c0) (h : spec_CountGaps.f k l0 a1 = some (r1, r2)) :
  Calls Try.prog 53 #[.slice A0 l0.length c0, .int .i64 a1] w fun e w' => e = .returned (.tuple #[.int .i64 r1, .bool r2]) ∧ Below w.heap.size w w' := by
 have HR0 := Aside0.mk hr0
 have HC0 := Aside0.mk hc0
 clear hr0 hc0
 have HB := Aside0.mk (Below.refl w.heap.size w)
 have H : ((spec_gpGaps.f k l0).bind fun bt101 => (if bt101.2.2 = true then (spec_CountGaps.j0 k a1 bt101.1 (decide (a1 < 1))) else (spec_CountGaps.j0 k a1 bt101.1 true))) = some (r1, r2) := h
 clear h
 replace H := Option.bind_eq_some_iff.mp H
 obtain ⟨⟨t101, t102, t103⟩, A30, H⟩ := H
 (try dsimp only at H)
 have A3 := Aside0.mk A30
 clear A30
 have HC4 := Aside0.mk H
 clear H
 go_enter Try.func53, Try.ntmps53
 go_upto_region 2 with (first | ((with_reducible refine gate_callee (f := 68) rfl ?_); refine goesL_ (some 14) rfl rfl Try.func68 (by kernel_rfl) rfl #[.slice A0 l0.length c0] rfl (by (try simp only [List.map_toArray, List.map_cons, List.map_nil]); first | done | rfl | (simp only [List.length_drop, List.length_take]; rfl)) ?_; (with_reducible refine (spec_gpGaps.calls k _ _ l0 t101 t102 t103 _ ?side1 ?side2 A3.out).mono ?_); (case side1 => repeat (first | exact HR0.out | (with_reducible refine Kd.C_alloc ?_ _) | (with_reducible refine Kd.C_drewN ?_ _) | (with_reducible refine Kd.C_drew ?_))); (case side2 => exact HC0.out); rintro e w5 ⟨v104, v106, rfl, ho0, ho1, hb⟩; refine ⟨_, rfl, ?_⟩; have n0_ := Aside0.mk (Kd.R_lower ho0 (below_size (by apply_rules only [HB.out, below_alloc, pw_below_drewN, below_drew1]))); have n1_ := Aside0.mk (Kd.R_lower ho1 (below_size (by apply_rules only [HB.out, below_alloc, pw_below_drewN, below_drew1]))); have n2_ := Aside0.mk (below_step (by apply_rules only [HB.out, below_alloc, pw_below_drewN, below_drew1]) hb); clear HB; have HO105 := n0_; have HO107 := n1_; have HB := n2_; clear n0_ n1_ n2_; (try clear hb); (try clear hb2); (try clear hk); (try clear hi); (try clear ho0); (try clear ho1)))
 (try simp only [Act.put, List.setIfInBounds_toArray, List.set_cons_zero, List.set_cons_succ])
 go_cut [23] (fun v23 wc => ∃ (kq : Nat) (x23_3 : Bool), v23 = .bool x23_3 ∧ Aside0 (spec_CountGaps.j0 kq a1 t101 x23_3 = some (r1, r2)) ∧ Aside0 (kq ≤ k) ∧ Aside0 (Kd.R (Kd.int .i64) 3 wc w.heap.size (fun _ => True) v104 t101) ∧ Aside0 (Below w.heap.size w wc))
 case first =>
  have H := HC4.out
  clear HC4
  by_cases c6 : t103 = true
  ·subst c6
   rw [if_pos rfl] at H
   have H' := Aside0.mk H
   clear H
   go_wp2
   go_meet
   case rel => exact ⟨_, (decide (a1 < 1)), (by first | rfl | (simp; done) | (simp [*]; done)), H', ⟨by first | omega | exact Nat.le_refl _⟩, ⟨by (with_reducible repeat (first | apply Kd.R_alloc | apply Kd.R_drewN | apply Kd.R_drew)); exact Kd.R_mono HO105.out (fun _ hk => trivial)⟩, ⟨by apply_rules only [HB.out, below_alloc, pw_below_drewN, below_drew1]⟩⟩
  ·replace c6 := Bool.eq_false_iff.mpr c6
   subst c6
   rw [if_neg (show ¬ (false = true) by decide)] at H
   have H' := Aside0.mk H
   clear H
   go_wp2
   go_meet
   case rel => exact ⟨_, (true), (by first | rfl | (simp; done) | (simp [*]; done)), H', ⟨by first | omega | exact Nat.le_refl _⟩, ⟨by (with_reducible repeat (first | apply Kd.R_alloc | apply Kd.R_drewN | apply Kd.R_drew)); exact Kd.R_mono HO105.out (fun _ hk => trivial)⟩, ⟨by apply_rules only [HB.out, below_alloc, pw_below_drewN, below_drew1]⟩⟩
 case rest =>
  clear HC4
  obtain ⟨kq, x23_3, rfl, HA, HJ3, HO_6, HB⟩ := hcut
  cases kq with
  | zero => exact absurd HA.out (by simp [spec_CountGaps.j0])
  | succ kj3 =>
   have H := HA.out
   clear HA
   simp only [spec_CountGaps.j0] at H
   by_cases c7 : x23_3 = true
   ·subst c7
    rw [if_pos rfl] at H
    simp only [Option.some.injEq, Prod.mk.injEq] at H
    obtain ⟨rfl, rfl⟩ := H
    go_wp2
    go_ret2
    exact ⟨by first | rfl | (simp [errW_none, errW_some] <;> rfl) | (simp [*, errW_none, errW_some] <;> rfl), by apply_rules only [HB.out, below_alloc, pw_below_drewN, below_drew1]⟩
   ·replace c7 := Bool.eq_false_iff.mpr c7
    subst c7
    rw [if_neg (show ¬ (false = true) by decide)] at H
    have H' := Aside0.mk H
    clear H
    obtain ⟨Ao8, co8, eo8⟩ := Kd.R_slice HO_6.out
    subst eo8
    go_wp2
    go_loopg [9, 26] kj3 (fun kq v9 v26 w' => ∃ (x9_2 : Int) (x26_2 : Int), v9 = .int .i64 x9_2 ∧ v26 = .int .i64 x26_2 ∧ Aside0 (spec_CountGaps.l0 kq a1 x9_2 t101 (t101.length : Int) x26_2 = some (r1, r2)) ∧ Aside0 (kq ≤ kj3) ∧ Aside0 (Kd.R (Kd.int .i64) 3 w' w.heap.size (fun _ => True) (.slice Ao8 t101.length co8) t101) ∧ Aside0 (Below w.heap.size w w'))
    case atStart => exact ⟨(0), (0), (by first | rfl | (simp; done) | (simp [*]; done)), (by first | rfl | (simp; done) | (simp [*]; done)), H', ⟨Nat.le_refl _⟩, ⟨by apply_rules only [HO_6.out, Kd.R_alloc, Kd.R_drewN, Kd.R_drew]⟩, ⟨by apply_rules only [HB.out, below_alloc, pw_below_drewN, below_drew1]⟩⟩
    case round =>
     clear H'
     (try clear c7)
     obtain ⟨x9_2, x26_2, rfl, rfl, HA, HK2, HO_24, HB⟩ := hrel
     cases gk with
     | zero => exact absurd HA.out (by simp [spec_CountGaps.l0])
     | succ k2 =>
      have H := HA.out
      clear HA
      simp only [spec_CountGaps.l0] at H
      by_cases c9 : x26_2 < (t101.length : Int)
      ·rw [if_pos c9] at H
       have c9b0 : decide (x26_2 < (t101.length : Int)) = true := decide_eq_true c9
       clear c9
       by_cases c10 : 0 ≤ x26_2
       ·rw [if_pos c10] at H
        have c10b0 : decide (0 ≤ x26_2) = true := decide_eq_true c10
        clear c10
        by_cases c11 : x26_2 < (t101.length : Int)
        ·rw [if_pos c11] at H
         have c11b0 : decide (x26_2 < (t101.length : Int)) = true := decide_eq_true c11
         clear c11
         by_cases c12 : (rd t101 x26_2) = a1
         ·rw [if_pos c12] at H
          have c12b0 : ((rd t101 x26_2) == a1) = true := beq_iff_eq.mpr c12
          have c12b1 : ((rd t101 x26_2) != a1) = false := bne_eq_false_iff_eq.mpr c12
          clear c12
          have H' := Aside0.mk H
          clear H
          have p108 : 0 ≤ (x26_2 : Int) := of_decide_eq_true (by first | (with_reducible assumption) | assumption)
          have q108 : x26_2 < (t101.length : Int) := of_decide_eq_true (by first | (with_reducible assumption) | assumption)
          obtain ⟨ad108, e108, hx108_0⟩ := Kd.at_int (Kd.R_reads' HO_24.out).2.2 x26_2 p108 q108
          cases e108
          replace p108 := eq_true p108
          replace q108 := eq_true q108
          go_wp2
          go_roundg k2
          case measure => have := HJ3.out; have := HK2.out; omega
          case rel => exact ⟨(wrap64 (x9_2 + 1)), (wrap64 (x26_2 + 1)), (by first | rfl | (simp; done) | (simp [*]; done)), (by first | rfl | (simp; done) | (simp [*]; done)), H', ⟨by have := HJ3.out; have := HK2.out; omega⟩, ⟨by apply_rules only [HO_24.out, Kd.R_alloc, Kd.R_drewN, Kd.R_drew]⟩, ⟨by apply_rules only [HB.out, below_alloc, pw_below_drewN, below_drew1]⟩⟩
         ·rw [if_neg c12] at H
          have c12b0 : ((rd t101 x26_2) == a1) = false := beq_eq_false_iff_ne.mpr c12
          have c12b1 : ((rd t101 x26_2) != a1) = true := bne_iff_ne.mpr c12
          have H' := Aside0.mk H
          clear H
          have p108 : 0 ≤ (x26_2 : Int) := of_decide_eq_true (by first | (with_reducible assumption) | assumption)
          have q108 : x26_2 < (t101.length : Int) := of_decide_eq_true (by first | (with_reducible assumption) | assumption)
          obtain ⟨ad108, e108, hx108_0⟩ := Kd.at_int (Kd.R_reads' HO_24.out).2.2 x26_2 p108 q108
          cases e108
          replace p108 := eq_true p108
          replace q108 := eq_true q108
          go_wp2
          go_roundg k2
          case measure => have := HJ3.out; have := HK2.out; omega
          case rel => exact ⟨(x9_2), (wrap64 (x26_2 + 1)), (by first | rfl | (simp; done) | (simp [*]; done)), (by first | rfl | (simp; done) | (simp [*]; done)), H', ⟨by have := HJ3.out; have := HK2.out; omega⟩, ⟨by apply_rules only [HO_24.out, Kd.R_alloc, Kd.R_drewN, Kd.R_drew]⟩, ⟨by apply_rules only [HB.out, below_alloc, pw_below_drewN, below_drew1]⟩⟩
        ·rw [if_neg c11] at H
         exact absurd H (by simp)
       ·rw [if_neg c10] at H
        exact absurd H (by simp)
      ·rw [if_neg c9] at H
       have c9b0 : decide (x26_2 < (t101.length : Int)) = false := decide_eq_false c9
       clear c9
       simp only [Option.some.injEq, Prod.mk.injEq] at H
       obtain ⟨rfl, rfl⟩ := H
       go_wp2
       go_ret2
       exact ⟨by first | rfl | (simp [errW_none, errW_some] <;> rfl) | (simp [*, errW_none, errW_some] <;> rfl), by apply_rules only [HB.out, below_alloc, pw_below_drewN, below_drew1]⟩
end Go.Proofs.Ytphlfkeamhpimaa.P
namespace Go.Proofs.Ytphlfkeamhpimaa.P
open Go.RowKit Go.Proofs.YtphlfkeamhpimaaW.PrintWords Go.Proofs.YtphlfkeamhpimaaW.PrintLast Go.Proofs.YtphlfkeamhpimaaW.PrintMore
attribute [local go_sem] max2_int min2_int max_two min_two max_three min_three max_four min_four
set_option linter.unusedVariables false
set_option linter.unusedSimpArgs false
mutual
def laws_FnGapsToldOfAll.j0 : Nat → List (SRule) → List (SRule) → Int → List (SRule) → Int → List (SRule) → Int → List (SRule) → Int → Bool → Option (Bool)
 | 0, _, _, _, _, _, _, _, _, _, _ => none
 | k + 1, x0, x1, x2, x3, x4, x5, x6, x7, x8, x113 => if x113 = true then (some true) else ((impl_GapsOfPeriod.f k x0).bind fun bt101 => ((spec_GapsOfPeriod.f k x0).bind fun bt105 => ((impl_LongestGap.f k x0).bind fun bt109 => ((spec_LongestGap.f k x0).bind fun bt112 => ((impl_LongestRunOut.f k x0).bind fun bt115 => ((spec_LongestRunOut.f k x0).bind fun bt117 => ((impl_LongestRunLeft.f k x0).bind fun bt119 => ((spec_LongestRunLeft.f k x0).bind fun bt121 => (if (bt101.2 != bt105.2) = true then (some false) else ((laws_tSame.f k bt101.1 bt105.1).bind fun t123 => (if t123 = true then (if (bt109.2.2 != bt112.2.2) = true then (some false) else (if bt109.1 = bt112.1 then (if bt109.2.1 = bt112.2.1 then (if (bt115.2 != bt117.2) = true then (some false) else (if bt115.1 = bt117.1 then (if (bt119.2 != bt121.2) = true then (some false) else (if bt119.1 = bt121.1 then (if (bt109.2.2 != bt101.2) = true then (some false) else (if (bt115.2 != bt101.2) = true then (some false) else (if bt101.2 = true then (laws_FnGapsToldOfAll.j1 k x0 x1 x2 x3 x4 x5 x6 x7 x8 bt101.1 bt101.2 bt109.1 bt109.2.1 bt115.1 bt119.1 bt119.2 (bt119.2 != (decide ((x0.length : Int) > 0)))) else (laws_FnGapsToldOfAll.j1 k x0 x1 x2 x3 x4 x5 x6 x7 x8 bt101.1 bt101.2 bt109.1 bt109.2.1 bt115.1 bt119.1 bt119.2 (bt119.2 != false))))) else (some false))) else (some false))) else (some false)) else (some false))) else (some false))))))))))))
def laws_FnGapsToldOfAll.j1 : Nat → List (SRule) → List (SRule) → Int → List (SRule) → Int → List (SRule) → Int → List (SRule) → Int → List Int → Bool → Int → Int → Int → Int → Bool → Bool → Option (Bool)
 | 0, _, _, _, _, _, _, _, _, _, _, _, _, _, _, _, _, _ => none
 | k + 1, x0, x1, x2, x3, x4, x5, x6, x7, x8, x19, x20, x23, x24, x29, x33, x34, x219 => if x219 = true then (some false) else (if x20 = true then ((impl_PeriodOfRules.f k x0).bind fun bt124 => ((impl_LeftInPeriod.f k x0).bind fun bt126 => (if bt124.2 = true then (if bt126.2 = true then (if (x19.length : Int) = bt126.1 then ((laws_tSum.f k x19).bind fun t128 => (if t128 = bt124.1 then (if x29 = (wrap64 (x23 - 1)) then (laws_FnGapsToldOfAll.l0 k x0 x1 x2 x3 x4 x5 x6 x7 x8 x19 x23 x24 x33 x34 bt124.1 x19 (x19.length : Int) 0) else (some false)) else (some false))) else (some false)) else (some false)) else (some false)))) else (laws_FnGapsToldOfAll.j7 k x1 x2 x3 x4 x5 x6 x7 x8))
def laws_FnGapsToldOfAll.j7 : Nat → List (SRule) → Int → List (SRule) → Int → List (SRule) → Int → List (SRule) → Int → Option (Bool)
 | 0, _, _, _, _, _, _, _, _ => none
 | k + 1, x1, x2, x3, x4, x5, x6, x7, x8 => (impl_GapsUpTo.f k x1 x2).bind fun bt145 => ((spec_GapsUpTo.f k x1 x2).bind fun bt149 => ((impl_RecordGaps.f k x1 x2).bind fun bt153 => ((spec_RecordGaps.f k x1 x2).bind fun bt157 => (if (bt145.2 != bt149.2) = true then (some false) else ((laws_tSame.f k bt145.1 bt149.1).bind fun t161 => (if t161 = true then (if (bt153.2 != bt157.2) = true then (some false) else ((laws_tRows.f k bt153.1 bt157.1).bind fun t162 => (if t162 = true then (if (bt153.2 != bt145.2) = true then (some false) else (if bt145.2 = true then ((impl_LeftUpTo.f k x1 x2).bind fun bt163 => (if bt163.2 = true then (if (bt163.1.length : Int) > 0 then (if (bt145.1.length : Int) = (wrap64 ((bt163.1.length : Int) - 1)) then ((laws_tSum.f k bt145.1).bind fun t167 => (if 0 ≤ (wrap64 ((bt163.1.length : Int) - 1)) then (if (wrap64 ((bt163.1.length : Int) - 1)) < (bt163.1.length : Int) then (if 0 < (bt163.1.length : Int) then (laws_FnGapsToldOfAll.j8 k x1 x3 x4 x5 x6 x7 x8 bt145.1 bt153.1 bt163.1 (t167 != (wrap64 ((rd bt163.1 (wrap64 ((bt163.1.length : Int) - 1))) - (rd bt163.1 0))))) else (none)) else (none)) else (none))) else (some false)) else (laws_FnGapsToldOfAll.j8 k x1 x3 x4 x5 x6 x7 x8 bt145.1 bt153.1 bt163.1 false)) else (some false))) else (laws_FnGapsToldOfAll.j11 k x3 x4 x5 x6 x7 x8))) else (some false)))) else (some false)))))))
def laws_FnGapsToldOfAll.j11 : Nat → List (SRule) → Int → List (SRule) → Int → List (SRule) → Int → Option (Bool)
 | 0, _, _, _, _, _, _ => none
 | k + 1, x3, x4, x5, x6, x7, x8 => (impl_MostInWindow.f k x3 x4).bind fun bt183 => ((spec_MostInWindow.f k x3 x4).bind fun bt185 => ((impl_LeastInWindow.f k x3 x4).bind fun bt187 => ((spec_LeastInWindow.f k x3 x4).bind fun bt189 => ((impl_PairsInPeriod.f k x5 x6).bind fun bt191 => ((spec_PairsInPeriod.f k x5 x6).bind fun bt193 => ((impl_CountGaps.f k x7 x8).bind fun bt195 => ((spec_CountGaps.f k x7 x8).bind fun bt197 => (if (bt183.2 == bt185.2) = true then (if bt183.1 = bt185.1 then (if (bt187.2 == bt189.2) = true then (if bt187.1 = bt189.1 then (if (bt183.2 == bt187.2) = true then (if bt183.1 ≥ bt187.1 then (if (bt191.2 == bt193.2) = true then (if bt191.1 = bt193.1 then (if (bt195.2 == bt197.2) = true then (some (bt195.1 == bt197.1)) else (some false)) else (some false)) else (some false)) else (some false)) else (some false)) else (some false)) else (some false)) else (some false)) else (some false)))))))))
def laws_FnGapsToldOfAll.j8 : Nat → List (SRule) → List (SRule) → Int → List (SRule) → Int → List (SRule) → Int → List Int → List (List Int) → List Int → Bool → Option (Bool)
 | 0, _, _, _, _, _, _, _, _, _, _, _ => none
 | k + 1, x1, x3, x4, x5, x6, x7, x8, x58, x62, x66, x471 => if x471 = true then (some false) else (laws_FnGapsToldOfAll.l2 k x1 x3 x4 x5 x6 x7 x8 x58 x66 0 x62 (x62.length : Int) 0)
def laws_FnGapsToldOfAll.l2 : Nat → List (SRule) → List (SRule) → Int → List (SRule) → Int → List (SRule) → Int → List Int → List Int → Int → List (List Int) → Int → Int → Option (Bool)
 | 0, _, _, _, _, _, _, _, _, _, _, _, _, _ => none
 | k + 1, x1, x3, x4, x5, x6, x7, x8, x58, x66, x68, x472, x473, x474 => if x474 < x473 then (if 0 ≤ x474 then (if x474 < (x472.length : Int) then (if 0 < ((rd_Ints x472 x474).length : Int) then ((impl_NextLeft.f k x1 (rd (rd_Ints x472 x474) 0)).bind fun bt172 => ((laws_tHas.f k x66 (rd (rd_Ints x472 x474) 0)).bind fun t175 => (if t175 = true then (if 1 < ((rd_Ints x472 x474).length : Int) then (if (rd (rd_Ints x472 x474) 1) ≤ x68 then (some false) else ((laws_tHas.f k x58 (rd (rd_Ints x472 x474) 1)).bind fun t178 => (if t178 = true then (if bt172.2 = true then (if bt172.1 = (wrap64 ((rd (rd_Ints x472 x474) 0) + (rd (rd_Ints x472 x474) 1))) then (laws_FnGapsToldOfAll.l2 k x1 x3 x4 x5 x6 x7 x8 x58 x66 (rd (rd_Ints x472 x474) 1) x472 x473 (wrap64 (x474 + 1))) else (some false)) else (some false)) else (some false)))) else (none)) else (some false)))) else (none)) else (none)) else (none)) else (laws_FnGapsToldOfAll.l3 k x3 x4 x5 x6 x7 x8 x68 x58 (x58.length : Int) 0)
def laws_FnGapsToldOfAll.l3 : Nat → List (SRule) → Int → List (SRule) → Int → List (SRule) → Int → Int → List Int → Int → Int → Option (Bool)
 | 0, _, _, _, _, _, _, _, _, _, _ => none
 | k + 1, x3, x4, x5, x6, x7, x8, x68, x526, x527, x528 => if x528 < x527 then (if 0 ≤ x528 then (if x528 < (x526.length : Int) then (if (rd x526 x528) > x68 then (some false) else (laws_FnGapsToldOfAll.l3 k x3 x4 x5 x6 x7 x8 x68 x526 x527 (wrap64 (x528 + 1)))) else (none)) else (none)) else (laws_FnGapsToldOfAll.j11 k x3 x4 x5 x6 x7 x8)
def laws_FnGapsToldOfAll.l0 : Nat → List (SRule) → List (SRule) → Int → List (SRule) → Int → List (SRule) → Int → List (SRule) → Int → List Int → Int → Int → Int → Bool → Int → List Int → Int → Int → Option (Bool)
 | 0, _, _, _, _, _, _, _, _, _, _, _, _, _, _, _, _, _, _ => none
 | k + 1, x0, x1, x2, x3, x4, x5, x6, x7, x8, x19, x23, x24, x33, x34, x37, x255, x256, x257 => if x257 < x256 then (if 0 ≤ x257 then (if x257 < (x255.length : Int) then (if (rd x255 x257) < 1 then (some false) else (if (rd x255 x257) > x23 then (some false) else (laws_FnGapsToldOfAll.l0 k x0 x1 x2 x3 x4 x5 x6 x7 x8 x19 x23 x24 x33 x34 x37 x255 x256 (wrap64 (x257 + 1))))) else (none)) else (none)) else ((impl_CountGaps.f k x0 x23).bind fun bt130 => (if bt130.2 = true then (if bt130.1 < 1 then (some false) else ((laws_tHas.f k x19 x23).bind fun t132 => (if t132 = true then (if x24 < 0 then (some false) else (if x24 ≥ x37 then (some false) else (if x23 ≤ 200 then ((impl_LeastInWindow.f k x0 (wrap64 (x23 - 1))).bind fun bt133 => ((impl_LeastInWindow.f k x0 x23).bind fun bt135 => (if bt133.2 = true then (if bt133.1 = 0 then (if bt135.2 = true then (if bt135.1 < 1 then (some false) else (laws_FnGapsToldOfAll.j3 k x0 x1 x2 x3 x4 x5 x6 x7 x8 x33 x34)) else (some false)) else (some false)) else (some false)))) else (laws_FnGapsToldOfAll.j3 k x0 x1 x2 x3 x4 x5 x6 x7 x8 x33 x34)))) else (some false)))) else (some false)))
def laws_FnGapsToldOfAll.j3 : Nat → List (SRule) → List (SRule) → Int → List (SRule) → Int → List (SRule) → Int → List (SRule) → Int → Int → Bool → Option (Bool)
 | 0, _, _, _, _, _, _, _, _, _, _, _ => none
 | k + 1, x0, x1, x2, x3, x4, x5, x6, x7, x8, x33, x34 => if x34 = true then (laws_FnGapsToldOfAll.j4 k x0 x1 x2 x3 x4 x5 x6 x7 x8 x33 (decide (x33 < 200))) else (laws_FnGapsToldOfAll.j4 k x0 x1 x2 x3 x4 x5 x6 x7 x8 x33 false)
def laws_FnGapsToldOfAll.j4 : Nat → List (SRule) → List (SRule) → Int → List (SRule) → Int → List (SRule) → Int → List (SRule) → Int → Int → Bool → Option (Bool)
 | 0, _, _, _, _, _, _, _, _, _, _, _ => none
 | k + 1, x0, x1, x2, x3, x4, x5, x6, x7, x8, x33, x329 => if x329 = true then ((impl_MostInWindow.f k x0 x33).bind fun bt137 => ((impl_MostInWindow.f k x0 (wrap64 (x33 + 1))).bind fun bt139 => (if bt137.2 = true then (if bt137.1 = x33 then (if bt139.2 = true then (if bt139.1 > x33 then (some false) else (laws_FnGapsToldOfAll.j5 k x0 x1 x2 x3 x4 x5 x6 x7 x8)) else (some false)) else (some false)) else (some false)))) else (laws_FnGapsToldOfAll.j5 k x0 x1 x2 x3 x4 x5 x6 x7 x8)
def laws_FnGapsToldOfAll.j5 : Nat → List (SRule) → List (SRule) → Int → List (SRule) → Int → List (SRule) → Int → List (SRule) → Int → Option (Bool)
 | 0, _, _, _, _, _, _, _, _, _ => none
 | k + 1, x0, x1, x2, x3, x4, x5, x6, x7, x8 => laws_FnGapsToldOfAll.l1 k x0 x1 x2 x3 x4 x5 x6 x7 x8 1
def laws_FnGapsToldOfAll.l1 : Nat → List (SRule) → List (SRule) → Int → List (SRule) → Int → List (SRule) → Int → List (SRule) → Int → Int → Option (Bool)
 | 0, _, _, _, _, _, _, _, _, _, _ => none
 | k + 1, x0, x1, x2, x3, x4, x5, x6, x7, x8, x53 => if x53 ≤ 6 then ((impl_CountGaps.f k x0 x53).bind fun bt141 => ((impl_PairsInPeriod.f k x0 x53).bind fun bt143 => (if bt141.2 = true then (if bt143.2 = true then (if bt141.1 > bt143.1 then (some false) else (laws_FnGapsToldOfAll.l1 k x0 x1 x2 x3 x4 x5 x6 x7 x8 (wrap64 (x53 + 1)))) else (some false)) else (some false)))) else (laws_FnGapsToldOfAll.j7 k x1 x2 x3 x4 x5 x6 x7 x8)
end
def laws_FnGapsToldOfAll.f (k : Nat) (l0 : List (SRule)) (l1 : List (SRule)) (a2 : Int) (l3 : List (SRule)) (a4 : Int) (l5 : List (SRule)) (a6 : Int) (l7 : List (SRule)) (a8 : Int) : Option (Bool) := if (l0.length : Int) > 10000 then (laws_FnGapsToldOfAll.j0 k l0 l1 a2 l3 a4 l5 a6 l7 a8 true) else (if (l1.length : Int) > 10000 then (laws_FnGapsToldOfAll.j0 k l0 l1 a2 l3 a4 l5 a6 l7 a8 true) else (if (l3.length : Int) > 10000 then (laws_FnGapsToldOfAll.j0 k l0 l1 a2 l3 a4 l5 a6 l7 a8 true) else (if (l5.length : Int) > 10000 then (laws_FnGapsToldOfAll.j0 k l0 l1 a2 l3 a4 l5 a6 l7 a8 true) else (laws_FnGapsToldOfAll.j0 k l0 l1 a2 l3 a4 l5 a6 l7 a8 (decide ((l7.length : Int) > 10000))))))
def laws_FnGapsToldOfAll.T52 : Bool × List (List Nat × List Nat) := (true, [([], []), ([0], [0]), ([1], [1]), ([2], [2]), ([3, 2], [2, 3]), ([4, 2], [2, 4]), ([5, 2, 2], [2, 5]), ([6], [6]), ([7, 6], [6, 7]), ([6], [6]), ([9, 6], [6, 9]), ([10, 6], [6, 10]), ([8, 11, 6], [6, 8, 11]), ([12, 6, 6], [6, 12]), ([13], [13]), ([14, 13, 13], [13, 14]), ([13], [13]), ([13], [13]), ([17, 13], [13, 17]), ([18, 13], [13, 18]), ([16, 19, 13], [13, 16, 19]), ([20, 13], [13, 20]), ([13], [13]), ([22, 13], [13, 22]), ([23, 13], [13, 23]), ([21, 24, 13], [13, 21, 24]), ([15, 25, 13], [13, 15, 25]), ([13, 26, 6], [6, 13, 26]), ([6, 27, 2], [2, 6, 27]), ([2, 28], [2, 28])])
def laws_FnGapsToldOfAll.B52 : List Nat := [0, 1, 3, 7, 15, 31, 63, 127, 255, 127, 639, 1663, 4095, 8191, 16383, 32767, 16383, 16383, 147455, 409599, 999423, 2047999, 16383, 4210687, 12599295, 33505279, 67108863, 134217727, 268435455, 536870911]
theorem laws_FnGapsToldOfAll.tab52 : rtab .any (opsOf Try.f7 52) = laws_FnGapsToldOfAll.T52 := by kernel_rfl
theorem laws_FnGapsToldOfAll.bits52 : waitsOk laws_FnGapsToldOfAll.T52.2 laws_FnGapsToldOfAll.B52 = true := by kernel_rfl
def laws_FnGapsToldOfAll.T59 : Bool × List (List Nat × List Nat) := (true, [([], []), ([], []), ([1], [1]), ([2], [2]), ([0, 3], [0, 3]), ([4], [4]), ([5, 4], [5]), ([6], [6]), ([7, 6], [6, 7]), ([8, 6], [6, 8]), ([6], [6]), ([9, 10, 6], [6, 9, 10]), ([6, 11], [6, 11]), ([12, 6], [12]), ([13], [13]), ([13], [13]), ([15, 13], [13, 15]), ([16, 13], [13, 16]), ([14, 17, 13, 13], [13, 14, 17]), ([18, 13], [13, 18]), ([13, 19], [13, 19]), ([20, 18], [20]), ([21], [21]), ([22, 21], [21, 22]), ([21, 23], [21, 23]), ([24, 21], [24]), ([25], [25]), ([25], [25]), ([27, 25], [25, 27]), ([28, 25], [25, 28]), ([25], [25]), ([30, 25], [25, 30]), ([31, 25], [25, 31]), ([29, 32, 25], [25, 29, 32]), ([26, 33, 25], [25, 26, 33]), ([25, 34], [25, 34])])
def laws_FnGapsToldOfAll.B59 : List Nat := [0, 0, 2, 6, 15, 31, 63, 127, 255, 511, 127, 2047, 4095, 8191, 16383, 16383, 49151, 114687, 262143, 524287, 1048575, 2097151, 4194303, 8388607, 16777215, 33554431, 67108863, 67108863, 201326591, 469762047, 67108863, 1140850687, 3288334335, 8522825727, 17179869183, 34359738367]
theorem laws_FnGapsToldOfAll.tab59 : rtab .any (opsOf Try.f7 59) = laws_FnGapsToldOfAll.T59 := by kernel_rfl
theorem laws_FnGapsToldOfAll.bits59 : waitsOk laws_FnGapsToldOfAll.T59.2 laws_FnGapsToldOfAll.B59 = true := by kernel_rfl
def laws_FnGapsToldOfAll.codeOf : Option Code → Code
  | some c => c
  | none => .skip
def laws_FnGapsToldOfAll.seqA : Code → Code
  | .seq a _ => a
  | c => c
def laws_FnGapsToldOfAll.seqB : Code → Code
  | .seq _ b => b
  | c => c
def laws_FnGapsToldOfAll.condA : Code → Code
  | .cond _ a _ => a
  | c => c
def laws_FnGapsToldOfAll.condB : Code → Code
  | .cond _ _ b => b
  | c => c
def laws_FnGapsToldOfAll.blockB : Code → Code
  | .block _ b => b
  | c => c
def laws_FnGapsToldOfAll.scopeB : Code → Code
  | .scope b => b
  | c => c
end Go.Proofs.Ytphlfkeamhpimaa.P
