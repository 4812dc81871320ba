/- What functions of the program answer. Proved in this text: its theorems. Conditions: as each theorem states them. -/
import Derived.Test.YtphlfkeamhpimaaCFnCoversFoundOfAllP
import Derived.Test.YtphlfkeamhpimaaCFnCoversFoundOfAllF0
import Derived.Test.YtphlfkeamhpimaaCFnCoversFoundOfAllF1
namespace Go.Proofs.Ytphlfkeamhpimaa.P
open Go.RowKit Go.Proofs.YtphlfkeamhpimaaW.PrintWords Go.Proofs.YtphlfkeamhpimaaW.PrintLast Go.Proofs.YtphlfkeamhpimaaW.PrintMore
attribute [local go_sem] max2_int min2_int max_two min_two max_three min_three max_four min_four
set_option linter.unusedVariables false
set_option linter.unusedSimpArgs false
mutual
def laws_FnCoversFoundOfAll.j0 : Nat → List Int → List Int → Int → List (SRule) → Int → Bool → Option (Bool)
  | 0, _, _, _, _, _, _ => none
  | k + 1, x0, x1, x2, x3, x4, x61 => if x61 = true then (some true) else ((impl_MostCovered.f k x0).bind fun bt101 => ((spec_MostCovered.f k x0).bind fun bt103 => ((impl_RulesWithout.f k x0).bind fun bt105 => ((spec_RulesWithout.f k x0).bind fun bt109 => (if (bt101.2 != bt103.2) = true then (laws_FnCoversFoundOfAll.j1 k x0 x1 x2 x3 x4 bt101.1 bt101.2 bt105.1 true) else (if bt101.1 = bt103.1 then (if (bt105.2 != bt109.2) = true then (laws_FnCoversFoundOfAll.j1 k x0 x1 x2 x3 x4 bt101.1 bt101.2 bt105.1 true) else ((laws_tRules.f k bt105.1 bt109.1).bind fun t113 => (if t113 = true then (laws_FnCoversFoundOfAll.j1 k x0 x1 x2 x3 x4 bt101.1 bt101.2 bt105.1 (bt105.2 != bt101.2)) else (laws_FnCoversFoundOfAll.j1 k x0 x1 x2 x3 x4 bt101.1 bt101.2 bt105.1 true)))) else (laws_FnCoversFoundOfAll.j1 k x0 x1 x2 x3 x4 bt101.1 bt101.2 bt105.1 true)))))))
def laws_FnCoversFoundOfAll.j1 : Nat → List Int → List Int → Int → List (SRule) → Int → Int → Bool → List (SRule) → Bool → Option (Bool)
  | 0, _, _, _, _, _, _, _, _, _ => none
  | k + 1, x0, x1, x2, x3, x4, x11, x12, x15, x105 => if x105 = true then (some false) else (if x12 = true then ((impl_FirstCover.f k x0 x11).bind fun bt114 => ((impl_FirstCover.f k x0 (wrap64 (x11 + 1))).bind fun bt118 => ((impl_CountCovers.f k x0 x11).bind fun bt122 => ((impl_IsCover.f k bt114.1 x11).bind fun bt124 => (if bt114.2 = true then (if x11 < 40 then (if bt118.2 = true then (laws_FnCoversFoundOfAll.j2 k x0 x1 x2 x3 x4 x11 x15 bt114.1 true) else (if bt122.2 = true then (if bt122.1 < 1 then (laws_FnCoversFoundOfAll.j2 k x0 x1 x2 x3 x4 x11 x15 bt114.1 true) else (if bt124.2 = true then (if bt124.1 = true then (laws_FnCoversFoundOfAll.j2 k x0 x1 x2 x3 x4 x11 x15 bt114.1 ((x15.length : Int) != (x0.length : Int))) else (laws_FnCoversFoundOfAll.j2 k x0 x1 x2 x3 x4 x11 x15 bt114.1 true)) else (laws_FnCoversFoundOfAll.j2 k x0 x1 x2 x3 x4 x11 x15 bt114.1 true))) else (laws_FnCoversFoundOfAll.j2 k x0 x1 x2 x3 x4 x11 x15 bt114.1 true))) else (if bt122.2 = true then (if bt122.1 < 1 then (laws_FnCoversFoundOfAll.j2 k x0 x1 x2 x3 x4 x11 x15 bt114.1 true) else (if bt124.2 = true then (if bt124.1 = true then (laws_FnCoversFoundOfAll.j2 k x0 x1 x2 x3 x4 x11 x15 bt114.1 ((x15.length : Int) != (x0.length : Int))) else (laws_FnCoversFoundOfAll.j2 k x0 x1 x2 x3 x4 x11 x15 bt114.1 true)) else (laws_FnCoversFoundOfAll.j2 k x0 x1 x2 x3 x4 x11 x15 bt114.1 true))) else (laws_FnCoversFoundOfAll.j2 k x0 x1 x2 x3 x4 x11 x15 bt114.1 true))) else (laws_FnCoversFoundOfAll.j2 k x0 x1 x2 x3 x4 x11 x15 bt114.1 true)))))) else (laws_FnCoversFoundOfAll.j5 k x1 x2 x3 x4))
def laws_FnCoversFoundOfAll.j5 : Nat → List Int → Int → List (SRule) → Int → Option (Bool)
  | 0, _, _, _, _ => none
  | k + 1, x1, x2, x3, x4 => (impl_FirstCover.f k x1 x2).bind fun bt134 => ((spec_FirstCover.f k x1 x2).bind fun bt138 => ((impl_CountCovers.f k x1 x2).bind fun bt142 => ((spec_CountCovers.f k x1 x2).bind fun bt144 => ((impl_IsCover.f k x3 x4).bind fun bt146 => ((spec_IsCover.f k x3 x4).bind fun bt148 => (if (bt134.2 != bt138.2) = true then (laws_FnCoversFoundOfAll.j6 k x1 x2 x3 x4 bt134.1 bt134.2 bt142.1 bt146.1 bt146.2 true) else ((laws_tRules.f k bt134.1 bt138.1).bind fun t150 => (if t150 = true then (if (bt142.2 != bt144.2) = true then (laws_FnCoversFoundOfAll.j6 k x1 x2 x3 x4 bt134.1 bt134.2 bt142.1 bt146.1 bt146.2 true) else (if bt142.1 = bt144.1 then (if (bt146.2 != bt148.2) = true then (laws_FnCoversFoundOfAll.j6 k x1 x2 x3 x4 bt134.1 bt134.2 bt142.1 bt146.1 bt146.2 true) else (if (bt146.1 != bt148.1) = true then (laws_FnCoversFoundOfAll.j6 k x1 x2 x3 x4 bt134.1 bt134.2 bt142.1 bt146.1 bt146.2 true) else (if bt142.2 = true then (laws_FnCoversFoundOfAll.j6 k x1 x2 x3 x4 bt134.1 bt134.2 bt142.1 bt146.1 bt146.2 (bt134.2 != (decide (bt142.1 > 0)))) else (laws_FnCoversFoundOfAll.j6 k x1 x2 x3 x4 bt134.1 bt134.2 bt142.1 bt146.1 bt146.2 (bt134.2 != false))))) else (laws_FnCoversFoundOfAll.j6 k x1 x2 x3 x4 bt134.1 bt134.2 bt142.1 bt146.1 bt146.2 true))) else (laws_FnCoversFoundOfAll.j6 k x1 x2 x3 x4 bt134.1 bt134.2 bt142.1 bt146.1 bt146.2 true)))))))))
def laws_FnCoversFoundOfAll.j6 : Nat → List Int → Int → List (SRule) → Int → List (SRule) → Bool → Int → Bool → Bool → Bool → Option (Bool)
  | 0, _, _, _, _, _, _, _, _, _, _ => none
  | k + 1, x1, x2, x3, x4, x31, x32, x35, x39, x40, x289 => if x289 = true then (some false) else (if x32 = true then ((impl_IsCover.f k x31 x2).bind fun bt151 => (if bt151.2 = true then (if bt151.1 = true then (laws_FnCoversFoundOfAll.j7 k x1 x2 x3 x4 x35 x39 x40 ((x31.length : Int) != (x1.length : Int))) else (laws_FnCoversFoundOfAll.j7 k x1 x2 x3 x4 x35 x39 x40 true)) else (laws_FnCoversFoundOfAll.j7 k x1 x2 x3 x4 x35 x39 x40 true))) else (if x40 = true then ((impl_CountLeft.f k x3 x4).bind fun bt159 => (if bt159.2 = true then (some (x39 == (bt159.1 == 0))) else (some false))) else (some true)))
def laws_FnCoversFoundOfAll.j7 : Nat → List Int → Int → List (SRule) → Int → Int → Bool → Bool → Bool → Option (Bool)
  | 0, _, _, _, _, _, _, _, _ => none
  | k + 1, x1, x2, x3, x4, x35, x39, x40, x309 => if x309 = true then (some false) else (if x2 > 0 then ((impl_CountCovers.f k x1 (wrap64 (x2 - 1))).bind fun bt153 => (if bt153.2 = true then (laws_FnCoversFoundOfAll.j8 k x3 x4 x39 x40 (decide (bt153.1 < x35))) else (laws_FnCoversFoundOfAll.j8 k x3 x4 x39 x40 true))) else (if x40 = true then ((impl_CountLeft.f k x3 x4).bind fun bt157 => (if bt157.2 = true then (some (x39 == (bt157.1 == 0))) else (some false))) else (some true)))
def laws_FnCoversFoundOfAll.j8 : Nat → List (SRule) → Int → Bool → Bool → Bool → Option (Bool)
  | 0, _, _, _, _, _ => none
  | k + 1, x3, x4, x39, x40, x325 => if x325 = true then (some false) else (if x40 = true then ((impl_CountLeft.f k x3 x4).bind fun bt155 => (if bt155.2 = true then (some (x39 == (bt155.1 == 0))) else (some false))) else (some true))
def laws_FnCoversFoundOfAll.j2 : Nat → List Int → List Int → Int → List (SRule) → Int → Int → List (SRule) → List (SRule) → Bool → Option (Bool)
  | 0, _, _, _, _, _, _, _, _, _ => none
  | k + 1, x0, x1, x2, x3, x4, x11, x15, x19, x163 => if x163 = true then (some false) else (if (x0.length : Int) > 0 then ((impl_LongestRunOut.f k x15).bind fun bt126 => (if bt126.2 = true then (if bt126.1 = x11 then (laws_FnCoversFoundOfAll.j3 k x0 x1 x2 x3 x4 x15 x19) else (some false)) else (some false))) else (if x11 = 0 then (laws_FnCoversFoundOfAll.j3 k x0 x1 x2 x3 x4 x15 x19) else (some false)))
def laws_FnCoversFoundOfAll.j3 : Nat → List Int → List Int → Int → List (SRule) → Int → List (SRule) → List (SRule) → Option (Bool)
  | 0, _, _, _, _, _, _, _ => none
  | k + 1, x0, x1, x2, x3, x4, x15, x19 => laws_FnCoversFoundOfAll.l0 k x0 x1 x2 x3 x4 x15 x19 (x19.length : Int) 0
def laws_FnCoversFoundOfAll.l0 : Nat → List Int → List Int → Int → List (SRule) → Int → List (SRule) → List (SRule) → Int → Int → Option (Bool)
  | 0, _, _, _, _, _, _, _, _, _ => none
  | k + 1, x0, x1, x2, x3, x4, x15, x181, x182, x183 => if x183 < x182 then (if 0 ≤ x183 then (if x183 < (x181.length : Int) then (if x183 < (x0.length : Int) then (if ((rd_Rule x181 x183).f0) = (rd x0 x183) then (if x183 < (x15.length : Int) then (if ((rd_Rule x15 x183).f0) = (rd x0 x183) then (if ((rd_Rule x15 x183).f1) = 0 then (laws_FnCoversFoundOfAll.l0 k x0 x1 x2 x3 x4 x15 x181 x182 (wrap64 (x183 + 1))) else (some false)) else (some false)) else (none)) else (some false)) else (none)) else (none)) else (none)) else (laws_FnCoversFoundOfAll.j5 k x1 x2 x3 x4)
end
def laws_FnCoversFoundOfAll.f (k : Nat) (l0 : List Int) (l1 : List Int) (a2 : Int) (l3 : List (SRule)) (a4 : Int) : Option (Bool) := if (l0.length : Int) > 10000 then (laws_FnCoversFoundOfAll.j0 k l0 l1 a2 l3 a4 true) else (if (l1.length : Int) > 10000 then (laws_FnCoversFoundOfAll.j0 k l0 l1 a2 l3 a4 true) else (laws_FnCoversFoundOfAll.j0 k l0 l1 a2 l3 a4 (decide ((l3.length : Int) > 10000))))
set_option maxHeartbeats 8000000 in
set_option maxRecDepth 100000 in
theorem laws_FnCoversFoundOfAll.calls (k : Nat) (A0 : Option Addr) (c0 : Nat) (l0 : List Int) (A1 : Option Addr) (c1 : Nat) (l1 : List Int) (a2 : Int) (A3 : Option Addr) (c3 : Nat) (l3 : List (SRule)) (a4 : Int) (w : World) (hr0 : Kd.C (Kd.int .i64) w A0 l0.length l0) (hc0 : l0.length ≤ c0) (hr1 : Kd.C (Kd.int .i64) w A1 l1.length l1) (hc1 : l1.length ≤ c1) (hr3 : Kd.C kRule w A3 l3.length l3) (hc3 : l3.length ≤ c3) (h : laws_FnCoversFoundOfAll.f k l0 l1 a2 l3 a4 = some true) :
    Calls Try.prog 6 #[.slice A0 l0.length c0, .slice A1 l1.length c1, .int .i64 a2, .slice A3 l3.length c3, .int .i64 a4] w fun e w' => e = .returned (.bool true) ∧ Below w.heap.size w w' := by
  have hu41 := Try.underlying41
  have HR0 := Aside0.mk hr0
  have HC0 := Aside0.mk hc0
  clear hr0 hc0
  have HR1 := Aside0.mk hr1
  have HC1 := Aside0.mk hc1
  clear hr1 hc1
  have HR3 := Aside0.mk hr3
  have HC3 := Aside0.mk hc3
  clear hr3 hc3
  have HB := Aside0.mk (Below.refl w.heap.size w)
  have H : (if (l0.length : Int) > 10000 then (laws_FnCoversFoundOfAll.j0 k l0 l1 a2 l3 a4 true) else (if (l1.length : Int) > 10000 then (laws_FnCoversFoundOfAll.j0 k l0 l1 a2 l3 a4 true) else (laws_FnCoversFoundOfAll.j0 k l0 l1 a2 l3 a4 (decide ((l3.length : Int) > 10000))))) = some true := h
  clear h
  have HC6 := Aside0.mk H
  clear H
  go_enter Try.func6, Try.ntmps6
  go_upto_region 1 with (fail)
  repeat (go_quiet (fail); go_upto_region 1 with (fail))
  go_cut [61] from 1 to 0 (fun v61 wc => ∃ (kq : Nat) (x61_5 : Bool), v61 = .bool x61_5 ∧ Aside0 (laws_FnCoversFoundOfAll.j0 kq l0 l1 a2 l3 a4 x61_5 = some true) ∧ Aside0 (kq ≤ k) ∧ Aside0 (Below w.heap.size w wc))
  case first =>
    have H := HC6.out
    clear HC6
    by_cases c7 : (l0.length : Int) > 10000
    · rw [if_pos c7] at H
      have c7b0 : decide (10000 < (l0.length : Int)) = true := decide_eq_true c7
      have c7b1 : decide (10000 < l0.length) = true := decide_eq_true (by omega)
      clear c7
      (first | rw [c7b0] | rw [c7b1] | (simp only [i64_w, i32_w]; rw [c7b0]) | skip)
      have H' := Aside0.mk H
      clear H
      go_wp2
      repeat (go_quiet (fail); try go_wp2)
      go_meet
      case rel => exact ⟨_, (true), (by first | rfl | (simp; done) | (simp [*]; done)), H', ⟨by first | omega | exact Nat.le_refl _⟩, ⟨by repeat (first | (with_reducible first | exact HB.out | apply below_alloc | apply pw_below_drewN | apply below_drew1) | exact HB.out)⟩⟩
    · rw [if_neg c7] at H
      have c7b0 : decide (10000 < (l0.length : Int)) = false := decide_eq_false c7
      have c7b1 : decide (10000 < l0.length) = false := decide_eq_false (by omega)
      clear c7
      (first | rw [c7b0] | rw [c7b1] | (simp only [i64_w, i32_w]; rw [c7b0]) | skip)
      by_cases c8 : (l1.length : Int) > 10000
      · rw [if_pos c8] at H
        have c8b0 : decide (10000 < (l1.length : Int)) = true := decide_eq_true c8
        have c8b1 : decide (10000 < l1.length) = true := decide_eq_true (by omega)
        clear c8
        have H' := Aside0.mk H
        clear H
        go_wp2
        repeat (go_quiet (fail); try go_wp2)
        go_meet
        case rel => exact ⟨_, (true), (by first | rfl | (simp; done) | (simp [*]; done)), H', ⟨by first | omega | exact Nat.le_refl _⟩, ⟨by repeat (first | (with_reducible first | exact HB.out | apply below_alloc | apply pw_below_drewN | apply below_drew1) | exact HB.out)⟩⟩
      · rw [if_neg c8] at H
        have c8b0 : decide (10000 < (l1.length : Int)) = false := decide_eq_false c8
        have c8b1 : decide (10000 < l1.length) = false := decide_eq_false (by omega)
        clear c8
        have H' := Aside0.mk H
        clear H
        go_wp2
        repeat (go_quiet (fail); try go_wp2)
        go_meet
        case rel => exact ⟨_, (decide ((l3.length : Int) > 10000)), (by first | rfl | (simp; done) | (simp [*]; done)), H', ⟨by first | omega | exact Nat.le_refl _⟩, ⟨by repeat (first | (with_reducible first | exact HB.out | apply below_alloc | apply pw_below_drewN | apply below_drew1) | exact HB.out)⟩⟩
  case rest =>
    clear HC6
    try clear c1
    try clear p2
    try clear c3
    try clear c6
    try clear c7
    try clear c7b0
    try clear c7b1
    try clear c8
    try clear c8b0
    try clear c8b1
    obtain ⟨kq, x61_5, rfl, HA, HJ5, HB⟩ := hcut
    cases kq with
    | zero => exact absurd HA.out (by simp [laws_FnCoversFoundOfAll.j0])
    | succ kj5 =>
      have H := HA.out
      clear HA
      simp only [laws_FnCoversFoundOfAll.j0] at H
      by_cases c9 : x61_5 = true
      · subst c9
        have H1 : (some true) = some true := rfl
        clear H
        have H := H1
        clear H1
        clear H
        go_wp2
        repeat (go_quiet (fail); try go_wp2)
        go_ret
        exact ⟨by first | rfl | (simp [errW_none, errW_some] <;> rfl) | (simp [*, errW_none, errW_some] <;> rfl), by repeat (first | (with_reducible first | exact HB.out | apply below_alloc | apply pw_below_drewN | apply below_drew1) | exact HB.out)⟩
      · replace c9 := Bool.eq_false_iff.mpr c9
        subst c9
        have H1 : ((impl_MostCovered.f kj5 l0).bind fun bt101 => ((spec_MostCovered.f kj5 l0).bind fun bt103 => ((impl_RulesWithout.f kj5 l0).bind fun bt105 => ((spec_RulesWithout.f kj5 l0).bind fun bt109 => (if (bt101.2 != bt103.2) = true then (laws_FnCoversFoundOfAll.j1 kj5 l0 l1 a2 l3 a4 bt101.1 bt101.2 bt105.1 true) else (if bt101.1 = bt103.1 then (if (bt105.2 != bt109.2) = true then (laws_FnCoversFoundOfAll.j1 kj5 l0 l1 a2 l3 a4 bt101.1 bt101.2 bt105.1 true) else ((laws_tRules.f kj5 bt105.1 bt109.1).bind fun t113 => (if t113 = true then (laws_FnCoversFoundOfAll.j1 kj5 l0 l1 a2 l3 a4 bt101.1 bt101.2 bt105.1 (bt105.2 != bt101.2)) else (laws_FnCoversFoundOfAll.j1 kj5 l0 l1 a2 l3 a4 bt101.1 bt101.2 bt105.1 true)))) else (laws_FnCoversFoundOfAll.j1 kj5 l0 l1 a2 l3 a4 bt101.1 bt101.2 bt105.1 true))))))) = some true := by rw [if_neg (show ¬ (false = true) by decide)] at H; exact H
        clear H
        have H := H1
        clear H1
        replace H := Option.bind_eq_some_iff.mp H
        obtain ⟨⟨t101, t102⟩, A100, H⟩ := H
        replace H : ((spec_MostCovered.f kj5 l0).bind fun bt103 => ((impl_RulesWithout.f kj5 l0).bind fun bt105 => ((spec_RulesWithout.f kj5 l0).bind fun bt109 => (if (t102 != bt103.2) = true then (laws_FnCoversFoundOfAll.j1 kj5 l0 l1 a2 l3 a4 t101 t102 bt105.1 true) else (if t101 = bt103.1 then (if (bt105.2 != bt109.2) = true then (laws_FnCoversFoundOfAll.j1 kj5 l0 l1 a2 l3 a4 t101 t102 bt105.1 true) else ((laws_tRules.f kj5 bt105.1 bt109.1).bind fun t113 => (if t113 = true then (laws_FnCoversFoundOfAll.j1 kj5 l0 l1 a2 l3 a4 t101 t102 bt105.1 (bt105.2 != t102)) else (laws_FnCoversFoundOfAll.j1 kj5 l0 l1 a2 l3 a4 t101 t102 bt105.1 true)))) else (laws_FnCoversFoundOfAll.j1 kj5 l0 l1 a2 l3 a4 t101 t102 bt105.1 true)))))) = some true := H
        have A10 := Aside0.mk A100
        clear A100
        replace H := Option.bind_eq_some_iff.mp H
        obtain ⟨⟨t103, t104⟩, A110, H⟩ := H
        replace H : ((impl_RulesWithout.f kj5 l0).bind fun bt105 => ((spec_RulesWithout.f kj5 l0).bind fun bt109 => (if (t102 != t104) = true then (laws_FnCoversFoundOfAll.j1 kj5 l0 l1 a2 l3 a4 t101 t102 bt105.1 true) else (if t101 = t103 then (if (bt105.2 != bt109.2) = true then (laws_FnCoversFoundOfAll.j1 kj5 l0 l1 a2 l3 a4 t101 t102 bt105.1 true) else ((laws_tRules.f kj5 bt105.1 bt109.1).bind fun t113 => (if t113 = true then (laws_FnCoversFoundOfAll.j1 kj5 l0 l1 a2 l3 a4 t101 t102 bt105.1 (bt105.2 != t102)) else (laws_FnCoversFoundOfAll.j1 kj5 l0 l1 a2 l3 a4 t101 t102 bt105.1 true)))) else (laws_FnCoversFoundOfAll.j1 kj5 l0 l1 a2 l3 a4 t101 t102 bt105.1 true))))) = some true := H
        have A11 := Aside0.mk A110
        clear A110
        replace H := Option.bind_eq_some_iff.mp H
        obtain ⟨⟨t105, t106⟩, A120, H⟩ := H
        replace H : ((spec_RulesWithout.f kj5 l0).bind fun bt109 => (if (t102 != t104) = true then (laws_FnCoversFoundOfAll.j1 kj5 l0 l1 a2 l3 a4 t101 t102 t105 true) else (if t101 = t103 then (if (t106 != bt109.2) = true then (laws_FnCoversFoundOfAll.j1 kj5 l0 l1 a2 l3 a4 t101 t102 t105 true) else ((laws_tRules.f kj5 t105 bt109.1).bind fun t113 => (if t113 = true then (laws_FnCoversFoundOfAll.j1 kj5 l0 l1 a2 l3 a4 t101 t102 t105 (t106 != t102)) else (laws_FnCoversFoundOfAll.j1 kj5 l0 l1 a2 l3 a4 t101 t102 t105 true)))) else (laws_FnCoversFoundOfAll.j1 kj5 l0 l1 a2 l3 a4 t101 t102 t105 true)))) = some true := H
        have A12 := Aside0.mk A120
        clear A120
        replace H := Option.bind_eq_some_iff.mp H
        obtain ⟨⟨t109, t110⟩, A130, H⟩ := H
        replace H : (if (t102 != t104) = true then (laws_FnCoversFoundOfAll.j1 kj5 l0 l1 a2 l3 a4 t101 t102 t105 true) else (if t101 = t103 then (if (t106 != t110) = true then (laws_FnCoversFoundOfAll.j1 kj5 l0 l1 a2 l3 a4 t101 t102 t105 true) else ((laws_tRules.f kj5 t105 t109).bind fun t113 => (if t113 = true then (laws_FnCoversFoundOfAll.j1 kj5 l0 l1 a2 l3 a4 t101 t102 t105 (t106 != t102)) else (laws_FnCoversFoundOfAll.j1 kj5 l0 l1 a2 l3 a4 t101 t102 t105 true)))) else (laws_FnCoversFoundOfAll.j1 kj5 l0 l1 a2 l3 a4 t101 t102 t105 true))) = some true := H
        have A13 := Aside0.mk A130
        clear A130
        have HC14 := Aside0.mk H
        clear H
        go_upto_region 7 with (first | (go_at_call 13; (with_reducible refine (impl_MostCovered.calls kj5 _ _ l0 t101 t102 _ ?side1 ?side2 A10.out).mono ?_); (case side1 => repeat (first | exact (Kd.C_below HR0.out HB.out) | (with_reducible refine Kd.C_alloc ?_ _) | (with_reducible refine Kd.C_drewN ?_ _) | (with_reducible refine Kd.C_drew ?_))); (case side2 => exact HC0.out); rintro e w15 ⟨rfl, hb⟩; have n0_ := Aside0.mk (below_step (by repeat (first | (with_reducible first | exact HB.out | apply below_alloc | apply pw_below_drewN | apply below_drew1) | exact HB.out)) hb); clear HB; have HB := n0_; clear n0_; (try clear hb); (try clear hb2); (try clear hk); (try clear hi)) | (go_at_call 12; (with_reducible refine (spec_MostCovered.calls kj5 _ _ l0 t103 t104 _ ?side1 ?side2 A11.out).mono ?_); (case side1 => repeat (first | exact (Kd.C_below HR0.out HB.out) | (with_reducible refine Kd.C_alloc ?_ _) | (with_reducible refine Kd.C_drewN ?_ _) | (with_reducible refine Kd.C_drew ?_))); (case side2 => exact HC0.out); rintro e w16 ⟨rfl, hb⟩; have n0_ := Aside0.mk (below_step (by repeat (first | (with_reducible first | exact HB.out | apply below_alloc | apply pw_below_drewN | apply below_drew1) | exact HB.out)) hb); clear HB; have HB := n0_; clear n0_; (try clear hb); (try clear hb2); (try clear hk); (try clear hi)) | (go_at_call 20; (with_reducible refine (impl_RulesWithout.calls kj5 _ _ l0 t105 t106 _ ?side1 ?side2 A12.out).mono ?_); (case side1 => repeat (first | exact (Kd.C_below HR0.out HB.out) | (with_reducible refine Kd.C_alloc ?_ _) | (with_reducible refine Kd.C_drewN ?_ _) | (with_reducible refine Kd.C_drew ?_))); (case side2 => exact HC0.out); rintro e w17 ⟨v107, rfl, ho0, hb⟩; have n0_ := Aside0.mk (Kd.R_lower ho0 (below_size (by repeat (first | (with_reducible first | exact HB.out | apply below_alloc | apply pw_below_drewN | apply below_drew1) | exact HB.out)))); have n1_ := Aside0.mk (below_step (by repeat (first | (with_reducible first | exact HB.out | apply below_alloc | apply pw_below_drewN | apply below_drew1) | exact HB.out)) hb); clear HB; have HO108 := n0_; have HB := n1_; clear n0_ n1_; (try clear hb); (try clear hb2); (try clear hk); (try clear hi); (try clear ho0)) | (go_at_call 21; (with_reducible refine (spec_RulesWithout.calls kj5 _ _ l0 t109 t110 _ ?side1 ?side2 A13.out).mono ?_); (case side1 => repeat (first | exact (Kd.C_below HR0.out HB.out) | (with_reducible refine Kd.C_alloc ?_ _) | (with_reducible refine Kd.C_drewN ?_ _) | (with_reducible refine Kd.C_drew ?_))); (case side2 => exact HC0.out); rintro e w18 ⟨v111, rfl, ho0, hb⟩; have n0_ := Aside0.mk (Kd.R_elder' (by (with_reducible repeat (first | apply Kd.R_alloc | apply Kd.R_drewN | apply Kd.R_drew)); exact HO108.out) (Kd.R_base ho0) hb); have n1_ := Aside0.mk (Kd.R_lower (Kd.R_new' ho0 (Kd.R_lt (by (with_reducible repeat (first | apply Kd.R_alloc | apply Kd.R_drewN | apply Kd.R_drew)); exact HO108.out))) (below_size (by repeat (first | (with_reducible first | exact HB.out | apply below_alloc | apply pw_below_drewN | apply below_drew1) | exact HB.out)))); have n2_ := Aside0.mk (below_step (by repeat (first | (with_reducible first | exact HB.out | apply below_alloc | apply pw_below_drewN | apply below_drew1) | exact HB.out)) hb); clear HO108; clear HB; have HO108 := n0_; have HO112 := n1_; have HB := n2_; clear n0_ n1_ n2_; (try clear hb); (try clear hb2); (try clear hk); (try clear hi); (try clear ho0)))
        repeat (go_quiet (first | (go_at_call 13; (with_reducible refine (impl_MostCovered.calls kj5 _ _ l0 t101 t102 _ ?side1 ?side2 A10.out).mono ?_); (case side1 => repeat (first | exact (Kd.C_below HR0.out HB.out) | (with_reducible refine Kd.C_alloc ?_ _) | (with_reducible refine Kd.C_drewN ?_ _) | (with_reducible refine Kd.C_drew ?_))); (case side2 => exact HC0.out); rintro e w15 ⟨rfl, hb⟩; have n0_ := Aside0.mk (below_step (by repeat (first | (with_reducible first | exact HB.out | apply below_alloc | apply pw_below_drewN | apply below_drew1) | exact HB.out)) hb); clear HB; have HB := n0_; clear n0_; (try clear hb); (try clear hb2); (try clear hk); (try clear hi)) | (go_at_call 12; (with_reducible refine (spec_MostCovered.calls kj5 _ _ l0 t103 t104 _ ?side1 ?side2 A11.out).mono ?_); (case side1 => repeat (first | exact (Kd.C_below HR0.out HB.out) | (with_reducible refine Kd.C_alloc ?_ _) | (with_reducible refine Kd.C_drewN ?_ _) | (with_reducible refine Kd.C_drew ?_))); (case side2 => exact HC0.out); rintro e w16 ⟨rfl, hb⟩; have n0_ := Aside0.mk (below_step (by repeat (first | (with_reducible first | exact HB.out | apply below_alloc | apply pw_below_drewN | apply below_drew1) | exact HB.out)) hb); clear HB; have HB := n0_; clear n0_; (try clear hb); (try clear hb2); (try clear hk); (try clear hi)) | (go_at_call 20; (with_reducible refine (impl_RulesWithout.calls kj5 _ _ l0 t105 t106 _ ?side1 ?side2 A12.out).mono ?_); (case side1 => repeat (first | exact (Kd.C_below HR0.out HB.out) | (with_reducible refine Kd.C_alloc ?_ _) | (with_reducible refine Kd.C_drewN ?_ _) | (with_reducible refine Kd.C_drew ?_))); (case side2 => exact HC0.out); rintro e w17 ⟨v107, rfl, ho0, hb⟩; have n0_ := Aside0.mk (Kd.R_lower ho0 (below_size (by repeat (first | (with_reducible first | exact HB.out | apply below_alloc | apply pw_below_drewN | apply below_drew1) | exact HB.out)))); have n1_ := Aside0.mk (below_step (by repeat (first | (with_reducible first | exact HB.out | apply below_alloc | apply pw_below_drewN | apply below_drew1) | exact HB.out)) hb); clear HB; have HO108 := n0_; have HB := n1_; clear n0_ n1_; (try clear hb); (try clear hb2); (try clear hk); (try clear hi); (try clear ho0)) | (go_at_call 21; (with_reducible refine (spec_RulesWithout.calls kj5 _ _ l0 t109 t110 _ ?side1 ?side2 A13.out).mono ?_); (case side1 => repeat (first | exact (Kd.C_below HR0.out HB.out) | (with_reducible refine Kd.C_alloc ?_ _) | (with_reducible refine Kd.C_drewN ?_ _) | (with_reducible refine Kd.C_drew ?_))); (case side2 => exact HC0.out); rintro e w18 ⟨v111, rfl, ho0, hb⟩; have n0_ := Aside0.mk (Kd.R_elder' (by (with_reducible repeat (first | apply Kd.R_alloc | apply Kd.R_drewN | apply Kd.R_drew)); exact HO108.out) (Kd.R_base ho0) hb); have n1_ := Aside0.mk (Kd.R_lower (Kd.R_new' ho0 (Kd.R_lt (by (with_reducible repeat (first | apply Kd.R_alloc | apply Kd.R_drewN | apply Kd.R_drew)); exact HO108.out))) (below_size (by repeat (first | (with_reducible first | exact HB.out | apply below_alloc | apply pw_below_drewN | apply below_drew1) | exact HB.out)))); have n2_ := Aside0.mk (below_step (by repeat (first | (with_reducible first | exact HB.out | apply below_alloc | apply pw_below_drewN | apply below_drew1) | exact HB.out)) hb); clear HO108; clear HB; have HO108 := n0_; have HO112 := n1_; have HB := n2_; clear n0_ n1_ n2_; (try clear hb); (try clear hb2); (try clear hk); (try clear hi); (try clear ho0))); go_upto_region 7 with (first | (go_at_call 13; (with_reducible refine (impl_MostCovered.calls kj5 _ _ l0 t101 t102 _ ?side1 ?side2 A10.out).mono ?_); (case side1 => repeat (first | exact (Kd.C_below HR0.out HB.out) | (with_reducible refine Kd.C_alloc ?_ _) | (with_reducible refine Kd.C_drewN ?_ _) | (with_reducible refine Kd.C_drew ?_))); (case side2 => exact HC0.out); rintro e w15 ⟨rfl, hb⟩; have n0_ := Aside0.mk (below_step (by repeat (first | (with_reducible first | exact HB.out | apply below_alloc | apply pw_below_drewN | apply below_drew1) | exact HB.out)) hb); clear HB; have HB := n0_; clear n0_; (try clear hb); (try clear hb2); (try clear hk); (try clear hi)) | (go_at_call 12; (with_reducible refine (spec_MostCovered.calls kj5 _ _ l0 t103 t104 _ ?side1 ?side2 A11.out).mono ?_); (case side1 => repeat (first | exact (Kd.C_below HR0.out HB.out) | (with_reducible refine Kd.C_alloc ?_ _) | (with_reducible refine Kd.C_drewN ?_ _) | (with_reducible refine Kd.C_drew ?_))); (case side2 => exact HC0.out); rintro e w16 ⟨rfl, hb⟩; have n0_ := Aside0.mk (below_step (by repeat (first | (with_reducible first | exact HB.out | apply below_alloc | apply pw_below_drewN | apply below_drew1) | exact HB.out)) hb); clear HB; have HB := n0_; clear n0_; (try clear hb); (try clear hb2); (try clear hk); (try clear hi)) | (go_at_call 20; (with_reducible refine (impl_RulesWithout.calls kj5 _ _ l0 t105 t106 _ ?side1 ?side2 A12.out).mono ?_); (case side1 => repeat (first | exact (Kd.C_below HR0.out HB.out) | (with_reducible refine Kd.C_alloc ?_ _) | (with_reducible refine Kd.C_drewN ?_ _) | (with_reducible refine Kd.C_drew ?_))); (case side2 => exact HC0.out); rintro e w17 ⟨v107, rfl, ho0, hb⟩; have n0_ := Aside0.mk (Kd.R_lower ho0 (below_size (by repeat (first | (with_reducible first | exact HB.out | apply below_alloc | apply pw_below_drewN | apply below_drew1) | exact HB.out)))); have n1_ := Aside0.mk (below_step (by repeat (first | (with_reducible first | exact HB.out | apply below_alloc | apply pw_below_drewN | apply below_drew1) | exact HB.out)) hb); clear HB; have HO108 := n0_; have HB := n1_; clear n0_ n1_; (try clear hb); (try clear hb2); (try clear hk); (try clear hi); (try clear ho0)) | (go_at_call 21; (with_reducible refine (spec_RulesWithout.calls kj5 _ _ l0 t109 t110 _ ?side1 ?side2 A13.out).mono ?_); (case side1 => repeat (first | exact (Kd.C_below HR0.out HB.out) | (with_reducible refine Kd.C_alloc ?_ _) | (with_reducible refine Kd.C_drewN ?_ _) | (with_reducible refine Kd.C_drew ?_))); (case side2 => exact HC0.out); rintro e w18 ⟨v111, rfl, ho0, hb⟩; have n0_ := Aside0.mk (Kd.R_elder' (by (with_reducible repeat (first | apply Kd.R_alloc | apply Kd.R_drewN | apply Kd.R_drew)); exact HO108.out) (Kd.R_base ho0) hb); have n1_ := Aside0.mk (Kd.R_lower (Kd.R_new' ho0 (Kd.R_lt (by (with_reducible repeat (first | apply Kd.R_alloc | apply Kd.R_drewN | apply Kd.R_drew)); exact HO108.out))) (below_size (by repeat (first | (with_reducible first | exact HB.out | apply below_alloc | apply pw_below_drewN | apply below_drew1) | exact HB.out)))); have n2_ := Aside0.mk (below_step (by repeat (first | (with_reducible first | exact HB.out | apply below_alloc | apply pw_below_drewN | apply below_drew1) | exact HB.out)) hb); clear HO108; clear HB; have HO108 := n0_; have HO112 := n1_; have HB := n2_; clear n0_ n1_ n2_; (try clear hb); (try clear hb2); (try clear hk); (try clear hi); (try clear ho0))))
        (try simp only [Act.put, List.setIfInBounds_toArray, List.set_cons_zero, List.set_cons_succ])
        go_cut [105] from 62 to 81 (fun v105 wc => ∃ (kq : Nat) (x105_13 : Bool), v105 = .bool x105_13 ∧ Aside0 (laws_FnCoversFoundOfAll.j1 kq l0 l1 a2 l3 a4 t101 t102 t105 x105_13 = some true) ∧ Aside0 (kq ≤ kj5) ∧ Aside0 (Kd.R kRule 41 wc w.heap.size (fun _ => True) v107 t105) ∧ Aside0 (Below w.heap.size w wc))
        case first =>
          have H := HC14.out
          clear HC14
          by_cases c19 : (t102 != t104) = true
          · rw [if_pos c19] at H
            have c19b0 : (t102 != t104) = true := c19
            (try (have c19b1 : decide (t102 = t104) = false := by simpa using c19))
            (try (have c19b2 : (t102 == t104) = false := by simpa using c19))
            (try (have c19b3 : ¬ (t102 = t104) := by simpa using c19))
            clear c19
            (first | rw [c19b0] | rw [c19b1] | (simp only [i64_w, i32_w]; rw [c19b0]) | skip)
            have H' := Aside0.mk H
            clear H
            go_wp2
            repeat (go_quiet (fail); try go_wp2)
            go_meet
            case rel => exact ⟨_, (true), (by first | rfl | (simp; done) | (simp [*]; done)), H', ⟨by have := HJ5.out; first | omega | exact Nat.le_refl _⟩, ⟨by (with_reducible repeat (first | apply Kd.R_alloc | apply Kd.R_drewN | apply Kd.R_drew)); exact Kd.R_mono HO108.out (fun _ hk => trivial)⟩, ⟨by repeat (first | (with_reducible first | exact HB.out | apply below_alloc | apply pw_below_drewN | apply below_drew1) | exact HB.out)⟩⟩
          · rw [if_neg c19] at H
            have c19b0 : (t102 != t104) = false := by simpa using c19
            (try (have c19b1 : decide (t102 = t104) = true := by simpa using c19))
            (try (have c19b2 : (t102 == t104) = true := by simpa using c19))
            clear c19
            (first | rw [c19b0] | rw [c19b1] | (simp only [i64_w, i32_w]; rw [c19b0]) | skip)
            by_cases c20 : t101 = t103
            · rw [if_pos c20] at H
              have c20b0 : (t101 == t103) = true := beq_iff_eq.mpr c20
              have c20b1 : (t101 != t103) = false := bne_eq_false_iff_eq.mpr c20
              clear c20
              by_cases c21 : (t106 != t110) = true
              · rw [if_pos c21] at H
                have c21b0 : (t106 != t110) = true := c21
                (try (have c21b1 : decide (t106 = t110) = false := by simpa using c21))
                (try (have c21b2 : (t106 == t110) = false := by simpa using c21))
                (try (have c21b3 : ¬ (t106 = t110) := by simpa using c21))
                clear c21
                have H' := Aside0.mk H
                clear H
                go_wp2
                repeat (go_quiet (fail); try go_wp2)
                go_meet
                case rel => exact ⟨_, (true), (by first | rfl | (simp; done) | (simp [*]; done)), H', ⟨by have := HJ5.out; first | omega | exact Nat.le_refl _⟩, ⟨by (with_reducible repeat (first | apply Kd.R_alloc | apply Kd.R_drewN | apply Kd.R_drew)); exact Kd.R_mono HO108.out (fun _ hk => trivial)⟩, ⟨by repeat (first | (with_reducible first | exact HB.out | apply below_alloc | apply pw_below_drewN | apply below_drew1) | exact HB.out)⟩⟩
              · rw [if_neg c21] at H
                have c21b0 : (t106 != t110) = false := by simpa using c21
                (try (have c21b1 : decide (t106 = t110) = true := by simpa using c21))
                (try (have c21b2 : (t106 == t110) = true := by simpa using c21))
                clear c21
                replace H := Option.bind_eq_some_iff.mp H
                obtain ⟨t113, A220, H⟩ := H
                replace H : (if t113 = true then (laws_FnCoversFoundOfAll.j1 kj5 l0 l1 a2 l3 a4 t101 t102 t105 (t106 != t102)) else (laws_FnCoversFoundOfAll.j1 kj5 l0 l1 a2 l3 a4 t101 t102 t105 true)) = some true := H
                have A22 := Aside0.mk A220
                clear A220
                by_cases c23 : t113 = true
                · subst c23
                  have H1 : (laws_FnCoversFoundOfAll.j1 kj5 l0 l1 a2 l3 a4 t101 t102 t105 (t106 != t102)) = some true := by rw [if_pos rfl] at H; exact H
                  clear H
                  have H := H1
                  clear H1
                  have H' := Aside0.mk H
                  clear H
                  obtain ⟨Ao24, co24, eo24⟩ := Kd.R_slice HO108.out
                  subst eo24
                  obtain ⟨Ao25, co25, eo25⟩ := Kd.R_slice HO112.out
                  subst eo25
                  go_wp2_with (first | (go_at_call 22; (with_reducible refine (laws_tRules.calls kj5 _ _ t105 _ _ t109 true _ ?side1 ?side2 ?side3 ?side4 A22.out).mono ?_); (case side1 => repeat (first | exact (Kd.R_reads' HO108.out).2.2 | (with_reducible refine Kd.C_alloc ?_ _) | (with_reducible refine Kd.C_drewN ?_ _) | (with_reducible refine Kd.C_drew ?_))); (case side2 => exact (Kd.R_reads' HO108.out).2.1); (case side3 => repeat (first | exact (Kd.R_reads' HO112.out).2.2 | (with_reducible refine Kd.C_alloc ?_ _) | (with_reducible refine Kd.C_drewN ?_ _) | (with_reducible refine Kd.C_drew ?_))); (case side4 => exact (Kd.R_reads' HO112.out).2.1); rintro e w' ⟨rfl, ⟨nd, rfl⟩⟩; (try first | exact ⟨rfl, _, World.drewN_drewN _ _ _⟩ | exact ⟨rfl, _, Eq.trans (World.drewN_drewN _ _ _) (congrArg (World.drewN _) (Nat.add_assoc _ _ _))⟩)))
                  repeat (go_quiet (first | (go_at_call 22; (with_reducible refine (laws_tRules.calls kj5 _ _ t105 _ _ t109 true _ ?side1 ?side2 ?side3 ?side4 A22.out).mono ?_); (case side1 => repeat (first | exact (Kd.R_reads' HO108.out).2.2 | (with_reducible refine Kd.C_alloc ?_ _) | (with_reducible refine Kd.C_drewN ?_ _) | (with_reducible refine Kd.C_drew ?_))); (case side2 => exact (Kd.R_reads' HO108.out).2.1); (case side3 => repeat (first | exact (Kd.R_reads' HO112.out).2.2 | (with_reducible refine Kd.C_alloc ?_ _) | (with_reducible refine Kd.C_drewN ?_ _) | (with_reducible refine Kd.C_drew ?_))); (case side4 => exact (Kd.R_reads' HO112.out).2.1); rintro e w' ⟨rfl, ⟨nd, rfl⟩⟩; (try first | exact ⟨rfl, _, World.drewN_drewN _ _ _⟩ | exact ⟨rfl, _, Eq.trans (World.drewN_drewN _ _ _) (congrArg (World.drewN _) (Nat.add_assoc _ _ _))⟩))); try go_wp2_with (first | (go_at_call 22; (with_reducible refine (laws_tRules.calls kj5 _ _ t105 _ _ t109 true _ ?side1 ?side2 ?side3 ?side4 A22.out).mono ?_); (case side1 => repeat (first | exact (Kd.R_reads' HO108.out).2.2 | (with_reducible refine Kd.C_alloc ?_ _) | (with_reducible refine Kd.C_drewN ?_ _) | (with_reducible refine Kd.C_drew ?_))); (case side2 => exact (Kd.R_reads' HO108.out).2.1); (case side3 => repeat (first | exact (Kd.R_reads' HO112.out).2.2 | (with_reducible refine Kd.C_alloc ?_ _) | (with_reducible refine Kd.C_drewN ?_ _) | (with_reducible refine Kd.C_drew ?_))); (case side4 => exact (Kd.R_reads' HO112.out).2.1); rintro e w' ⟨rfl, ⟨nd, rfl⟩⟩; (try first | exact ⟨rfl, _, World.drewN_drewN _ _ _⟩ | exact ⟨rfl, _, Eq.trans (World.drewN_drewN _ _ _) (congrArg (World.drewN _) (Nat.add_assoc _ _ _))⟩))))
                  go_meet
                  case rel => exact ⟨_, ((t106 != t102)), (by first | rfl | (simp; done) | (simp [*]; done)), H', ⟨by have := HJ5.out; first | omega | exact Nat.le_refl _⟩, ⟨by (with_reducible repeat (first | apply Kd.R_alloc | apply Kd.R_drewN | apply Kd.R_drew)); exact Kd.R_mono HO108.out (fun _ hk => trivial)⟩, ⟨by repeat (first | (with_reducible first | exact HB.out | apply below_alloc | apply pw_below_drewN | apply below_drew1) | exact HB.out)⟩⟩
                · replace c23 := Bool.eq_false_iff.mpr c23
                  subst c23
                  have H1 : (laws_FnCoversFoundOfAll.j1 kj5 l0 l1 a2 l3 a4 t101 t102 t105 true) = some true := by rw [if_neg (show ¬ (false = true) by decide)] at H; exact H
                  clear H
                  have H := H1
                  clear H1
                  have H' := Aside0.mk H
                  clear H
                  obtain ⟨Ao26, co26, eo26⟩ := Kd.R_slice HO108.out
                  subst eo26
                  obtain ⟨Ao27, co27, eo27⟩ := Kd.R_slice HO112.out
                  subst eo27
                  go_wp2_with (first | (go_at_call 22; (with_reducible refine (laws_tRules.calls kj5 _ _ t105 _ _ t109 false _ ?side1 ?side2 ?side3 ?side4 A22.out).mono ?_); (case side1 => repeat (first | exact (Kd.R_reads' HO108.out).2.2 | (with_reducible refine Kd.C_alloc ?_ _) | (with_reducible refine Kd.C_drewN ?_ _) | (with_reducible refine Kd.C_drew ?_))); (case side2 => exact (Kd.R_reads' HO108.out).2.1); (case side3 => repeat (first | exact (Kd.R_reads' HO112.out).2.2 | (with_reducible refine Kd.C_alloc ?_ _) | (with_reducible refine Kd.C_drewN ?_ _) | (with_reducible refine Kd.C_drew ?_))); (case side4 => exact (Kd.R_reads' HO112.out).2.1); rintro e w' ⟨rfl, ⟨nd, rfl⟩⟩; (try first | exact ⟨rfl, _, World.drewN_drewN _ _ _⟩ | exact ⟨rfl, _, Eq.trans (World.drewN_drewN _ _ _) (congrArg (World.drewN _) (Nat.add_assoc _ _ _))⟩)))
                  repeat (go_quiet (first | (go_at_call 22; (with_reducible refine (laws_tRules.calls kj5 _ _ t105 _ _ t109 false _ ?side1 ?side2 ?side3 ?side4 A22.out).mono ?_); (case side1 => repeat (first | exact (Kd.R_reads' HO108.out).2.2 | (with_reducible refine Kd.C_alloc ?_ _) | (with_reducible refine Kd.C_drewN ?_ _) | (with_reducible refine Kd.C_drew ?_))); (case side2 => exact (Kd.R_reads' HO108.out).2.1); (case side3 => repeat (first | exact (Kd.R_reads' HO112.out).2.2 | (with_reducible refine Kd.C_alloc ?_ _) | (with_reducible refine Kd.C_drewN ?_ _) | (with_reducible refine Kd.C_drew ?_))); (case side4 => exact (Kd.R_reads' HO112.out).2.1); rintro e w' ⟨rfl, ⟨nd, rfl⟩⟩; (try first | exact ⟨rfl, _, World.drewN_drewN _ _ _⟩ | exact ⟨rfl, _, Eq.trans (World.drewN_drewN _ _ _) (congrArg (World.drewN _) (Nat.add_assoc _ _ _))⟩))); try go_wp2_with (first | (go_at_call 22; (with_reducible refine (laws_tRules.calls kj5 _ _ t105 _ _ t109 false _ ?side1 ?side2 ?side3 ?side4 A22.out).mono ?_); (case side1 => repeat (first | exact (Kd.R_reads' HO108.out).2.2 | (with_reducible refine Kd.C_alloc ?_ _) | (with_reducible refine Kd.C_drewN ?_ _) | (with_reducible refine Kd.C_drew ?_))); (case side2 => exact (Kd.R_reads' HO108.out).2.1); (case side3 => repeat (first | exact (Kd.R_reads' HO112.out).2.2 | (with_reducible refine Kd.C_alloc ?_ _) | (with_reducible refine Kd.C_drewN ?_ _) | (with_reducible refine Kd.C_drew ?_))); (case side4 => exact (Kd.R_reads' HO112.out).2.1); rintro e w' ⟨rfl, ⟨nd, rfl⟩⟩; (try first | exact ⟨rfl, _, World.drewN_drewN _ _ _⟩ | exact ⟨rfl, _, Eq.trans (World.drewN_drewN _ _ _) (congrArg (World.drewN _) (Nat.add_assoc _ _ _))⟩))))
                  go_meet
                  case rel => exact ⟨_, (true), (by first | rfl | (simp; done) | (simp [*]; done)), H', ⟨by have := HJ5.out; first | omega | exact Nat.le_refl _⟩, ⟨by (with_reducible repeat (first | apply Kd.R_alloc | apply Kd.R_drewN | apply Kd.R_drew)); exact Kd.R_mono HO108.out (fun _ hk => trivial)⟩, ⟨by repeat (first | (with_reducible first | exact HB.out | apply below_alloc | apply pw_below_drewN | apply below_drew1) | exact HB.out)⟩⟩
            · rw [if_neg c20] at H
              have c20b0 : (t101 == t103) = false := beq_eq_false_iff_ne.mpr c20
              have c20b1 : (t101 != t103) = true := bne_iff_ne.mpr c20
              have H' := Aside0.mk H
              clear H
              go_wp2
              repeat (go_quiet (fail); try go_wp2)
              go_meet
              case rel => exact ⟨_, (true), (by first | rfl | (simp; done) | (simp [*]; done)), H', ⟨by have := HJ5.out; first | omega | exact Nat.le_refl _⟩, ⟨by (with_reducible repeat (first | apply Kd.R_alloc | apply Kd.R_drewN | apply Kd.R_drew)); exact Kd.R_mono HO108.out (fun _ hk => trivial)⟩, ⟨by repeat (first | (with_reducible first | exact HB.out | apply below_alloc | apply pw_below_drewN | apply below_drew1) | exact HB.out)⟩⟩
        case rest =>
          as_aux_lemma =>
            clear HC14
            try clear c1
            try clear c2
            try clear p2
            try clear c3
            try clear c6
            try clear c7
            try clear c7b0
            try clear c7b1
            try clear c8
            try clear c8b0
            try clear c8b1
            try clear c9
            try clear c19
            try clear c19b0
            try clear c19b1
            try clear c19b2
            try clear c20
            try clear c20b0
            try clear c20b1
            try clear c21
            try clear c21b0
            try clear c21b1
            try clear c21b2
            try clear c23
            try clear p2
            obtain ⟨kq, x105_13, rfl, HA, HJ13, HO_15, HB⟩ := hcut
            cases kq with
            | zero => exact absurd HA.out (by simp [laws_FnCoversFoundOfAll.j1])
            | succ kj13 =>
              have H := HA.out
              clear HA
              simp only [laws_FnCoversFoundOfAll.j1] at H
              by_cases c28 : x105_13 = true
              · subst c28
                have H1 : (some false) = some true := by rw [if_pos rfl] at H; exact H
                clear H
                have H := H1
                clear H1
                exact absurd H (by simp)
              · replace c28 := Bool.eq_false_iff.mpr c28
                subst c28
                have H1 : (if t102 = true then ((impl_FirstCover.f kj13 l0 t101).bind fun bt114 => ((impl_FirstCover.f kj13 l0 (wrap64 (t101 + 1))).bind fun bt118 => ((impl_CountCovers.f kj13 l0 t101).bind fun bt122 => ((impl_IsCover.f kj13 bt114.1 t101).bind fun bt124 => (if bt114.2 = true then (if t101 < 40 then (if bt118.2 = true then (laws_FnCoversFoundOfAll.j2 kj13 l0 l1 a2 l3 a4 t101 t105 bt114.1 true) else (if bt122.2 = true then (if bt122.1 < 1 then (laws_FnCoversFoundOfAll.j2 kj13 l0 l1 a2 l3 a4 t101 t105 bt114.1 true) else (if bt124.2 = true then (if bt124.1 = true then (laws_FnCoversFoundOfAll.j2 kj13 l0 l1 a2 l3 a4 t101 t105 bt114.1 ((t105.length : Int) != (l0.length : Int))) else (laws_FnCoversFoundOfAll.j2 kj13 l0 l1 a2 l3 a4 t101 t105 bt114.1 true)) else (laws_FnCoversFoundOfAll.j2 kj13 l0 l1 a2 l3 a4 t101 t105 bt114.1 true))) else (laws_FnCoversFoundOfAll.j2 kj13 l0 l1 a2 l3 a4 t101 t105 bt114.1 true))) else (if bt122.2 = true then (if bt122.1 < 1 then (laws_FnCoversFoundOfAll.j2 kj13 l0 l1 a2 l3 a4 t101 t105 bt114.1 true) else (if bt124.2 = true then (if bt124.1 = true then (laws_FnCoversFoundOfAll.j2 kj13 l0 l1 a2 l3 a4 t101 t105 bt114.1 ((t105.length : Int) != (l0.length : Int))) else (laws_FnCoversFoundOfAll.j2 kj13 l0 l1 a2 l3 a4 t101 t105 bt114.1 true)) else (laws_FnCoversFoundOfAll.j2 kj13 l0 l1 a2 l3 a4 t101 t105 bt114.1 true))) else (laws_FnCoversFoundOfAll.j2 kj13 l0 l1 a2 l3 a4 t101 t105 bt114.1 true))) else (laws_FnCoversFoundOfAll.j2 kj13 l0 l1 a2 l3 a4 t101 t105 bt114.1 true)))))) else (laws_FnCoversFoundOfAll.j5 kj13 l1 a2 l3 a4)) = some true := by rw [if_neg (show ¬ (false = true) by decide)] at H; exact H
                clear H
                have H := H1
                clear H1
                have HC29 := Aside0.mk H
                clear H
                go_upto_if 106 with (fail)
                repeat (go_quiet (fail); go_upto_if 106 with (fail))
                go_cut [] from 106 to 106 (fun wc => ∃ (kq : Nat), Aside0 (laws_FnCoversFoundOfAll.j5 kq l1 a2 l3 a4 = some true) ∧ Aside0 (kq ≤ kj13) ∧ Aside0 (Below w.heap.size w wc))
                case first =>
                  as_aux_lemma =>
                    have H := HC29.out
                    clear HC29
                    by_cases c30 : t102 = true
                    · subst c30
                      have H1 : ((impl_FirstCover.f kj13 l0 t101).bind fun bt114 => ((impl_FirstCover.f kj13 l0 (wrap64 (t101 + 1))).bind fun bt118 => ((impl_CountCovers.f kj13 l0 t101).bind fun bt122 => ((impl_IsCover.f kj13 bt114.1 t101).bind fun bt124 => (if bt114.2 = true then (if t101 < 40 then (if bt118.2 = true then (laws_FnCoversFoundOfAll.j2 kj13 l0 l1 a2 l3 a4 t101 t105 bt114.1 true) else (if bt122.2 = true then (if bt122.1 < 1 then (laws_FnCoversFoundOfAll.j2 kj13 l0 l1 a2 l3 a4 t101 t105 bt114.1 true) else (if bt124.2 = true then (if bt124.1 = true then (laws_FnCoversFoundOfAll.j2 kj13 l0 l1 a2 l3 a4 t101 t105 bt114.1 ((t105.length : Int) != (l0.length : Int))) else (laws_FnCoversFoundOfAll.j2 kj13 l0 l1 a2 l3 a4 t101 t105 bt114.1 true)) else (laws_FnCoversFoundOfAll.j2 kj13 l0 l1 a2 l3 a4 t101 t105 bt114.1 true))) else (laws_FnCoversFoundOfAll.j2 kj13 l0 l1 a2 l3 a4 t101 t105 bt114.1 true))) else (if bt122.2 = true then (if bt122.1 < 1 then (laws_FnCoversFoundOfAll.j2 kj13 l0 l1 a2 l3 a4 t101 t105 bt114.1 true) else (if bt124.2 = true then (if bt124.1 = true then (laws_FnCoversFoundOfAll.j2 kj13 l0 l1 a2 l3 a4 t101 t105 bt114.1 ((t105.length : Int) != (l0.length : Int))) else (laws_FnCoversFoundOfAll.j2 kj13 l0 l1 a2 l3 a4 t101 t105 bt114.1 true)) else (laws_FnCoversFoundOfAll.j2 kj13 l0 l1 a2 l3 a4 t101 t105 bt114.1 true))) else (laws_FnCoversFoundOfAll.j2 kj13 l0 l1 a2 l3 a4 t101 t105 bt114.1 true))) else (laws_FnCoversFoundOfAll.j2 kj13 l0 l1 a2 l3 a4 t101 t105 bt114.1 true)))))) = some true := by rw [if_pos rfl] at H; exact H
                      clear H
                      have H := H1
                      clear H1
                      replace H := Option.bind_eq_some_iff.mp H
                      obtain ⟨⟨t114, t115⟩, A310, H⟩ := H
                      replace H : ((impl_FirstCover.f kj13 l0 (wrap64 (t101 + 1))).bind fun bt118 => ((impl_CountCovers.f kj13 l0 t101).bind fun bt122 => ((impl_IsCover.f kj13 t114 t101).bind fun bt124 => (if t115 = true then (if t101 < 40 then (if bt118.2 = true then (laws_FnCoversFoundOfAll.j2 kj13 l0 l1 a2 l3 a4 t101 t105 t114 true) else (if bt122.2 = true then (if bt122.1 < 1 then (laws_FnCoversFoundOfAll.j2 kj13 l0 l1 a2 l3 a4 t101 t105 t114 true) else (if bt124.2 = true then (if bt124.1 = true then (laws_FnCoversFoundOfAll.j2 kj13 l0 l1 a2 l3 a4 t101 t105 t114 ((t105.length : Int) != (l0.length : Int))) else (laws_FnCoversFoundOfAll.j2 kj13 l0 l1 a2 l3 a4 t101 t105 t114 true)) else (laws_FnCoversFoundOfAll.j2 kj13 l0 l1 a2 l3 a4 t101 t105 t114 true))) else (laws_FnCoversFoundOfAll.j2 kj13 l0 l1 a2 l3 a4 t101 t105 t114 true))) else (if bt122.2 = true then (if bt122.1 < 1 then (laws_FnCoversFoundOfAll.j2 kj13 l0 l1 a2 l3 a4 t101 t105 t114 true) else (if bt124.2 = true then (if bt124.1 = true then (laws_FnCoversFoundOfAll.j2 kj13 l0 l1 a2 l3 a4 t101 t105 t114 ((t105.length : Int) != (l0.length : Int))) else (laws_FnCoversFoundOfAll.j2 kj13 l0 l1 a2 l3 a4 t101 t105 t114 true)) else (laws_FnCoversFoundOfAll.j2 kj13 l0 l1 a2 l3 a4 t101 t105 t114 true))) else (laws_FnCoversFoundOfAll.j2 kj13 l0 l1 a2 l3 a4 t101 t105 t114 true))) else (laws_FnCoversFoundOfAll.j2 kj13 l0 l1 a2 l3 a4 t101 t105 t114 true))))) = some true := H
                      have A31 := Aside0.mk A310
                      clear A310
                      replace H := Option.bind_eq_some_iff.mp H
                      obtain ⟨⟨t118, t119⟩, A320, H⟩ := H
                      replace H : ((impl_CountCovers.f kj13 l0 t101).bind fun bt122 => ((impl_IsCover.f kj13 t114 t101).bind fun bt124 => (if t115 = true then (if t101 < 40 then (if t119 = true then (laws_FnCoversFoundOfAll.j2 kj13 l0 l1 a2 l3 a4 t101 t105 t114 true) else (if bt122.2 = true then (if bt122.1 < 1 then (laws_FnCoversFoundOfAll.j2 kj13 l0 l1 a2 l3 a4 t101 t105 t114 true) else (if bt124.2 = true then (if bt124.1 = true then (laws_FnCoversFoundOfAll.j2 kj13 l0 l1 a2 l3 a4 t101 t105 t114 ((t105.length : Int) != (l0.length : Int))) else (laws_FnCoversFoundOfAll.j2 kj13 l0 l1 a2 l3 a4 t101 t105 t114 true)) else (laws_FnCoversFoundOfAll.j2 kj13 l0 l1 a2 l3 a4 t101 t105 t114 true))) else (laws_FnCoversFoundOfAll.j2 kj13 l0 l1 a2 l3 a4 t101 t105 t114 true))) else (if bt122.2 = true then (if bt122.1 < 1 then (laws_FnCoversFoundOfAll.j2 kj13 l0 l1 a2 l3 a4 t101 t105 t114 true) else (if bt124.2 = true then (if bt124.1 = true then (laws_FnCoversFoundOfAll.j2 kj13 l0 l1 a2 l3 a4 t101 t105 t114 ((t105.length : Int) != (l0.length : Int))) else (laws_FnCoversFoundOfAll.j2 kj13 l0 l1 a2 l3 a4 t101 t105 t114 true)) else (laws_FnCoversFoundOfAll.j2 kj13 l0 l1 a2 l3 a4 t101 t105 t114 true))) else (laws_FnCoversFoundOfAll.j2 kj13 l0 l1 a2 l3 a4 t101 t105 t114 true))) else (laws_FnCoversFoundOfAll.j2 kj13 l0 l1 a2 l3 a4 t101 t105 t114 true)))) = some true := H
                      have A32 := Aside0.mk A320
                      clear A320
                      replace H := Option.bind_eq_some_iff.mp H
                      obtain ⟨⟨t122, t123⟩, A330, H⟩ := H
                      replace H : ((impl_IsCover.f kj13 t114 t101).bind fun bt124 => (if t115 = true then (if t101 < 40 then (if t119 = true then (laws_FnCoversFoundOfAll.j2 kj13 l0 l1 a2 l3 a4 t101 t105 t114 true) else (if t123 = true then (if t122 < 1 then (laws_FnCoversFoundOfAll.j2 kj13 l0 l1 a2 l3 a4 t101 t105 t114 true) else (if bt124.2 = true then (if bt124.1 = true then (laws_FnCoversFoundOfAll.j2 kj13 l0 l1 a2 l3 a4 t101 t105 t114 ((t105.length : Int) != (l0.length : Int))) else (laws_FnCoversFoundOfAll.j2 kj13 l0 l1 a2 l3 a4 t101 t105 t114 true)) else (laws_FnCoversFoundOfAll.j2 kj13 l0 l1 a2 l3 a4 t101 t105 t114 true))) else (laws_FnCoversFoundOfAll.j2 kj13 l0 l1 a2 l3 a4 t101 t105 t114 true))) else (if t123 = true then (if t122 < 1 then (laws_FnCoversFoundOfAll.j2 kj13 l0 l1 a2 l3 a4 t101 t105 t114 true) else (if bt124.2 = true then (if bt124.1 = true then (laws_FnCoversFoundOfAll.j2 kj13 l0 l1 a2 l3 a4 t101 t105 t114 ((t105.length : Int) != (l0.length : Int))) else (laws_FnCoversFoundOfAll.j2 kj13 l0 l1 a2 l3 a4 t101 t105 t114 true)) else (laws_FnCoversFoundOfAll.j2 kj13 l0 l1 a2 l3 a4 t101 t105 t114 true))) else (laws_FnCoversFoundOfAll.j2 kj13 l0 l1 a2 l3 a4 t101 t105 t114 true))) else (laws_FnCoversFoundOfAll.j2 kj13 l0 l1 a2 l3 a4 t101 t105 t114 true))) = some true := H
                      have A33 := Aside0.mk A330
                      clear A330
                      replace H := Option.bind_eq_some_iff.mp H
                      obtain ⟨⟨t124, t125⟩, A340, H⟩ := H
                      replace H : (if t115 = true then (if t101 < 40 then (if t119 = true then (laws_FnCoversFoundOfAll.j2 kj13 l0 l1 a2 l3 a4 t101 t105 t114 true) else (if t123 = true then (if t122 < 1 then (laws_FnCoversFoundOfAll.j2 kj13 l0 l1 a2 l3 a4 t101 t105 t114 true) else (if t125 = true then (if t124 = true then (laws_FnCoversFoundOfAll.j2 kj13 l0 l1 a2 l3 a4 t101 t105 t114 ((t105.length : Int) != (l0.length : Int))) else (laws_FnCoversFoundOfAll.j2 kj13 l0 l1 a2 l3 a4 t101 t105 t114 true)) else (laws_FnCoversFoundOfAll.j2 kj13 l0 l1 a2 l3 a4 t101 t105 t114 true))) else (laws_FnCoversFoundOfAll.j2 kj13 l0 l1 a2 l3 a4 t101 t105 t114 true))) else (if t123 = true then (if t122 < 1 then (laws_FnCoversFoundOfAll.j2 kj13 l0 l1 a2 l3 a4 t101 t105 t114 true) else (if t125 = true then (if t124 = true then (laws_FnCoversFoundOfAll.j2 kj13 l0 l1 a2 l3 a4 t101 t105 t114 ((t105.length : Int) != (l0.length : Int))) else (laws_FnCoversFoundOfAll.j2 kj13 l0 l1 a2 l3 a4 t101 t105 t114 true)) else (laws_FnCoversFoundOfAll.j2 kj13 l0 l1 a2 l3 a4 t101 t105 t114 true))) else (laws_FnCoversFoundOfAll.j2 kj13 l0 l1 a2 l3 a4 t101 t105 t114 true))) else (laws_FnCoversFoundOfAll.j2 kj13 l0 l1 a2 l3 a4 t101 t105 t114 true)) = some true := H
                      have A34 := Aside0.mk A340
                      clear A340
                      have HC35 := Aside0.mk H
                      clear H
                      go_upto_region 14 with (first | (go_at_call 15; (with_reducible refine (impl_FirstCover.calls kj13 _ _ l0 t101 t114 t115 _ ?side1 ?side2 A31.out).mono ?_); (case side1 => repeat (first | exact (Kd.C_below HR0.out HB.out) | (with_reducible refine Kd.C_alloc ?_ _) | (with_reducible refine Kd.C_drewN ?_ _) | (with_reducible refine Kd.C_drew ?_))); (case side2 => exact HC0.out); rintro e w36 ⟨v116, rfl, ho0, hb⟩; have n0_ := Aside0.mk (Kd.R_elder' (by (with_reducible repeat (first | apply Kd.R_alloc | apply Kd.R_drewN | apply Kd.R_drew)); exact HO_15.out) (Kd.R_base ho0) hb); have n1_ := Aside0.mk (Kd.R_lower (Kd.R_new' ho0 (Kd.R_lt (by (with_reducible repeat (first | apply Kd.R_alloc | apply Kd.R_drewN | apply Kd.R_drew)); exact HO_15.out))) (below_size (by repeat (first | (with_reducible first | exact HB.out | apply below_alloc | apply pw_below_drewN | apply below_drew1) | exact HB.out)))); have n2_ := Aside0.mk (below_step (by repeat (first | (with_reducible first | exact HB.out | apply below_alloc | apply pw_below_drewN | apply below_drew1) | exact HB.out)) hb); clear HO_15; clear HB; have HO_15 := n0_; have HO117 := n1_; have HB := n2_; clear n0_ n1_ n2_; (try clear hb); (try clear hb2); (try clear hk); (try clear hi); (try clear ho0)) | (go_at_call 15; (with_reducible refine (impl_FirstCover.calls kj13 _ _ l0 (wrap64 (t101 + 1)) t118 t119 _ ?side1 ?side2 A32.out).mono ?_); (case side1 => repeat (first | exact (Kd.C_below HR0.out HB.out) | (with_reducible refine Kd.C_alloc ?_ _) | (with_reducible refine Kd.C_drewN ?_ _) | (with_reducible refine Kd.C_drew ?_))); (case side2 => exact HC0.out); rintro e w37 ⟨v120, rfl, ho0, hb⟩; have n0_ := Aside0.mk (Kd.R_elder' (by (with_reducible repeat (first | apply Kd.R_alloc | apply Kd.R_drewN | apply Kd.R_drew)); exact HO_15.out) (Kd.R_base ho0) hb); have n1_ := Aside0.mk (Kd.R_elder' (by (with_reducible repeat (first | apply Kd.R_alloc | apply Kd.R_drewN | apply Kd.R_drew)); exact HO117.out) (Kd.R_base ho0) hb); have n2_ := Aside0.mk (Kd.R_lower (Kd.R_new' (Kd.R_new' ho0 (Kd.R_lt (by (with_reducible repeat (first | apply Kd.R_alloc | apply Kd.R_drewN | apply Kd.R_drew)); exact HO_15.out))) (Kd.R_lt (by (with_reducible repeat (first | apply Kd.R_alloc | apply Kd.R_drewN | apply Kd.R_drew)); exact HO117.out))) (below_size (by repeat (first | (with_reducible first | exact HB.out | apply below_alloc | apply pw_below_drewN | apply below_drew1) | exact HB.out)))); have n3_ := Aside0.mk (below_step (by repeat (first | (with_reducible first | exact HB.out | apply below_alloc | apply pw_below_drewN | apply below_drew1) | exact HB.out)) hb); clear HO_15; clear HO117; clear HB; have HO_15 := n0_; have HO117 := n1_; have HO121 := n2_; have HB := n3_; clear n0_ n1_ n2_ n3_; (try clear hb); (try clear hb2); (try clear hk); (try clear hi); (try clear ho0)) | (go_at_call 10; (with_reducible refine (impl_CountCovers.calls kj13 _ _ l0 t101 t122 t123 _ ?side1 ?side2 A33.out).mono ?_); (case side1 => repeat (first | exact (Kd.C_below HR0.out HB.out) | (with_reducible refine Kd.C_alloc ?_ _) | (with_reducible refine Kd.C_drewN ?_ _) | (with_reducible refine Kd.C_drew ?_))); (case side2 => exact HC0.out); rintro e w38 ⟨rfl, hb⟩; have n0_ := Aside0.mk (Kd.R_below (by (with_reducible repeat (first | apply Kd.R_alloc | apply Kd.R_drewN | apply Kd.R_drew)); exact HO_15.out) hb); have n1_ := Aside0.mk (Kd.R_below (by (with_reducible repeat (first | apply Kd.R_alloc | apply Kd.R_drewN | apply Kd.R_drew)); exact HO117.out) hb); have n2_ := Aside0.mk (Kd.R_below (by (with_reducible repeat (first | apply Kd.R_alloc | apply Kd.R_drewN | apply Kd.R_drew)); exact HO121.out) hb); have n3_ := Aside0.mk (below_step (by repeat (first | (with_reducible first | exact HB.out | apply below_alloc | apply pw_below_drewN | apply below_drew1) | exact HB.out)) hb); clear HO_15; clear HO117; clear HO121; clear HB; have HO_15 := n0_; have HO117 := n1_; have HO121 := n2_; have HB := n3_; clear n0_ n1_ n2_ n3_; (try clear hb); (try clear hb2); (try clear hk); (try clear hi); obtain ⟨Ao39, co39, eo39⟩ := Kd.R_slice HO117.out; subst eo39) | (go_at_call 23; (with_reducible refine (impl_IsCover.calls kj13 _ _ t114 t101 t124 t125 _ ?side1 ?side2 A34.out).mono ?_); (case side1 => repeat (first | exact (Kd.R_reads' HO117.out).2.2 | (with_reducible refine Kd.C_alloc ?_ _) | (with_reducible refine Kd.C_drewN ?_ _) | (with_reducible refine Kd.C_drew ?_))); (case side2 => exact (Kd.R_reads' HO117.out).2.1); rintro e w40 ⟨rfl, hb⟩; have n0_ := Aside0.mk (Kd.R_below (by (with_reducible repeat (first | apply Kd.R_alloc | apply Kd.R_drewN | apply Kd.R_drew)); exact HO_15.out) hb); have n1_ := Aside0.mk (Kd.R_below (by (with_reducible repeat (first | apply Kd.R_alloc | apply Kd.R_drewN | apply Kd.R_drew)); exact HO117.out) hb); have n2_ := Aside0.mk (Kd.R_below (by (with_reducible repeat (first | apply Kd.R_alloc | apply Kd.R_drewN | apply Kd.R_drew)); exact HO121.out) hb); have n3_ := Aside0.mk (below_step (by repeat (first | (with_reducible first | exact HB.out | apply below_alloc | apply pw_below_drewN | apply below_drew1) | exact HB.out)) hb); clear HO_15; clear HO117; clear HO121; clear HB; have HO_15 := n0_; have HO117 := n1_; have HO121 := n2_; have HB := n3_; clear n0_ n1_ n2_ n3_; (try clear hb); (try clear hb2); (try clear hk); (try clear hi)))
                      repeat (go_quiet (first | (go_at_call 15; (with_reducible refine (impl_FirstCover.calls kj13 _ _ l0 t101 t114 t115 _ ?side1 ?side2 A31.out).mono ?_); (case side1 => repeat (first | exact (Kd.C_below HR0.out HB.out) | (with_reducible refine Kd.C_alloc ?_ _) | (with_reducible refine Kd.C_drewN ?_ _) | (with_reducible refine Kd.C_drew ?_))); (case side2 => exact HC0.out); rintro e w36 ⟨v116, rfl, ho0, hb⟩; have n0_ := Aside0.mk (Kd.R_elder' (by (with_reducible repeat (first | apply Kd.R_alloc | apply Kd.R_drewN | apply Kd.R_drew)); exact HO_15.out) (Kd.R_base ho0) hb); have n1_ := Aside0.mk (Kd.R_lower (Kd.R_new' ho0 (Kd.R_lt (by (with_reducible repeat (first | apply Kd.R_alloc | apply Kd.R_drewN | apply Kd.R_drew)); exact HO_15.out))) (below_size (by repeat (first | (with_reducible first | exact HB.out | apply below_alloc | apply pw_below_drewN | apply below_drew1) | exact HB.out)))); have n2_ := Aside0.mk (below_step (by repeat (first | (with_reducible first | exact HB.out | apply below_alloc | apply pw_below_drewN | apply below_drew1) | exact HB.out)) hb); clear HO_15; clear HB; have HO_15 := n0_; have HO117 := n1_; have HB := n2_; clear n0_ n1_ n2_; (try clear hb); (try clear hb2); (try clear hk); (try clear hi); (try clear ho0)) | (go_at_call 15; (with_reducible refine (impl_FirstCover.calls kj13 _ _ l0 (wrap64 (t101 + 1)) t118 t119 _ ?side1 ?side2 A32.out).mono ?_); (case side1 => repeat (first | exact (Kd.C_below HR0.out HB.out) | (with_reducible refine Kd.C_alloc ?_ _) | (with_reducible refine Kd.C_drewN ?_ _) | (with_reducible refine Kd.C_drew ?_))); (case side2 => exact HC0.out); rintro e w37 ⟨v120, rfl, ho0, hb⟩; have n0_ := Aside0.mk (Kd.R_elder' (by (with_reducible repeat (first | apply Kd.R_alloc | apply Kd.R_drewN | apply Kd.R_drew)); exact HO_15.out) (Kd.R_base ho0) hb); have n1_ := Aside0.mk (Kd.R_elder' (by (with_reducible repeat (first | apply Kd.R_alloc | apply Kd.R_drewN | apply Kd.R_drew)); exact HO117.out) (Kd.R_base ho0) hb); have n2_ := Aside0.mk (Kd.R_lower (Kd.R_new' (Kd.R_new' ho0 (Kd.R_lt (by (with_reducible repeat (first | apply Kd.R_alloc | apply Kd.R_drewN | apply Kd.R_drew)); exact HO_15.out))) (Kd.R_lt (by (with_reducible repeat (first | apply Kd.R_alloc | apply Kd.R_drewN | apply Kd.R_drew)); exact HO117.out))) (below_size (by repeat (first | (with_reducible first | exact HB.out | apply below_alloc | apply pw_below_drewN | apply below_drew1) | exact HB.out)))); have n3_ := Aside0.mk (below_step (by repeat (first | (with_reducible first | exact HB.out | apply below_alloc | apply pw_below_drewN | apply below_drew1) | exact HB.out)) hb); clear HO_15; clear HO117; clear HB; have HO_15 := n0_; have HO117 := n1_; have HO121 := n2_; have HB := n3_; clear n0_ n1_ n2_ n3_; (try clear hb); (try clear hb2); (try clear hk); (try clear hi); (try clear ho0)) | (go_at_call 10; (with_reducible refine (impl_CountCovers.calls kj13 _ _ l0 t101 t122 t123 _ ?side1 ?side2 A33.out).mono ?_); (case side1 => repeat (first | exact (Kd.C_below HR0.out HB.out) | (with_reducible refine Kd.C_alloc ?_ _) | (with_reducible refine Kd.C_drewN ?_ _) | (with_reducible refine Kd.C_drew ?_))); (case side2 => exact HC0.out); rintro e w38 ⟨rfl, hb⟩; have n0_ := Aside0.mk (Kd.R_below (by (with_reducible repeat (first | apply Kd.R_alloc | apply Kd.R_drewN | apply Kd.R_drew)); exact HO_15.out) hb); have n1_ := Aside0.mk (Kd.R_below (by (with_reducible repeat (first | apply Kd.R_alloc | apply Kd.R_drewN | apply Kd.R_drew)); exact HO117.out) hb); have n2_ := Aside0.mk (Kd.R_below (by (with_reducible repeat (first | apply Kd.R_alloc | apply Kd.R_drewN | apply Kd.R_drew)); exact HO121.out) hb); have n3_ := Aside0.mk (below_step (by repeat (first | (with_reducible first | exact HB.out | apply below_alloc | apply pw_below_drewN | apply below_drew1) | exact HB.out)) hb); clear HO_15; clear HO117; clear HO121; clear HB; have HO_15 := n0_; have HO117 := n1_; have HO121 := n2_; have HB := n3_; clear n0_ n1_ n2_ n3_; (try clear hb); (try clear hb2); (try clear hk); (try clear hi); obtain ⟨Ao39, co39, eo39⟩ := Kd.R_slice HO117.out; subst eo39) | (go_at_call 23; (with_reducible refine (impl_IsCover.calls kj13 _ _ t114 t101 t124 t125 _ ?side1 ?side2 A34.out).mono ?_); (case side1 => repeat (first | exact (Kd.R_reads' HO117.out).2.2 | (with_reducible refine Kd.C_alloc ?_ _) | (with_reducible refine Kd.C_drewN ?_ _) | (with_reducible refine Kd.C_drew ?_))); (case side2 => exact (Kd.R_reads' HO117.out).2.1); rintro e w40 ⟨rfl, hb⟩; have n0_ := Aside0.mk (Kd.R_below (by (with_reducible repeat (first | apply Kd.R_alloc | apply Kd.R_drewN | apply Kd.R_drew)); exact HO_15.out) hb); have n1_ := Aside0.mk (Kd.R_below (by (with_reducible repeat (first | apply Kd.R_alloc | apply Kd.R_drewN | apply Kd.R_drew)); exact HO117.out) hb); have n2_ := Aside0.mk (Kd.R_below (by (with_reducible repeat (first | apply Kd.R_alloc | apply Kd.R_drewN | apply Kd.R_drew)); exact HO121.out) hb); have n3_ := Aside0.mk (below_step (by repeat (first | (with_reducible first | exact HB.out | apply below_alloc | apply pw_below_drewN | apply below_drew1) | exact HB.out)) hb); clear HO_15; clear HO117; clear HO121; clear HB; have HO_15 := n0_; have HO117 := n1_; have HO121 := n2_; have HB := n3_; clear n0_ n1_ n2_ n3_; (try clear hb); (try clear hb2); (try clear hk); (try clear hi))); go_upto_region 14 with (first | (go_at_call 15; (with_reducible refine (impl_FirstCover.calls kj13 _ _ l0 t101 t114 t115 _ ?side1 ?side2 A31.out).mono ?_); (case side1 => repeat (first | exact (Kd.C_below HR0.out HB.out) | (with_reducible refine Kd.C_alloc ?_ _) | (with_reducible refine Kd.C_drewN ?_ _) | (with_reducible refine Kd.C_drew ?_))); (case side2 => exact HC0.out); rintro e w36 ⟨v116, rfl, ho0, hb⟩; have n0_ := Aside0.mk (Kd.R_elder' (by (with_reducible repeat (first | apply Kd.R_alloc | apply Kd.R_drewN | apply Kd.R_drew)); exact HO_15.out) (Kd.R_base ho0) hb); have n1_ := Aside0.mk (Kd.R_lower (Kd.R_new' ho0 (Kd.R_lt (by (with_reducible repeat (first | apply Kd.R_alloc | apply Kd.R_drewN | apply Kd.R_drew)); exact HO_15.out))) (below_size (by repeat (first | (with_reducible first | exact HB.out | apply below_alloc | apply pw_below_drewN | apply below_drew1) | exact HB.out)))); have n2_ := Aside0.mk (below_step (by repeat (first | (with_reducible first | exact HB.out | apply below_alloc | apply pw_below_drewN | apply below_drew1) | exact HB.out)) hb); clear HO_15; clear HB; have HO_15 := n0_; have HO117 := n1_; have HB := n2_; clear n0_ n1_ n2_; (try clear hb); (try clear hb2); (try clear hk); (try clear hi); (try clear ho0)) | (go_at_call 15; (with_reducible refine (impl_FirstCover.calls kj13 _ _ l0 (wrap64 (t101 + 1)) t118 t119 _ ?side1 ?side2 A32.out).mono ?_); (case side1 => repeat (first | exact (Kd.C_below HR0.out HB.out) | (with_reducible refine Kd.C_alloc ?_ _) | (with_reducible refine Kd.C_drewN ?_ _) | (with_reducible refine Kd.C_drew ?_))); (case side2 => exact HC0.out); rintro e w37 ⟨v120, rfl, ho0, hb⟩; have n0_ := Aside0.mk (Kd.R_elder' (by (with_reducible repeat (first | apply Kd.R_alloc | apply Kd.R_drewN | apply Kd.R_drew)); exact HO_15.out) (Kd.R_base ho0) hb); have n1_ := Aside0.mk (Kd.R_elder' (by (with_reducible repeat (first | apply Kd.R_alloc | apply Kd.R_drewN | apply Kd.R_drew)); exact HO117.out) (Kd.R_base ho0) hb); have n2_ := Aside0.mk (Kd.R_lower (Kd.R_new' (Kd.R_new' ho0 (Kd.R_lt (by (with_reducible repeat (first | apply Kd.R_alloc | apply Kd.R_drewN | apply Kd.R_drew)); exact HO_15.out))) (Kd.R_lt (by (with_reducible repeat (first | apply Kd.R_alloc | apply Kd.R_drewN | apply Kd.R_drew)); exact HO117.out))) (below_size (by repeat (first | (with_reducible first | exact HB.out | apply below_alloc | apply pw_below_drewN | apply below_drew1) | exact HB.out)))); have n3_ := Aside0.mk (below_step (by repeat (first | (with_reducible first | exact HB.out | apply below_alloc | apply pw_below_drewN | apply below_drew1) | exact HB.out)) hb); clear HO_15; clear HO117; clear HB; have HO_15 := n0_; have HO117 := n1_; have HO121 := n2_; have HB := n3_; clear n0_ n1_ n2_ n3_; (try clear hb); (try clear hb2); (try clear hk); (try clear hi); (try clear ho0)) | (go_at_call 10; (with_reducible refine (impl_CountCovers.calls kj13 _ _ l0 t101 t122 t123 _ ?side1 ?side2 A33.out).mono ?_); (case side1 => repeat (first | exact (Kd.C_below HR0.out HB.out) | (with_reducible refine Kd.C_alloc ?_ _) | (with_reducible refine Kd.C_drewN ?_ _) | (with_reducible refine Kd.C_drew ?_))); (case side2 => exact HC0.out); rintro e w38 ⟨rfl, hb⟩; have n0_ := Aside0.mk (Kd.R_below (by (with_reducible repeat (first | apply Kd.R_alloc | apply Kd.R_drewN | apply Kd.R_drew)); exact HO_15.out) hb); have n1_ := Aside0.mk (Kd.R_below (by (with_reducible repeat (first | apply Kd.R_alloc | apply Kd.R_drewN | apply Kd.R_drew)); exact HO117.out) hb); have n2_ := Aside0.mk (Kd.R_below (by (with_reducible repeat (first | apply Kd.R_alloc | apply Kd.R_drewN | apply Kd.R_drew)); exact HO121.out) hb); have n3_ := Aside0.mk (below_step (by repeat (first | (with_reducible first | exact HB.out | apply below_alloc | apply pw_below_drewN | apply below_drew1) | exact HB.out)) hb); clear HO_15; clear HO117; clear HO121; clear HB; have HO_15 := n0_; have HO117 := n1_; have HO121 := n2_; have HB := n3_; clear n0_ n1_ n2_ n3_; (try clear hb); (try clear hb2); (try clear hk); (try clear hi); obtain ⟨Ao39, co39, eo39⟩ := Kd.R_slice HO117.out; subst eo39) | (go_at_call 23; (with_reducible refine (impl_IsCover.calls kj13 _ _ t114 t101 t124 t125 _ ?side1 ?side2 A34.out).mono ?_); (case side1 => repeat (first | exact (Kd.R_reads' HO117.out).2.2 | (with_reducible refine Kd.C_alloc ?_ _) | (with_reducible refine Kd.C_drewN ?_ _) | (with_reducible refine Kd.C_drew ?_))); (case side2 => exact (Kd.R_reads' HO117.out).2.1); rintro e w40 ⟨rfl, hb⟩; have n0_ := Aside0.mk (Kd.R_below (by (with_reducible repeat (first | apply Kd.R_alloc | apply Kd.R_drewN | apply Kd.R_drew)); exact HO_15.out) hb); have n1_ := Aside0.mk (Kd.R_below (by (with_reducible repeat (first | apply Kd.R_alloc | apply Kd.R_drewN | apply Kd.R_drew)); exact HO117.out) hb); have n2_ := Aside0.mk (Kd.R_below (by (with_reducible repeat (first | apply Kd.R_alloc | apply Kd.R_drewN | apply Kd.R_drew)); exact HO121.out) hb); have n3_ := Aside0.mk (below_step (by repeat (first | (with_reducible first | exact HB.out | apply below_alloc | apply pw_below_drewN | apply below_drew1) | exact HB.out)) hb); clear HO_15; clear HO117; clear HO121; clear HB; have HO_15 := n0_; have HO117 := n1_; have HO121 := n2_; have HB := n3_; clear n0_ n1_ n2_ n3_; (try clear hb); (try clear hb2); (try clear hk); (try clear hi))))
                      (try simp only [Act.put, List.setIfInBounds_toArray, List.set_cons_zero, List.set_cons_succ])
                      go_cut [163] from 107 to 131 (fun v163 wc => ∃ (kq : Nat) (x163_34 : Bool), v163 = .bool x163_34 ∧ Aside0 (laws_FnCoversFoundOfAll.j2 kq l0 l1 a2 l3 a4 t101 t105 t114 x163_34 = some true) ∧ Aside0 (kq ≤ kj13) ∧ Aside0 (Kd.R kRule 41 wc w.heap.size (fun k_ => some k_ ≠ ((.slice Ao39 t114.length co39) : Value).ownBlock) v107 t105) ∧ Aside0 (Kd.R kRule 41 wc w.heap.size (fun k_ => some k_ ≠ (v107 : Value).ownBlock) (.slice Ao39 t114.length co39) t114) ∧ Aside0 (Below w.heap.size w wc))
                      case first =>
                        have H := HC35.out
                        clear HC35
                        by_cases c41 : t115 = true
                        · subst c41
                          have H1 : (if t101 < 40 then (if t119 = true then (laws_FnCoversFoundOfAll.j2 kj13 l0 l1 a2 l3 a4 t101 t105 t114 true) else (if t123 = true then (if t122 < 1 then (laws_FnCoversFoundOfAll.j2 kj13 l0 l1 a2 l3 a4 t101 t105 t114 true) else (if t125 = true then (if t124 = true then (laws_FnCoversFoundOfAll.j2 kj13 l0 l1 a2 l3 a4 t101 t105 t114 ((t105.length : Int) != (l0.length : Int))) else (laws_FnCoversFoundOfAll.j2 kj13 l0 l1 a2 l3 a4 t101 t105 t114 true)) else (laws_FnCoversFoundOfAll.j2 kj13 l0 l1 a2 l3 a4 t101 t105 t114 true))) else (laws_FnCoversFoundOfAll.j2 kj13 l0 l1 a2 l3 a4 t101 t105 t114 true))) else (if t123 = true then (if t122 < 1 then (laws_FnCoversFoundOfAll.j2 kj13 l0 l1 a2 l3 a4 t101 t105 t114 true) else (if t125 = true then (if t124 = true then (laws_FnCoversFoundOfAll.j2 kj13 l0 l1 a2 l3 a4 t101 t105 t114 ((t105.length : Int) != (l0.length : Int))) else (laws_FnCoversFoundOfAll.j2 kj13 l0 l1 a2 l3 a4 t101 t105 t114 true)) else (laws_FnCoversFoundOfAll.j2 kj13 l0 l1 a2 l3 a4 t101 t105 t114 true))) else (laws_FnCoversFoundOfAll.j2 kj13 l0 l1 a2 l3 a4 t101 t105 t114 true))) = some true := by rw [if_pos rfl] at H; exact H
                          clear H
                          have H := H1
                          clear H1
                          by_cases c42 : t101 < 40
                          · rw [if_pos c42] at H
                            have c42b0 : decide (t101 < 40) = true := decide_eq_true c42
                            clear c42
                            (first | rw [c42b0] | rw [c42b1] | (simp only [i64_w, i32_w]; rw [c42b0]) | skip)
                            by_cases c43 : t119 = true
                            · subst c43
                              have H1 : (laws_FnCoversFoundOfAll.j2 kj13 l0 l1 a2 l3 a4 t101 t105 t114 true) = some true := by rw [if_pos rfl] at H; exact H
                              clear H
                              have H := H1
                              clear H1
                              have H' := Aside0.mk H
                              clear H
                              go_wp2
                              repeat (go_quiet (fail); try go_wp2)
                              go_meet
                              case rel => exact ⟨_, (true), (by first | rfl | (simp; done) | (simp [*]; done)), H', ⟨by have := HJ5.out; have := HJ13.out; first | omega | exact Nat.le_refl _⟩, ⟨by (with_reducible repeat (first | apply Kd.R_alloc | apply Kd.R_drewN | apply Kd.R_drew)); exact Kd.R_mono HO_15.out (fun _ hk => hk.1.2)⟩, ⟨by (with_reducible repeat (first | apply Kd.R_alloc | apply Kd.R_drewN | apply Kd.R_drew)); exact Kd.R_mono HO117.out (fun _ hk => hk.1.2)⟩, ⟨by repeat (first | (with_reducible first | exact HB.out | apply below_alloc | apply pw_below_drewN | apply below_drew1) | exact HB.out)⟩⟩
                            · replace c43 := Bool.eq_false_iff.mpr c43
                              subst c43
                              have H1 : (if t123 = true then (if t122 < 1 then (laws_FnCoversFoundOfAll.j2 kj13 l0 l1 a2 l3 a4 t101 t105 t114 true) else (if t125 = true then (if t124 = true then (laws_FnCoversFoundOfAll.j2 kj13 l0 l1 a2 l3 a4 t101 t105 t114 ((t105.length : Int) != (l0.length : Int))) else (laws_FnCoversFoundOfAll.j2 kj13 l0 l1 a2 l3 a4 t101 t105 t114 true)) else (laws_FnCoversFoundOfAll.j2 kj13 l0 l1 a2 l3 a4 t101 t105 t114 true))) else (laws_FnCoversFoundOfAll.j2 kj13 l0 l1 a2 l3 a4 t101 t105 t114 true)) = some true := by rw [if_neg (show ¬ (false = true) by decide)] at H; exact H
                              clear H
                              have H := H1
                              clear H1
                              by_cases c44 : t123 = true
                              · subst c44
                                have H1 : (if t122 < 1 then (laws_FnCoversFoundOfAll.j2 kj13 l0 l1 a2 l3 a4 t101 t105 t114 true) else (if t125 = true then (if t124 = true then (laws_FnCoversFoundOfAll.j2 kj13 l0 l1 a2 l3 a4 t101 t105 t114 ((t105.length : Int) != (l0.length : Int))) else (laws_FnCoversFoundOfAll.j2 kj13 l0 l1 a2 l3 a4 t101 t105 t114 true)) else (laws_FnCoversFoundOfAll.j2 kj13 l0 l1 a2 l3 a4 t101 t105 t114 true))) = some true := by rw [if_pos rfl] at H; exact H
                                clear H
                                have H := H1
                                clear H1
                                by_cases c45 : t122 < 1
                                · rw [if_pos c45] at H
                                  have c45b0 : decide (t122 < 1) = true := decide_eq_true c45
                                  clear c45
                                  have H' := Aside0.mk H
                                  clear H
                                  go_wp2
                                  repeat (go_quiet (fail); try go_wp2)
                                  go_meet
                                  case rel => exact ⟨_, (true), (by first | rfl | (simp; done) | (simp [*]; done)), H', ⟨by have := HJ5.out; have := HJ13.out; first | omega | exact Nat.le_refl _⟩, ⟨by (with_reducible repeat (first | apply Kd.R_alloc | apply Kd.R_drewN | apply Kd.R_drew)); exact Kd.R_mono HO_15.out (fun _ hk => hk.1.2)⟩, ⟨by (with_reducible repeat (first | apply Kd.R_alloc | apply Kd.R_drewN | apply Kd.R_drew)); exact Kd.R_mono HO117.out (fun _ hk => hk.1.2)⟩, ⟨by repeat (first | (with_reducible first | exact HB.out | apply below_alloc | apply pw_below_drewN | apply below_drew1) | exact HB.out)⟩⟩
                                · rw [if_neg c45] at H
                                  have c45b0 : decide (t122 < 1) = false := decide_eq_false c45
                                  clear c45
                                  by_cases c46 : t125 = true
                                  · subst c46
                                    have H1 : (if t124 = true then (laws_FnCoversFoundOfAll.j2 kj13 l0 l1 a2 l3 a4 t101 t105 t114 ((t105.length : Int) != (l0.length : Int))) else (laws_FnCoversFoundOfAll.j2 kj13 l0 l1 a2 l3 a4 t101 t105 t114 true)) = some true := by rw [if_pos rfl] at H; exact H
                                    clear H
                                    have H := H1
                                    clear H1
                                    by_cases c47 : t124 = true
                                    · subst c47
                                      have H1 : (laws_FnCoversFoundOfAll.j2 kj13 l0 l1 a2 l3 a4 t101 t105 t114 ((t105.length : Int) != (l0.length : Int))) = some true := by rw [if_pos rfl] at H; exact H
                                      clear H
                                      have H := H1
                                      clear H1
                                      have H' := Aside0.mk H
                                      clear H
                                      obtain ⟨Ao48, co48, eo48⟩ := Kd.R_slice HO_15.out
                                      subst eo48
                                      go_wp2
                                      repeat (go_quiet (fail); try go_wp2)
                                      go_meet
                                      case rel => exact ⟨_, (((t105.length : Int) != (l0.length : Int))), (by first | rfl | (simp; done) | (simp [*]; done)), H', ⟨by have := HJ5.out; have := HJ13.out; first | omega | exact Nat.le_refl _⟩, ⟨by (with_reducible repeat (first | apply Kd.R_alloc | apply Kd.R_drewN | apply Kd.R_drew)); exact Kd.R_mono HO_15.out (fun _ hk => hk.1.2)⟩, ⟨by (with_reducible repeat (first | apply Kd.R_alloc | apply Kd.R_drewN | apply Kd.R_drew)); exact Kd.R_mono HO117.out (fun _ hk => hk.1.2)⟩, ⟨by repeat (first | (with_reducible first | exact HB.out | apply below_alloc | apply pw_below_drewN | apply below_drew1) | exact HB.out)⟩⟩
                                    · replace c47 := Bool.eq_false_iff.mpr c47
                                      subst c47
                                      have H1 : (laws_FnCoversFoundOfAll.j2 kj13 l0 l1 a2 l3 a4 t101 t105 t114 true) = some true := by rw [if_neg (show ¬ (false = true) by decide)] at H; exact H
                                      clear H
                                      have H := H1
                                      clear H1
                                      have H' := Aside0.mk H
                                      clear H
                                      go_wp2
                                      repeat (go_quiet (fail); try go_wp2)
                                      go_meet
                                      case rel => exact ⟨_, (true), (by first | rfl | (simp; done) | (simp [*]; done)), H', ⟨by have := HJ5.out; have := HJ13.out; first | omega | exact Nat.le_refl _⟩, ⟨by (with_reducible repeat (first | apply Kd.R_alloc | apply Kd.R_drewN | apply Kd.R_drew)); exact Kd.R_mono HO_15.out (fun _ hk => hk.1.2)⟩, ⟨by (with_reducible repeat (first | apply Kd.R_alloc | apply Kd.R_drewN | apply Kd.R_drew)); exact Kd.R_mono HO117.out (fun _ hk => hk.1.2)⟩, ⟨by repeat (first | (with_reducible first | exact HB.out | apply below_alloc | apply pw_below_drewN | apply below_drew1) | exact HB.out)⟩⟩
                                  · replace c46 := Bool.eq_false_iff.mpr c46
                                    subst c46
                                    have H1 : (laws_FnCoversFoundOfAll.j2 kj13 l0 l1 a2 l3 a4 t101 t105 t114 true) = some true := by rw [if_neg (show ¬ (false = true) by decide)] at H; exact H
                                    clear H
                                    have H := H1
                                    clear H1
                                    have H' := Aside0.mk H
                                    clear H
                                    go_wp2
                                    repeat (go_quiet (fail); try go_wp2)
                                    go_meet
                                    case rel => exact ⟨_, (true), (by first | rfl | (simp; done) | (simp [*]; done)), H', ⟨by have := HJ5.out; have := HJ13.out; first | omega | exact Nat.le_refl _⟩, ⟨by (with_reducible repeat (first | apply Kd.R_alloc | apply Kd.R_drewN | apply Kd.R_drew)); exact Kd.R_mono HO_15.out (fun _ hk => hk.1.2)⟩, ⟨by (with_reducible repeat (first | apply Kd.R_alloc | apply Kd.R_drewN | apply Kd.R_drew)); exact Kd.R_mono HO117.out (fun _ hk => hk.1.2)⟩, ⟨by repeat (first | (with_reducible first | exact HB.out | apply below_alloc | apply pw_below_drewN | apply below_drew1) | exact HB.out)⟩⟩
                              · replace c44 := Bool.eq_false_iff.mpr c44
                                subst c44
                                have H1 : (laws_FnCoversFoundOfAll.j2 kj13 l0 l1 a2 l3 a4 t101 t105 t114 true) = some true := by rw [if_neg (show ¬ (false = true) by decide)] at H; exact H
                                clear H
                                have H := H1
                                clear H1
                                have H' := Aside0.mk H
                                clear H
                                go_wp2
                                repeat (go_quiet (fail); try go_wp2)
                                go_meet
                                case rel => exact ⟨_, (true), (by first | rfl | (simp; done) | (simp [*]; done)), H', ⟨by have := HJ5.out; have := HJ13.out; first | omega | exact Nat.le_refl _⟩, ⟨by (with_reducible repeat (first | apply Kd.R_alloc | apply Kd.R_drewN | apply Kd.R_drew)); exact Kd.R_mono HO_15.out (fun _ hk => hk.1.2)⟩, ⟨by (with_reducible repeat (first | apply Kd.R_alloc | apply Kd.R_drewN | apply Kd.R_drew)); exact Kd.R_mono HO117.out (fun _ hk => hk.1.2)⟩, ⟨by repeat (first | (with_reducible first | exact HB.out | apply below_alloc | apply pw_below_drewN | apply below_drew1) | exact HB.out)⟩⟩
                          · rw [if_neg c42] at H
                            have c42b0 : decide (t101 < 40) = false := decide_eq_false c42
                            clear c42
                            (first | rw [c42b0] | rw [c42b1] | (simp only [i64_w, i32_w]; rw [c42b0]) | skip)
                            by_cases c49 : t123 = true
                            · subst c49
                              have H1 : (if t122 < 1 then (laws_FnCoversFoundOfAll.j2 kj13 l0 l1 a2 l3 a4 t101 t105 t114 true) else (if t125 = true then (if t124 = true then (laws_FnCoversFoundOfAll.j2 kj13 l0 l1 a2 l3 a4 t101 t105 t114 ((t105.length : Int) != (l0.length : Int))) else (laws_FnCoversFoundOfAll.j2 kj13 l0 l1 a2 l3 a4 t101 t105 t114 true)) else (laws_FnCoversFoundOfAll.j2 kj13 l0 l1 a2 l3 a4 t101 t105 t114 true))) = some true := by rw [if_pos rfl] at H; exact H
                              clear H
                              have H := H1
                              clear H1
                              by_cases c50 : t122 < 1
                              · rw [if_pos c50] at H
                                have c50b0 : decide (t122 < 1) = true := decide_eq_true c50
                                clear c50
                                have H' := Aside0.mk H
                                clear H
                                go_wp2
                                repeat (go_quiet (fail); try go_wp2)
                                go_meet
                                case rel => exact ⟨_, (true), (by first | rfl | (simp; done) | (simp [*]; done)), H', ⟨by have := HJ5.out; have := HJ13.out; first | omega | exact Nat.le_refl _⟩, ⟨by (with_reducible repeat (first | apply Kd.R_alloc | apply Kd.R_drewN | apply Kd.R_drew)); exact Kd.R_mono HO_15.out (fun _ hk => hk.1.2)⟩, ⟨by (with_reducible repeat (first | apply Kd.R_alloc | apply Kd.R_drewN | apply Kd.R_drew)); exact Kd.R_mono HO117.out (fun _ hk => hk.1.2)⟩, ⟨by repeat (first | (with_reducible first | exact HB.out | apply below_alloc | apply pw_below_drewN | apply below_drew1) | exact HB.out)⟩⟩
                              · rw [if_neg c50] at H
                                have c50b0 : decide (t122 < 1) = false := decide_eq_false c50
                                clear c50
                                by_cases c51 : t125 = true
                                · subst c51
                                  have H1 : (if t124 = true then (laws_FnCoversFoundOfAll.j2 kj13 l0 l1 a2 l3 a4 t101 t105 t114 ((t105.length : Int) != (l0.length : Int))) else (laws_FnCoversFoundOfAll.j2 kj13 l0 l1 a2 l3 a4 t101 t105 t114 true)) = some true := by rw [if_pos rfl] at H; exact H
                                  clear H
                                  have H := H1
                                  clear H1
                                  by_cases c52 : t124 = true
                                  · subst c52
                                    have H1 : (laws_FnCoversFoundOfAll.j2 kj13 l0 l1 a2 l3 a4 t101 t105 t114 ((t105.length : Int) != (l0.length : Int))) = some true := by rw [if_pos rfl] at H; exact H
                                    clear H
                                    have H := H1
                                    clear H1
                                    have H' := Aside0.mk H
                                    clear H
                                    obtain ⟨Ao53, co53, eo53⟩ := Kd.R_slice HO_15.out
                                    subst eo53
                                    go_wp2
                                    repeat (go_quiet (fail); try go_wp2)
                                    go_meet
                                    case rel => exact ⟨_, (((t105.length : Int) != (l0.length : Int))), (by first | rfl | (simp; done) | (simp [*]; done)), H', ⟨by have := HJ5.out; have := HJ13.out; first | omega | exact Nat.le_refl _⟩, ⟨by (with_reducible repeat (first | apply Kd.R_alloc | apply Kd.R_drewN | apply Kd.R_drew)); exact Kd.R_mono HO_15.out (fun _ hk => hk.1.2)⟩, ⟨by (with_reducible repeat (first | apply Kd.R_alloc | apply Kd.R_drewN | apply Kd.R_drew)); exact Kd.R_mono HO117.out (fun _ hk => hk.1.2)⟩, ⟨by repeat (first | (with_reducible first | exact HB.out | apply below_alloc | apply pw_below_drewN | apply below_drew1) | exact HB.out)⟩⟩
                                  · replace c52 := Bool.eq_false_iff.mpr c52
                                    subst c52
                                    have H1 : (laws_FnCoversFoundOfAll.j2 kj13 l0 l1 a2 l3 a4 t101 t105 t114 true) = some true := by rw [if_neg (show ¬ (false = true) by decide)] at H; exact H
                                    clear H
                                    have H := H1
                                    clear H1
                                    have H' := Aside0.mk H
                                    clear H
                                    go_wp2
                                    repeat (go_quiet (fail); try go_wp2)
                                    go_meet
                                    case rel => exact ⟨_, (true), (by first | rfl | (simp; done) | (simp [*]; done)), H', ⟨by have := HJ5.out; have := HJ13.out; first | omega | exact Nat.le_refl _⟩, ⟨by (with_reducible repeat (first | apply Kd.R_alloc | apply Kd.R_drewN | apply Kd.R_drew)); exact Kd.R_mono HO_15.out (fun _ hk => hk.1.2)⟩, ⟨by (with_reducible repeat (first | apply Kd.R_alloc | apply Kd.R_drewN | apply Kd.R_drew)); exact Kd.R_mono HO117.out (fun _ hk => hk.1.2)⟩, ⟨by repeat (first | (with_reducible first | exact HB.out | apply below_alloc | apply pw_below_drewN | apply below_drew1) | exact HB.out)⟩⟩
                                · replace c51 := Bool.eq_false_iff.mpr c51
                                  subst c51
                                  have H1 : (laws_FnCoversFoundOfAll.j2 kj13 l0 l1 a2 l3 a4 t101 t105 t114 true) = some true := by rw [if_neg (show ¬ (false = true) by decide)] at H; exact H
                                  clear H
                                  have H := H1
                                  clear H1
                                  have H' := Aside0.mk H
                                  clear H
                                  go_wp2
                                  repeat (go_quiet (fail); try go_wp2)
                                  go_meet
                                  case rel => exact ⟨_, (true), (by first | rfl | (simp; done) | (simp [*]; done)), H', ⟨by have := HJ5.out; have := HJ13.out; first | omega | exact Nat.le_refl _⟩, ⟨by (with_reducible repeat (first | apply Kd.R_alloc | apply Kd.R_drewN | apply Kd.R_drew)); exact Kd.R_mono HO_15.out (fun _ hk => hk.1.2)⟩, ⟨by (with_reducible repeat (first | apply Kd.R_alloc | apply Kd.R_drewN | apply Kd.R_drew)); exact Kd.R_mono HO117.out (fun _ hk => hk.1.2)⟩, ⟨by repeat (first | (with_reducible first | exact HB.out | apply below_alloc | apply pw_below_drewN | apply below_drew1) | exact HB.out)⟩⟩
                            · replace c49 := Bool.eq_false_iff.mpr c49
                              subst c49
                              have H1 : (laws_FnCoversFoundOfAll.j2 kj13 l0 l1 a2 l3 a4 t101 t105 t114 true) = some true := by rw [if_neg (show ¬ (false = true) by decide)] at H; exact H
                              clear H
                              have H := H1
                              clear H1
                              have H' := Aside0.mk H
                              clear H
                              go_wp2
                              repeat (go_quiet (fail); try go_wp2)
                              go_meet
                              case rel => exact ⟨_, (true), (by first | rfl | (simp; done) | (simp [*]; done)), H', ⟨by have := HJ5.out; have := HJ13.out; first | omega | exact Nat.le_refl _⟩, ⟨by (with_reducible repeat (first | apply Kd.R_alloc | apply Kd.R_drewN | apply Kd.R_drew)); exact Kd.R_mono HO_15.out (fun _ hk => hk.1.2)⟩, ⟨by (with_reducible repeat (first | apply Kd.R_alloc | apply Kd.R_drewN | apply Kd.R_drew)); exact Kd.R_mono HO117.out (fun _ hk => hk.1.2)⟩, ⟨by repeat (first | (with_reducible first | exact HB.out | apply below_alloc | apply pw_below_drewN | apply below_drew1) | exact HB.out)⟩⟩
                        · replace c41 := Bool.eq_false_iff.mpr c41
                          subst c41
                          have H1 : (laws_FnCoversFoundOfAll.j2 kj13 l0 l1 a2 l3 a4 t101 t105 t114 true) = some true := by rw [if_neg (show ¬ (false = true) by decide)] at H; exact H
                          clear H
                          have H := H1
                          clear H1
                          have H' := Aside0.mk H
                          clear H
                          go_wp2
                          repeat (go_quiet (fail); try go_wp2)
                          go_meet
                          case rel => exact ⟨_, (true), (by first | rfl | (simp; done) | (simp [*]; done)), H', ⟨by have := HJ5.out; have := HJ13.out; first | omega | exact Nat.le_refl _⟩, ⟨by (with_reducible repeat (first | apply Kd.R_alloc | apply Kd.R_drewN | apply Kd.R_drew)); exact Kd.R_mono HO_15.out (fun _ hk => hk.1.2)⟩, ⟨by (with_reducible repeat (first | apply Kd.R_alloc | apply Kd.R_drewN | apply Kd.R_drew)); exact Kd.R_mono HO117.out (fun _ hk => hk.1.2)⟩, ⟨by repeat (first | (with_reducible first | exact HB.out | apply below_alloc | apply pw_below_drewN | apply below_drew1) | exact HB.out)⟩⟩
                      case rest =>
                        clear HC35
                        try clear c1
                        try clear c2
                        try clear p2
                        try clear c3
                        try clear c4
                        try clear c5
                        try clear c6
                        try clear p6
                        try clear c7
                        try clear c7b0
                        try clear c7b1
                        try clear c8
                        try clear c8b0
                        try clear c8b1
                        try clear c9
                        try clear c19
                        try clear c19b0
                        try clear c19b1
                        try clear c19b2
                        try clear c20
                        try clear c20b0
                        try clear c20b1
                        try clear c21
                        try clear c21b0
                        try clear c21b1
                        try clear c21b2
                        try clear c23
                        try clear c28
                        try clear c30
                        try clear c41
                        try clear c42
                        try clear c42b0
                        try clear c42b1
                        try clear c43
                        try clear c44
                        try clear c45
                        try clear c45b0
                        try clear c46
                        try clear c47
                        try clear c49
                        try clear c50
                        try clear c50b0
                        try clear c51
                        try clear c52
                        try clear p2
                        obtain ⟨kq, x163_34, rfl, HA, HJ34, HO_15, HO_19, HB⟩ := hcut
                        cases kq with
                        | zero => exact absurd HA.out (by simp [laws_FnCoversFoundOfAll.j2])
                        | succ kj34 =>
                          have H := HA.out
                          clear HA
                          simp only [laws_FnCoversFoundOfAll.j2] at H
                          by_cases c54 : x163_34 = true
                          · subst c54
                            have H1 : (some false) = some true := by rw [if_pos rfl] at H; exact H
                            clear H
                            have H := H1
                            clear H1
                            exact absurd H (by simp)
                          · replace c54 := Bool.eq_false_iff.mpr c54
                            subst c54
                            have H1 : (if (l0.length : Int) > 0 then ((impl_LongestRunOut.f kj34 t105).bind fun bt126 => (if bt126.2 = true then (if bt126.1 = t101 then (laws_FnCoversFoundOfAll.j3 kj34 l0 l1 a2 l3 a4 t105 t114) else (some false)) else (some false))) else (if t101 = 0 then (laws_FnCoversFoundOfAll.j3 kj34 l0 l1 a2 l3 a4 t105 t114) else (some false))) = some true := by rw [if_neg (show ¬ (false = true) by decide)] at H; exact H
                            clear H
                            have H := H1
                            clear H1
                            have HC55 := Aside0.mk H
                            clear H
                            go_upto_if 166 with (fail)
                            repeat (go_quiet (fail); go_upto_if 166 with (fail))
                            go_cut [] from 164 to 166 (fun wc => ∃ (kq : Nat), Aside0 (laws_FnCoversFoundOfAll.j3 kq l0 l1 a2 l3 a4 t105 t114 = some true) ∧ Aside0 (kq ≤ kj34) ∧ Aside0 (Kd.R kRule 41 wc w.heap.size (fun k_ => some k_ ≠ ((.slice Ao39 t114.length co39) : Value).ownBlock) v107 t105) ∧ Aside0 (Kd.R kRule 41 wc w.heap.size (fun k_ => some k_ ≠ (v107 : Value).ownBlock) (.slice Ao39 t114.length co39) t114) ∧ Aside0 (Below w.heap.size w wc))
                            case first =>
                              have H := HC55.out
                              clear HC55
                              by_cases c56 : (l0.length : Int) > 0
                              · rw [if_pos c56] at H
                                have c56b0 : decide (0 < (l0.length : Int)) = true := decide_eq_true c56
                                have c56b1 : decide (0 < l0.length) = true := decide_eq_true (by omega)
                                clear c56
                                (first | rw [c56b0] | rw [c56b1] | (simp only [i64_w, i32_w]; rw [c56b0]) | skip)
                                replace H := Option.bind_eq_some_iff.mp H
                                obtain ⟨⟨t126, t127⟩, A570, H⟩ := H
                                replace H : (if t127 = true then (if t126 = t101 then (laws_FnCoversFoundOfAll.j3 kj34 l0 l1 a2 l3 a4 t105 t114) else (some false)) else (some false)) = some true := H
                                have A57 := Aside0.mk A570
                                clear A570
                                by_cases c58 : t127 = true
                                · subst c58
                                  have H1 : (if t126 = t101 then (laws_FnCoversFoundOfAll.j3 kj34 l0 l1 a2 l3 a4 t105 t114) else (some false)) = some true := by rw [if_pos rfl] at H; exact H
                                  clear H
                                  have H := H1
                                  clear H1
                                  by_cases c59 : t126 = t101
                                  · rw [if_pos c59] at H
                                    have c59b0 : (t126 == t101) = true := beq_iff_eq.mpr c59
                                    have c59b1 : (t126 != t101) = false := bne_eq_false_iff_eq.mpr c59
                                    clear c59
                                    have H' := Aside0.mk H
                                    clear H
                                    obtain ⟨Ao60, co60, eo60⟩ := Kd.R_slice HO_15.out
                                    subst eo60
                                    go_wp2_with (first | (go_at_call 24; (with_reducible refine (impl_LongestRunOut.calls kj34 _ _ t105 t126 true _ ?side1 ?side2 A57.out).mono ?_); (case side1 => repeat (first | exact (Kd.R_reads' HO_15.out).2.2 | (with_reducible refine Kd.C_alloc ?_ _) | (with_reducible refine Kd.C_drewN ?_ _) | (with_reducible refine Kd.C_drew ?_))); (case side2 => exact (Kd.R_reads' HO_15.out).2.1); rintro e w61 ⟨rfl, hb⟩; have n0_ := Aside0.mk (Kd.R_below (by (with_reducible repeat (first | apply Kd.R_alloc | apply Kd.R_drewN | apply Kd.R_drew)); exact HO_15.out) hb); have n1_ := Aside0.mk (Kd.R_below (by (with_reducible repeat (first | apply Kd.R_alloc | apply Kd.R_drewN | apply Kd.R_drew)); exact HO_19.out) hb); have n2_ := Aside0.mk (below_step (by repeat (first | (with_reducible first | exact HB.out | apply below_alloc | apply pw_below_drewN | apply below_drew1) | exact HB.out)) hb); clear HO_15; clear HO_19; clear HB; have HO_15 := n0_; have HO_19 := n1_; have HB := n2_; clear n0_ n1_ n2_; (try clear hb); (try clear hb2); (try clear hk); (try clear hi)))
                                    repeat (go_quiet (first | (go_at_call 24; (with_reducible refine (impl_LongestRunOut.calls kj34 _ _ t105 t126 true _ ?side1 ?side2 A57.out).mono ?_); (case side1 => repeat (first | exact (Kd.R_reads' HO_15.out).2.2 | (with_reducible refine Kd.C_alloc ?_ _) | (with_reducible refine Kd.C_drewN ?_ _) | (with_reducible refine Kd.C_drew ?_))); (case side2 => exact (Kd.R_reads' HO_15.out).2.1); rintro e w61 ⟨rfl, hb⟩; have n0_ := Aside0.mk (Kd.R_below (by (with_reducible repeat (first | apply Kd.R_alloc | apply Kd.R_drewN | apply Kd.R_drew)); exact HO_15.out) hb); have n1_ := Aside0.mk (Kd.R_below (by (with_reducible repeat (first | apply Kd.R_alloc | apply Kd.R_drewN | apply Kd.R_drew)); exact HO_19.out) hb); have n2_ := Aside0.mk (below_step (by repeat (first | (with_reducible first | exact HB.out | apply below_alloc | apply pw_below_drewN | apply below_drew1) | exact HB.out)) hb); clear HO_15; clear HO_19; clear HB; have HO_15 := n0_; have HO_19 := n1_; have HB := n2_; clear n0_ n1_ n2_; (try clear hb); (try clear hb2); (try clear hk); (try clear hi))); try go_wp2_with (first | (go_at_call 24; (with_reducible refine (impl_LongestRunOut.calls kj34 _ _ t105 t126 true _ ?side1 ?side2 A57.out).mono ?_); (case side1 => repeat (first | exact (Kd.R_reads' HO_15.out).2.2 | (with_reducible refine Kd.C_alloc ?_ _) | (with_reducible refine Kd.C_drewN ?_ _) | (with_reducible refine Kd.C_drew ?_))); (case side2 => exact (Kd.R_reads' HO_15.out).2.1); rintro e w61 ⟨rfl, hb⟩; have n0_ := Aside0.mk (Kd.R_below (by (with_reducible repeat (first | apply Kd.R_alloc | apply Kd.R_drewN | apply Kd.R_drew)); exact HO_15.out) hb); have n1_ := Aside0.mk (Kd.R_below (by (with_reducible repeat (first | apply Kd.R_alloc | apply Kd.R_drewN | apply Kd.R_drew)); exact HO_19.out) hb); have n2_ := Aside0.mk (below_step (by repeat (first | (with_reducible first | exact HB.out | apply below_alloc | apply pw_below_drewN | apply below_drew1) | exact HB.out)) hb); clear HO_15; clear HO_19; clear HB; have HO_15 := n0_; have HO_19 := n1_; have HB := n2_; clear n0_ n1_ n2_; (try clear hb); (try clear hb2); (try clear hk); (try clear hi))))
                                    go_meet
                                    case rel => exact ⟨_, H', ⟨by have := HJ5.out; have := HJ13.out; have := HJ34.out; first | omega | exact Nat.le_refl _⟩, ⟨by (with_reducible repeat (first | apply Kd.R_alloc | apply Kd.R_drewN | apply Kd.R_drew)); exact HO_15.out⟩, ⟨by (with_reducible repeat (first | apply Kd.R_alloc | apply Kd.R_drewN | apply Kd.R_drew)); exact HO_19.out⟩, ⟨by repeat (first | (with_reducible first | exact HB.out | apply below_alloc | apply pw_below_drewN | apply below_drew1) | exact HB.out)⟩⟩
                                  · rw [if_neg c59] at H
                                    have c59b0 : (t126 == t101) = false := beq_eq_false_iff_ne.mpr c59
                                    have c59b1 : (t126 != t101) = true := bne_iff_ne.mpr c59
                                    exact absurd H (by simp)
                                · replace c58 := Bool.eq_false_iff.mpr c58
                                  subst c58
                                  have H1 : (some false) = some true := by rw [if_neg (show ¬ (false = true) by decide)] at H; exact H
                                  clear H
                                  have H := H1
                                  clear H1
                                  exact absurd H (by simp)
                              · rw [if_neg c56] at H
                                have c56b0 : decide (0 < (l0.length : Int)) = false := decide_eq_false c56
                                have c56b1 : decide (0 < l0.length) = false := decide_eq_false (by omega)
                                clear c56
                                (first | rw [c56b0] | rw [c56b1] | (simp only [i64_w, i32_w]; rw [c56b0]) | skip)
                                by_cases c62 : t101 = 0
                                · rw [if_pos c62] at H
                                  have c62b0 : (t101 == 0) = true := beq_iff_eq.mpr c62
                                  have c62b1 : (t101 != 0) = false := bne_eq_false_iff_eq.mpr c62
                                  clear c62
                                  have H' := Aside0.mk H
                                  clear H
                                  go_wp2
                                  repeat (go_quiet (fail); try go_wp2)
                                  go_meet
                                  case rel => exact ⟨_, H', ⟨by have := HJ5.out; have := HJ13.out; have := HJ34.out; first | omega | exact Nat.le_refl _⟩, ⟨by (with_reducible repeat (first | apply Kd.R_alloc | apply Kd.R_drewN | apply Kd.R_drew)); exact HO_15.out⟩, ⟨by (with_reducible repeat (first | apply Kd.R_alloc | apply Kd.R_drewN | apply Kd.R_drew)); exact HO_19.out⟩, ⟨by repeat (first | (with_reducible first | exact HB.out | apply below_alloc | apply pw_below_drewN | apply below_drew1) | exact HB.out)⟩⟩
                                · rw [if_neg c62] at H
                                  have c62b0 : (t101 == 0) = false := beq_eq_false_iff_ne.mpr c62
                                  have c62b1 : (t101 != 0) = true := bne_iff_ne.mpr c62
                                  exact absurd H (by simp)
                            case rest =>
                              as_aux_lemma =>
                                clear HC55
                                try clear c1
                                try clear c2
                                try clear p2
                                try clear c3
                                try clear c4
                                try clear c5
                                try clear c6
                                try clear p6
                                try clear c7
                                try clear c7b0
                                try clear c7b1
                                try clear c8
                                try clear c8b0
                                try clear c8b1
                                try clear c9
                                try clear c19
                                try clear c19b0
                                try clear c19b1
                                try clear c19b2
                                try clear c20
                                try clear c20b0
                                try clear c20b1
                                try clear c21
                                try clear c21b0
                                try clear c21b1
                                try clear c21b2
                                try clear c23
                                try clear c28
                                try clear c30
                                try clear c41
                                try clear c42
                                try clear c42b0
                                try clear c42b1
                                try clear c43
                                try clear c44
                                try clear c45
                                try clear c45b0
                                try clear c46
                                try clear c47
                                try clear c49
                                try clear c50
                                try clear c50b0
                                try clear c51
                                try clear c52
                                try clear c54
                                try clear c56
                                try clear c56b0
                                try clear c56b1
                                try clear c58
                                try clear c59
                                try clear c59b0
                                try clear c59b1
                                try clear c62
                                try clear c62b0
                                try clear c62b1
                                try clear p2
                                try clear p6
                                obtain ⟨kq, HA, HJ54, HO_15, HO_19, HB⟩ := hcut
                                cases kq with
                                | zero => exact absurd HA.out (by simp [laws_FnCoversFoundOfAll.j3])
                                | succ kj54 =>
                                  have H := HA.out
                                  clear HA
                                  simp only [laws_FnCoversFoundOfAll.j3] at H
                                  have H' := Aside0.mk H
                                  clear H
                                  go_wp2
                                  repeat (go_quiet (fail); try go_wp2)
                                  go_loopg [183] kj54 (fun kq v183 w' => ∃ (x183_5 : Int), v183 = .int .i64 x183_5 ∧ Aside0 (laws_FnCoversFoundOfAll.l0 kq l0 l1 a2 l3 a4 t105 t114 (t114.length : Int) x183_5 = some true) ∧ Aside0 (kq ≤ kj54) ∧ Aside0 (Kd.R kRule 41 w' w.heap.size (fun k_ => some k_ ≠ ((.slice Ao39 t114.length co39) : Value).ownBlock) v107 t105) ∧ Aside0 (Kd.R kRule 41 w' w.heap.size (fun k_ => some k_ ≠ (v107 : Value).ownBlock) (.slice Ao39 t114.length co39) t114) ∧ Aside0 (Below w.heap.size w w'))
                                  case atStart => exact ⟨(0), (by first | rfl | (simp; done) | (simp [*]; done)), H', ⟨Nat.le_refl _⟩, ⟨by (with_reducible repeat (first | apply Kd.R_alloc | apply Kd.R_drewN | apply Kd.R_drew)); exact HO_15.out⟩, ⟨by (with_reducible repeat (first | apply Kd.R_alloc | apply Kd.R_drewN | apply Kd.R_drew)); exact HO_19.out⟩, ⟨by repeat (first | (with_reducible first | exact HB.out | apply below_alloc | apply pw_below_drewN | apply below_drew1) | exact HB.out)⟩⟩
                                  case round =>
                                    clear H'
                                    try clear c1
                                    try clear c2
                                    try clear p2
                                    try clear c3
                                    try clear c4
                                    try clear c5
                                    try clear c6
                                    try clear p6
                                    try clear c7
                                    try clear c7b0
                                    try clear c7b1
                                    try clear c8
                                    try clear c8b0
                                    try clear c8b1
                                    try clear c9
                                    try clear c19
                                    try clear c19b0
                                    try clear c19b1
                                    try clear c19b2
                                    try clear c20
                                    try clear c20b0
                                    try clear c20b1
                                    try clear c21
                                    try clear c21b0
                                    try clear c21b1
                                    try clear c21b2
                                    try clear c23
                                    try clear c28
                                    try clear c30
                                    try clear c41
                                    try clear c42
                                    try clear c42b0
                                    try clear c42b1
                                    try clear c43
                                    try clear c44
                                    try clear c45
                                    try clear c45b0
                                    try clear c46
                                    try clear c47
                                    try clear c49
                                    try clear c50
                                    try clear c50b0
                                    try clear c51
                                    try clear c52
                                    try clear c54
                                    try clear c56
                                    try clear c56b0
                                    try clear c56b1
                                    try clear c58
                                    try clear c59
                                    try clear c59b0
                                    try clear c59b1
                                    try clear c62
                                    try clear c62b0
                                    try clear c62b1
                                    try clear p2
                                    try clear p6
                                    obtain ⟨x183_5, rfl, HA, HK5, HO_15, HO_181, HB⟩ := hrel
                                    cases gk with
                                    | zero => exact absurd HA.out (by simp [laws_FnCoversFoundOfAll.l0])
                                    | succ k5 =>
                                      have H := HA.out
                                      clear HA
                                      simp only [laws_FnCoversFoundOfAll.l0] at H
                                      by_cases c63 : x183_5 < (t114.length : Int)
                                      · rw [if_pos c63] at H
                                        have c63b0 : decide (x183_5 < (t114.length : Int)) = true := decide_eq_true c63
                                        clear c63
                                        by_cases c64 : 0 ≤ x183_5
                                        · rw [if_pos c64] at H
                                          have c64b0 : decide (0 ≤ x183_5) = true := decide_eq_true c64
                                          clear c64
                                          by_cases c65 : x183_5 < (t114.length : Int)
                                          · rw [if_pos c65] at H
                                            have c65b0 : decide (x183_5 < (t114.length : Int)) = true := decide_eq_true c65
                                            clear c65
                                            by_cases c66 : x183_5 < (l0.length : Int)
                                            · rw [if_pos c66] at H
                                              have c66b0 : decide (x183_5 < (l0.length : Int)) = true := decide_eq_true c66
                                              clear c66
                                              by_cases c67 : ((rd_Rule t114 x183_5).f0) = (rd l0 x183_5)
                                              · rw [if_pos c67] at H
                                                have c67b0 : (((rd_Rule t114 x183_5).f0) == (rd l0 x183_5)) = true := beq_iff_eq.mpr c67
                                                have c67b1 : (((rd_Rule t114 x183_5).f0) != (rd l0 x183_5)) = false := bne_eq_false_iff_eq.mpr c67
                                                clear c67
                                                by_cases c68 : x183_5 < (t105.length : Int)
                                                · rw [if_pos c68] at H
                                                  have c68b0 : decide (x183_5 < (t105.length : Int)) = true := decide_eq_true c68
                                                  clear c68
                                                  by_cases c69 : ((rd_Rule t105 x183_5).f0) = (rd l0 x183_5)
                                                  · rw [if_pos c69] at H
                                                    have c69b0 : (((rd_Rule t105 x183_5).f0) == (rd l0 x183_5)) = true := beq_iff_eq.mpr c69
                                                    have c69b1 : (((rd_Rule t105 x183_5).f0) != (rd l0 x183_5)) = false := bne_eq_false_iff_eq.mpr c69
                                                    clear c69
                                                    by_cases c70 : ((rd_Rule t105 x183_5).f1) = 0
                                                    · rw [if_pos c70] at H
                                                      have c70b0 : (((rd_Rule t105 x183_5).f1) == 0) = true := beq_iff_eq.mpr c70
                                                      have c70b1 : (((rd_Rule t105 x183_5).f1) != 0) = false := bne_eq_false_iff_eq.mpr c70
                                                      clear c70
                                                      have H' := Aside0.mk H
                                                      clear H
                                                      have p128 : 0 ≤ (x183_5 : Int) := of_decide_eq_true (by first | (with_reducible assumption) | assumption)
                                                      have q128 : x183_5 < (t114.length : Int) := of_decide_eq_true (by first | (with_reducible assumption) | assumption)
                                                      obtain ⟨ad128, e128, hx128_0, hx128_1⟩ := at_Rule (Kd.R_reads' HO_181.out).2.2 x183_5 p128 q128
                                                      cases e128
                                                      replace p128 := eq_true p128
                                                      replace q128 := eq_true q128
                                                      go_wp2_with (first | ((with_reducible refine gate_dst (N := 30) rfl ?_); (try (refine gate_guard (by rfl) ?_; dsimp only)); refine box_event ?hg (N := 30) ?hd (cs := #[.int .i64 0, .int .i64 0]) (t := 41) ?hr ?_; (case hd => rfl); (case hg => rfl); (case hr => first | (go_simp; done) | (go_simp; rfl)); intro gb129 hg w71 hbox hb; have n0_ := Aside0.mk (Kd.R_below (Kd.R_elderB (by (with_reducible repeat (first | apply Kd.R_alloc | apply Kd.R_drewN | apply Kd.R_drew)); exact HO_15.out) gb129 (Nat.le_of_eq hg.symm)) hb); have n1_ := Aside0.mk (Kd.R_below (Kd.R_elderB (by (with_reducible repeat (first | apply Kd.R_alloc | apply Kd.R_drewN | apply Kd.R_drew)); exact HO_181.out) gb129 (Nat.le_of_eq hg.symm)) hb); have n2_ := Aside0.mk (below_step (by repeat (first | (with_reducible first | exact HB.out | apply below_alloc | apply pw_below_drewN | apply below_drew1) | exact HB.out)) hb); have n3_ := Aside0.mk (hbox); have n4_ := Aside0.mk ((by rw [hg]; exact (below_size (by repeat (first | (with_reducible first | exact HB.out | apply below_alloc | apply pw_below_drewN | apply below_drew1) | exact HB.out))) : w.heap.size ≤ gb129)); have n5_ := Aside0.mk ((by rw [hg]; exact (below_size (by repeat (first | (with_reducible first | exact HB.out | apply below_alloc | apply pw_below_drewN | apply below_drew1) | exact HB.out))) : w.heap.size ≤ gb129)); clear HO_15; clear HO_181; clear HB; have HO_15 := n0_; have HO_181 := n1_; have HB := n2_; have BK129 := n3_; have GW129 := n4_; have GE129 := n5_; clear n0_ n1_ n2_ n3_ n4_ n5_; clear hb hbox hg; have hcz72_0 : w71.cell? ⟨gb129, 0, none⟩ = some (.int .i64 0) := (blk_cell BK129.out 0).trans rfl; have hcz72_1 : w71.cell? ⟨gb129, 1, none⟩ = some (.int .i64 0) := (blk_cell BK129.out 1).trans rfl; have hfz72_0 := blk_frozen BK129.out 0; have hfz72_1 := blk_frozen BK129.out 1; have p130 : 0 ≤ (x183_5 : Int) := of_decide_eq_true (by first | (with_reducible assumption) | assumption); have q130 : x183_5 < (l0.length : Int) := of_decide_eq_true (by first | (with_reducible assumption) | assumption); obtain ⟨ad130, e130, hx130_0⟩ := Kd.at_int HR0.out x183_5 p130 q130; cases e130; have hn130_0 : ad130.block ≠ gb129 := Nat.ne_of_lt (Nat.lt_of_lt_of_le (by have := World.block_lt_of_cell? _ _ hx130_0; first | rwa [add_block] at this | exact this) GW129.out); have hn130_1 : ad130.block ≠ gb129 := Nat.ne_of_lt (Nat.lt_of_lt_of_le (by have := World.block_lt_of_cell? _ _ hx130_0; first | rwa [add_block] at this | exact this) GW129.out); replace hx130_0 := (HB.out.cell (World.block_lt_of_cell? w _ hx130_0)).trans hx130_0; replace hx130_0 := (cell_far (p := ⟨gb129, 0, none⟩) (by first | (rw [add_block]; exact hn130_0) | (show (Addr.add _ _).block ≠ _; rw [add_block]; exact hn130_0) | exact hn130_0) (.int .i64 ((rd_Rule t114 x183_5).f0))).trans hx130_0; replace hx130_0 := (cell_far (p := ⟨gb129, 1, none⟩) (by first | (rw [add_block]; exact hn130_1) | (show (Addr.add _ _).block ≠ _; rw [add_block]; exact hn130_1) | exact hn130_1) (.int .i64 ((rd_Rule t114 x183_5).f1))).trans hx130_0; (try have hy130_0 := fun (n_ : Nat) => (show ((((w71.drewN n_).setCell ⟨gb129, 0, none⟩ (.int .i64 ((rd_Rule t114 x183_5).f0))).setCell ⟨gb129, 1, none⟩ (.int .i64 ((rd_Rule t114 x183_5).f1)))).cell? _ = some _ from hx130_0)); clear hn130_0; clear hn130_1; replace p130 := eq_true p130; replace q130 := eq_true q130; obtain ⟨Ao73, co73, eo73⟩ := Kd.R_slice HO_15.out; subst eo73; have p131 : 0 ≤ (x183_5 : Int) := of_decide_eq_true (by first | (with_reducible assumption) | assumption); have q131 : x183_5 < (t105.length : Int) := of_decide_eq_true (by first | (with_reducible assumption) | assumption); obtain ⟨ad131, e131, hx131_0, hx131_1⟩ := at_Rule (Kd.R_reads' HO_15.out).2.2 x183_5 p131 q131; cases e131; have hn131_0 : ad131.block ≠ gb129 := (by first | exact Kd.own_blk (Kd.R_ne HO_15.out BK129.out (by decide)) | exact Kd.own_blk (Kd.R_away HO_15.out (fun _ hk => hk.2))); have hn131_1 : ad131.block ≠ gb129 := (by first | exact Kd.own_blk (Kd.R_ne HO_15.out BK129.out (by decide)) | exact Kd.own_blk (Kd.R_away HO_15.out (fun _ hk => hk.2))); replace hx131_0 := (cell_far (p := ⟨gb129, 0, none⟩) (by first | (rw [add_block]; exact hn131_0) | (show (Addr.add _ _).block ≠ _; rw [add_block]; exact hn131_0) | exact hn131_0) (.int .i64 ((rd_Rule t114 x183_5).f0))).trans hx131_0; replace hx131_1 := (cell_far (p := ⟨gb129, 0, none⟩) (by first | (rw [add_block]; exact hn131_0) | (show (Addr.add _ _).block ≠ _; rw [add_block]; exact hn131_0) | exact hn131_0) (.int .i64 ((rd_Rule t114 x183_5).f0))).trans hx131_1; replace hx131_0 := (cell_far (p := ⟨gb129, 1, none⟩) (by first | (rw [add_block]; exact hn131_1) | (show (Addr.add _ _).block ≠ _; rw [add_block]; exact hn131_1) | exact hn131_1) (.int .i64 ((rd_Rule t114 x183_5).f1))).trans hx131_0; replace hx131_1 := (cell_far (p := ⟨gb129, 1, none⟩) (by first | (rw [add_block]; exact hn131_1) | (show (Addr.add _ _).block ≠ _; rw [add_block]; exact hn131_1) | exact hn131_1) (.int .i64 ((rd_Rule t114 x183_5).f1))).trans hx131_1; (try have hy131_0 := fun (n_ : Nat) => (show ((((w71.drewN n_).setCell ⟨gb129, 0, none⟩ (.int .i64 ((rd_Rule t114 x183_5).f0))).setCell ⟨gb129, 1, none⟩ (.int .i64 ((rd_Rule t114 x183_5).f1)))).cell? _ = some _ from hx131_0)); (try have hy131_1 := fun (n_ : Nat) => (show ((((w71.drewN n_).setCell ⟨gb129, 0, none⟩ (.int .i64 ((rd_Rule t114 x183_5).f0))).setCell ⟨gb129, 1, none⟩ (.int .i64 ((rd_Rule t114 x183_5).f1)))).cell? _ = some _ from hx131_1)); clear hn131_0; clear hn131_1; replace p131 := eq_true p131; replace q131 := eq_true q131; have p132 : 0 ≤ (x183_5 : Int) := of_decide_eq_true (by first | (with_reducible assumption) | assumption); have q132 : x183_5 < (l0.length : Int) := of_decide_eq_true (by first | (with_reducible assumption) | assumption); obtain ⟨ad132, e132, hx132_0⟩ := Kd.at_int HR0.out x183_5 p132 q132; obtain rfl : ad130 = ad132 := (by injection e132); have hn132_0 : ad130.block ≠ gb129 := Nat.ne_of_lt (Nat.lt_of_lt_of_le (by have := World.block_lt_of_cell? _ _ hx132_0; first | rwa [add_block] at this | exact this) GW129.out); have hn132_1 : ad130.block ≠ gb129 := Nat.ne_of_lt (Nat.lt_of_lt_of_le (by have := World.block_lt_of_cell? _ _ hx132_0; first | rwa [add_block] at this | exact this) GW129.out); replace hx132_0 := (HB.out.cell (World.block_lt_of_cell? w _ hx132_0)).trans hx132_0; replace hx132_0 := (cell_far (p := ⟨gb129, 0, none⟩) (by first | (rw [add_block]; exact hn132_0) | (show (Addr.add _ _).block ≠ _; rw [add_block]; exact hn132_0) | exact hn132_0) (.int .i64 ((rd_Rule t114 x183_5).f0))).trans hx132_0; replace hx132_0 := (cell_far (p := ⟨gb129, 1, none⟩) (by first | (rw [add_block]; exact hn132_1) | (show (Addr.add _ _).block ≠ _; rw [add_block]; exact hn132_1) | exact hn132_1) (.int .i64 ((rd_Rule t114 x183_5).f1))).trans hx132_0; (try have hy132_0 := fun (n_ : Nat) => (show ((((w71.drewN n_).setCell ⟨gb129, 0, none⟩ (.int .i64 ((rd_Rule t114 x183_5).f0))).setCell ⟨gb129, 1, none⟩ (.int .i64 ((rd_Rule t114 x183_5).f1)))).cell? _ = some _ from hx132_0)); clear hn132_0; clear hn132_1; replace p132 := eq_true p132; replace q132 := eq_true q132; have p133 : 0 ≤ (x183_5 : Int) := of_decide_eq_true (by first | (with_reducible assumption) | assumption); have q133 : x183_5 < (t105.length : Int) := of_decide_eq_true (by first | (with_reducible assumption) | assumption); obtain ⟨ad133, e133, hx133_0, hx133_1⟩ := at_Rule (Kd.R_reads' HO_15.out).2.2 x183_5 p133 q133; obtain rfl : ad131 = ad133 := (by injection e133); have hn133_0 : ad131.block ≠ gb129 := (by first | exact Kd.own_blk (Kd.R_ne HO_15.out BK129.out (by decide)) | exact Kd.own_blk (Kd.R_away HO_15.out (fun _ hk => hk.2))); have hn133_1 : ad131.block ≠ gb129 := (by first | exact Kd.own_blk (Kd.R_ne HO_15.out BK129.out (by decide)) | exact Kd.own_blk (Kd.R_away HO_15.out (fun _ hk => hk.2))); replace hx133_0 := (cell_far (p := ⟨gb129, 0, none⟩) (by first | (rw [add_block]; exact hn133_0) | (show (Addr.add _ _).block ≠ _; rw [add_block]; exact hn133_0) | exact hn133_0) (.int .i64 ((rd_Rule t114 x183_5).f0))).trans hx133_0; replace hx133_1 := (cell_far (p := ⟨gb129, 0, none⟩) (by first | (rw [add_block]; exact hn133_0) | (show (Addr.add _ _).block ≠ _; rw [add_block]; exact hn133_0) | exact hn133_0) (.int .i64 ((rd_Rule t114 x183_5).f0))).trans hx133_1; replace hx133_0 := (cell_far (p := ⟨gb129, 1, none⟩) (by first | (rw [add_block]; exact hn133_1) | (show (Addr.add _ _).block ≠ _; rw [add_block]; exact hn133_1) | exact hn133_1) (.int .i64 ((rd_Rule t114 x183_5).f1))).trans hx133_0; replace hx133_1 := (cell_far (p := ⟨gb129, 1, none⟩) (by first | (rw [add_block]; exact hn133_1) | (show (Addr.add _ _).block ≠ _; rw [add_block]; exact hn133_1) | exact hn133_1) (.int .i64 ((rd_Rule t114 x183_5).f1))).trans hx133_1; (try have hy133_0 := fun (n_ : Nat) => (show ((((w71.drewN n_).setCell ⟨gb129, 0, none⟩ (.int .i64 ((rd_Rule t114 x183_5).f0))).setCell ⟨gb129, 1, none⟩ (.int .i64 ((rd_Rule t114 x183_5).f1)))).cell? _ = some _ from hx133_0)); (try have hy133_1 := fun (n_ : Nat) => (show ((((w71.drewN n_).setCell ⟨gb129, 0, none⟩ (.int .i64 ((rd_Rule t114 x183_5).f0))).setCell ⟨gb129, 1, none⟩ (.int .i64 ((rd_Rule t114 x183_5).f1)))).cell? _ = some _ from hx133_1)); clear hn133_0; clear hn133_1; replace p133 := eq_true p133; replace q133 := eq_true q133))
                                                      repeat (go_quiet (first | ((with_reducible refine gate_dst (N := 30) rfl ?_); (try (refine gate_guard (by rfl) ?_; dsimp only)); refine box_event ?hg (N := 30) ?hd (cs := #[.int .i64 0, .int .i64 0]) (t := 41) ?hr ?_; (case hd => rfl); (case hg => rfl); (case hr => first | (go_simp; done) | (go_simp; rfl)); intro gb129 hg w71 hbox hb; have n0_ := Aside0.mk (Kd.R_below (Kd.R_elderB (by (with_reducible repeat (first | apply Kd.R_alloc | apply Kd.R_drewN | apply Kd.R_drew)); exact HO_15.out) gb129 (Nat.le_of_eq hg.symm)) hb); have n1_ := Aside0.mk (Kd.R_below (Kd.R_elderB (by (with_reducible repeat (first | apply Kd.R_alloc | apply Kd.R_drewN | apply Kd.R_drew)); exact HO_181.out) gb129 (Nat.le_of_eq hg.symm)) hb); have n2_ := Aside0.mk (below_step (by repeat (first | (with_reducible first | exact HB.out | apply below_alloc | apply pw_below_drewN | apply below_drew1) | exact HB.out)) hb); have n3_ := Aside0.mk (hbox); have n4_ := Aside0.mk ((by rw [hg]; exact (below_size (by repeat (first | (with_reducible first | exact HB.out | apply below_alloc | apply pw_below_drewN | apply below_drew1) | exact HB.out))) : w.heap.size ≤ gb129)); have n5_ := Aside0.mk ((by rw [hg]; exact (below_size (by repeat (first | (with_reducible first | exact HB.out | apply below_alloc | apply pw_below_drewN | apply below_drew1) | exact HB.out))) : w.heap.size ≤ gb129)); clear HO_15; clear HO_181; clear HB; have HO_15 := n0_; have HO_181 := n1_; have HB := n2_; have BK129 := n3_; have GW129 := n4_; have GE129 := n5_; clear n0_ n1_ n2_ n3_ n4_ n5_; clear hb hbox hg; have hcz72_0 : w71.cell? ⟨gb129, 0, none⟩ = some (.int .i64 0) := (blk_cell BK129.out 0).trans rfl; have hcz72_1 : w71.cell? ⟨gb129, 1, none⟩ = some (.int .i64 0) := (blk_cell BK129.out 1).trans rfl; have hfz72_0 := blk_frozen BK129.out 0; have hfz72_1 := blk_frozen BK129.out 1; have p130 : 0 ≤ (x183_5 : Int) := of_decide_eq_true (by first | (with_reducible assumption) | assumption); have q130 : x183_5 < (l0.length : Int) := of_decide_eq_true (by first | (with_reducible assumption) | assumption); obtain ⟨ad130, e130, hx130_0⟩ := Kd.at_int HR0.out x183_5 p130 q130; cases e130; have hn130_0 : ad130.block ≠ gb129 := Nat.ne_of_lt (Nat.lt_of_lt_of_le (by have := World.block_lt_of_cell? _ _ hx130_0; first | rwa [add_block] at this | exact this) GW129.out); have hn130_1 : ad130.block ≠ gb129 := Nat.ne_of_lt (Nat.lt_of_lt_of_le (by have := World.block_lt_of_cell? _ _ hx130_0; first | rwa [add_block] at this | exact this) GW129.out); replace hx130_0 := (HB.out.cell (World.block_lt_of_cell? w _ hx130_0)).trans hx130_0; replace hx130_0 := (cell_far (p := ⟨gb129, 0, none⟩) (by first | (rw [add_block]; exact hn130_0) | (show (Addr.add _ _).block ≠ _; rw [add_block]; exact hn130_0) | exact hn130_0) (.int .i64 ((rd_Rule t114 x183_5).f0))).trans hx130_0; replace hx130_0 := (cell_far (p := ⟨gb129, 1, none⟩) (by first | (rw [add_block]; exact hn130_1) | (show (Addr.add _ _).block ≠ _; rw [add_block]; exact hn130_1) | exact hn130_1) (.int .i64 ((rd_Rule t114 x183_5).f1))).trans hx130_0; (try have hy130_0 := fun (n_ : Nat) => (show ((((w71.drewN n_).setCell ⟨gb129, 0, none⟩ (.int .i64 ((rd_Rule t114 x183_5).f0))).setCell ⟨gb129, 1, none⟩ (.int .i64 ((rd_Rule t114 x183_5).f1)))).cell? _ = some _ from hx130_0)); clear hn130_0; clear hn130_1; replace p130 := eq_true p130; replace q130 := eq_true q130; obtain ⟨Ao73, co73, eo73⟩ := Kd.R_slice HO_15.out; subst eo73; have p131 : 0 ≤ (x183_5 : Int) := of_decide_eq_true (by first | (with_reducible assumption) | assumption); have q131 : x183_5 < (t105.length : Int) := of_decide_eq_true (by first | (with_reducible assumption) | assumption); obtain ⟨ad131, e131, hx131_0, hx131_1⟩ := at_Rule (Kd.R_reads' HO_15.out).2.2 x183_5 p131 q131; cases e131; have hn131_0 : ad131.block ≠ gb129 := (by first | exact Kd.own_blk (Kd.R_ne HO_15.out BK129.out (by decide)) | exact Kd.own_blk (Kd.R_away HO_15.out (fun _ hk => hk.2))); have hn131_1 : ad131.block ≠ gb129 := (by first | exact Kd.own_blk (Kd.R_ne HO_15.out BK129.out (by decide)) | exact Kd.own_blk (Kd.R_away HO_15.out (fun _ hk => hk.2))); replace hx131_0 := (cell_far (p := ⟨gb129, 0, none⟩) (by first | (rw [add_block]; exact hn131_0) | (show (Addr.add _ _).block ≠ _; rw [add_block]; exact hn131_0) | exact hn131_0) (.int .i64 ((rd_Rule t114 x183_5).f0))).trans hx131_0; replace hx131_1 := (cell_far (p := ⟨gb129, 0, none⟩) (by first | (rw [add_block]; exact hn131_0) | (show (Addr.add _ _).block ≠ _; rw [add_block]; exact hn131_0) | exact hn131_0) (.int .i64 ((rd_Rule t114 x183_5).f0))).trans hx131_1; replace hx131_0 := (cell_far (p := ⟨gb129, 1, none⟩) (by first | (rw [add_block]; exact hn131_1) | (show (Addr.add _ _).block ≠ _; rw [add_block]; exact hn131_1) | exact hn131_1) (.int .i64 ((rd_Rule t114 x183_5).f1))).trans hx131_0; replace hx131_1 := (cell_far (p := ⟨gb129, 1, none⟩) (by first | (rw [add_block]; exact hn131_1) | (show (Addr.add _ _).block ≠ _; rw [add_block]; exact hn131_1) | exact hn131_1) (.int .i64 ((rd_Rule t114 x183_5).f1))).trans hx131_1; (try have hy131_0 := fun (n_ : Nat) => (show ((((w71.drewN n_).setCell ⟨gb129, 0, none⟩ (.int .i64 ((rd_Rule t114 x183_5).f0))).setCell ⟨gb129, 1, none⟩ (.int .i64 ((rd_Rule t114 x183_5).f1)))).cell? _ = some _ from hx131_0)); (try have hy131_1 := fun (n_ : Nat) => (show ((((w71.drewN n_).setCell ⟨gb129, 0, none⟩ (.int .i64 ((rd_Rule t114 x183_5).f0))).setCell ⟨gb129, 1, none⟩ (.int .i64 ((rd_Rule t114 x183_5).f1)))).cell? _ = some _ from hx131_1)); clear hn131_0; clear hn131_1; replace p131 := eq_true p131; replace q131 := eq_true q131; have p132 : 0 ≤ (x183_5 : Int) := of_decide_eq_true (by first | (with_reducible assumption) | assumption); have q132 : x183_5 < (l0.length : Int) := of_decide_eq_true (by first | (with_reducible assumption) | assumption); obtain ⟨ad132, e132, hx132_0⟩ := Kd.at_int HR0.out x183_5 p132 q132; obtain rfl : ad130 = ad132 := (by injection e132); have hn132_0 : ad130.block ≠ gb129 := Nat.ne_of_lt (Nat.lt_of_lt_of_le (by have := World.block_lt_of_cell? _ _ hx132_0; first | rwa [add_block] at this | exact this) GW129.out); have hn132_1 : ad130.block ≠ gb129 := Nat.ne_of_lt (Nat.lt_of_lt_of_le (by have := World.block_lt_of_cell? _ _ hx132_0; first | rwa [add_block] at this | exact this) GW129.out); replace hx132_0 := (HB.out.cell (World.block_lt_of_cell? w _ hx132_0)).trans hx132_0; replace hx132_0 := (cell_far (p := ⟨gb129, 0, none⟩) (by first | (rw [add_block]; exact hn132_0) | (show (Addr.add _ _).block ≠ _; rw [add_block]; exact hn132_0) | exact hn132_0) (.int .i64 ((rd_Rule t114 x183_5).f0))).trans hx132_0; replace hx132_0 := (cell_far (p := ⟨gb129, 1, none⟩) (by first | (rw [add_block]; exact hn132_1) | (show (Addr.add _ _).block ≠ _; rw [add_block]; exact hn132_1) | exact hn132_1) (.int .i64 ((rd_Rule t114 x183_5).f1))).trans hx132_0; (try have hy132_0 := fun (n_ : Nat) => (show ((((w71.drewN n_).setCell ⟨gb129, 0, none⟩ (.int .i64 ((rd_Rule t114 x183_5).f0))).setCell ⟨gb129, 1, none⟩ (.int .i64 ((rd_Rule t114 x183_5).f1)))).cell? _ = some _ from hx132_0)); clear hn132_0; clear hn132_1; replace p132 := eq_true p132; replace q132 := eq_true q132; have p133 : 0 ≤ (x183_5 : Int) := of_decide_eq_true (by first | (with_reducible assumption) | assumption); have q133 : x183_5 < (t105.length : Int) := of_decide_eq_true (by first | (with_reducible assumption) | assumption); obtain ⟨ad133, e133, hx133_0, hx133_1⟩ := at_Rule (Kd.R_reads' HO_15.out).2.2 x183_5 p133 q133; obtain rfl : ad131 = ad133 := (by injection e133); have hn133_0 : ad131.block ≠ gb129 := (by first | exact Kd.own_blk (Kd.R_ne HO_15.out BK129.out (by decide)) | exact Kd.own_blk (Kd.R_away HO_15.out (fun _ hk => hk.2))); have hn133_1 : ad131.block ≠ gb129 := (by first | exact Kd.own_blk (Kd.R_ne HO_15.out BK129.out (by decide)) | exact Kd.own_blk (Kd.R_away HO_15.out (fun _ hk => hk.2))); replace hx133_0 := (cell_far (p := ⟨gb129, 0, none⟩) (by first | (rw [add_block]; exact hn133_0) | (show (Addr.add _ _).block ≠ _; rw [add_block]; exact hn133_0) | exact hn133_0) (.int .i64 ((rd_Rule t114 x183_5).f0))).trans hx133_0; replace hx133_1 := (cell_far (p := ⟨gb129, 0, none⟩) (by first | (rw [add_block]; exact hn133_0) | (show (Addr.add _ _).block ≠ _; rw [add_block]; exact hn133_0) | exact hn133_0) (.int .i64 ((rd_Rule t114 x183_5).f0))).trans hx133_1; replace hx133_0 := (cell_far (p := ⟨gb129, 1, none⟩) (by first | (rw [add_block]; exact hn133_1) | (show (Addr.add _ _).block ≠ _; rw [add_block]; exact hn133_1) | exact hn133_1) (.int .i64 ((rd_Rule t114 x183_5).f1))).trans hx133_0; replace hx133_1 := (cell_far (p := ⟨gb129, 1, none⟩) (by first | (rw [add_block]; exact hn133_1) | (show (Addr.add _ _).block ≠ _; rw [add_block]; exact hn133_1) | exact hn133_1) (.int .i64 ((rd_Rule t114 x183_5).f1))).trans hx133_1; (try have hy133_0 := fun (n_ : Nat) => (show ((((w71.drewN n_).setCell ⟨gb129, 0, none⟩ (.int .i64 ((rd_Rule t114 x183_5).f0))).setCell ⟨gb129, 1, none⟩ (.int .i64 ((rd_Rule t114 x183_5).f1)))).cell? _ = some _ from hx133_0)); (try have hy133_1 := fun (n_ : Nat) => (show ((((w71.drewN n_).setCell ⟨gb129, 0, none⟩ (.int .i64 ((rd_Rule t114 x183_5).f0))).setCell ⟨gb129, 1, none⟩ (.int .i64 ((rd_Rule t114 x183_5).f1)))).cell? _ = some _ from hx133_1)); clear hn133_0; clear hn133_1; replace p133 := eq_true p133; replace q133 := eq_true q133)); try go_wp2_with (first | ((with_reducible refine gate_dst (N := 30) rfl ?_); (try (refine gate_guard (by rfl) ?_; dsimp only)); refine box_event ?hg (N := 30) ?hd (cs := #[.int .i64 0, .int .i64 0]) (t := 41) ?hr ?_; (case hd => rfl); (case hg => rfl); (case hr => first | (go_simp; done) | (go_simp; rfl)); intro gb129 hg w71 hbox hb; have n0_ := Aside0.mk (Kd.R_below (Kd.R_elderB (by (with_reducible repeat (first | apply Kd.R_alloc | apply Kd.R_drewN | apply Kd.R_drew)); exact HO_15.out) gb129 (Nat.le_of_eq hg.symm)) hb); have n1_ := Aside0.mk (Kd.R_below (Kd.R_elderB (by (with_reducible repeat (first | apply Kd.R_alloc | apply Kd.R_drewN | apply Kd.R_drew)); exact HO_181.out) gb129 (Nat.le_of_eq hg.symm)) hb); have n2_ := Aside0.mk (below_step (by repeat (first | (with_reducible first | exact HB.out | apply below_alloc | apply pw_below_drewN | apply below_drew1) | exact HB.out)) hb); have n3_ := Aside0.mk (hbox); have n4_ := Aside0.mk ((by rw [hg]; exact (below_size (by repeat (first | (with_reducible first | exact HB.out | apply below_alloc | apply pw_below_drewN | apply below_drew1) | exact HB.out))) : w.heap.size ≤ gb129)); have n5_ := Aside0.mk ((by rw [hg]; exact (below_size (by repeat (first | (with_reducible first | exact HB.out | apply below_alloc | apply pw_below_drewN | apply below_drew1) | exact HB.out))) : w.heap.size ≤ gb129)); clear HO_15; clear HO_181; clear HB; have HO_15 := n0_; have HO_181 := n1_; have HB := n2_; have BK129 := n3_; have GW129 := n4_; have GE129 := n5_; clear n0_ n1_ n2_ n3_ n4_ n5_; clear hb hbox hg; have hcz72_0 : w71.cell? ⟨gb129, 0, none⟩ = some (.int .i64 0) := (blk_cell BK129.out 0).trans rfl; have hcz72_1 : w71.cell? ⟨gb129, 1, none⟩ = some (.int .i64 0) := (blk_cell BK129.out 1).trans rfl; have hfz72_0 := blk_frozen BK129.out 0; have hfz72_1 := blk_frozen BK129.out 1; have p130 : 0 ≤ (x183_5 : Int) := of_decide_eq_true (by first | (with_reducible assumption) | assumption); have q130 : x183_5 < (l0.length : Int) := of_decide_eq_true (by first | (with_reducible assumption) | assumption); obtain ⟨ad130, e130, hx130_0⟩ := Kd.at_int HR0.out x183_5 p130 q130; cases e130; have hn130_0 : ad130.block ≠ gb129 := Nat.ne_of_lt (Nat.lt_of_lt_of_le (by have := World.block_lt_of_cell? _ _ hx130_0; first | rwa [add_block] at this | exact this) GW129.out); have hn130_1 : ad130.block ≠ gb129 := Nat.ne_of_lt (Nat.lt_of_lt_of_le (by have := World.block_lt_of_cell? _ _ hx130_0; first | rwa [add_block] at this | exact this) GW129.out); replace hx130_0 := (HB.out.cell (World.block_lt_of_cell? w _ hx130_0)).trans hx130_0; replace hx130_0 := (cell_far (p := ⟨gb129, 0, none⟩) (by first | (rw [add_block]; exact hn130_0) | (show (Addr.add _ _).block ≠ _; rw [add_block]; exact hn130_0) | exact hn130_0) (.int .i64 ((rd_Rule t114 x183_5).f0))).trans hx130_0; replace hx130_0 := (cell_far (p := ⟨gb129, 1, none⟩) (by first | (rw [add_block]; exact hn130_1) | (show (Addr.add _ _).block ≠ _; rw [add_block]; exact hn130_1) | exact hn130_1) (.int .i64 ((rd_Rule t114 x183_5).f1))).trans hx130_0; (try have hy130_0 := fun (n_ : Nat) => (show ((((w71.drewN n_).setCell ⟨gb129, 0, none⟩ (.int .i64 ((rd_Rule t114 x183_5).f0))).setCell ⟨gb129, 1, none⟩ (.int .i64 ((rd_Rule t114 x183_5).f1)))).cell? _ = some _ from hx130_0)); clear hn130_0; clear hn130_1; replace p130 := eq_true p130; replace q130 := eq_true q130; obtain ⟨Ao73, co73, eo73⟩ := Kd.R_slice HO_15.out; subst eo73; have p131 : 0 ≤ (x183_5 : Int) := of_decide_eq_true (by first | (with_reducible assumption) | assumption); have q131 : x183_5 < (t105.length : Int) := of_decide_eq_true (by first | (with_reducible assumption) | assumption); obtain ⟨ad131, e131, hx131_0, hx131_1⟩ := at_Rule (Kd.R_reads' HO_15.out).2.2 x183_5 p131 q131; cases e131; have hn131_0 : ad131.block ≠ gb129 := (by first | exact Kd.own_blk (Kd.R_ne HO_15.out BK129.out (by decide)) | exact Kd.own_blk (Kd.R_away HO_15.out (fun _ hk => hk.2))); have hn131_1 : ad131.block ≠ gb129 := (by first | exact Kd.own_blk (Kd.R_ne HO_15.out BK129.out (by decide)) | exact Kd.own_blk (Kd.R_away HO_15.out (fun _ hk => hk.2))); replace hx131_0 := (cell_far (p := ⟨gb129, 0, none⟩) (by first | (rw [add_block]; exact hn131_0) | (show (Addr.add _ _).block ≠ _; rw [add_block]; exact hn131_0) | exact hn131_0) (.int .i64 ((rd_Rule t114 x183_5).f0))).trans hx131_0; replace hx131_1 := (cell_far (p := ⟨gb129, 0, none⟩) (by first | (rw [add_block]; exact hn131_0) | (show (Addr.add _ _).block ≠ _; rw [add_block]; exact hn131_0) | exact hn131_0) (.int .i64 ((rd_Rule t114 x183_5).f0))).trans hx131_1; replace hx131_0 := (cell_far (p := ⟨gb129, 1, none⟩) (by first | (rw [add_block]; exact hn131_1) | (show (Addr.add _ _).block ≠ _; rw [add_block]; exact hn131_1) | exact hn131_1) (.int .i64 ((rd_Rule t114 x183_5).f1))).trans hx131_0; replace hx131_1 := (cell_far (p := ⟨gb129, 1, none⟩) (by first | (rw [add_block]; exact hn131_1) | (show (Addr.add _ _).block ≠ _; rw [add_block]; exact hn131_1) | exact hn131_1) (.int .i64 ((rd_Rule t114 x183_5).f1))).trans hx131_1; (try have hy131_0 := fun (n_ : Nat) => (show ((((w71.drewN n_).setCell ⟨gb129, 0, none⟩ (.int .i64 ((rd_Rule t114 x183_5).f0))).setCell ⟨gb129, 1, none⟩ (.int .i64 ((rd_Rule t114 x183_5).f1)))).cell? _ = some _ from hx131_0)); (try have hy131_1 := fun (n_ : Nat) => (show ((((w71.drewN n_).setCell ⟨gb129, 0, none⟩ (.int .i64 ((rd_Rule t114 x183_5).f0))).setCell ⟨gb129, 1, none⟩ (.int .i64 ((rd_Rule t114 x183_5).f1)))).cell? _ = some _ from hx131_1)); clear hn131_0; clear hn131_1; replace p131 := eq_true p131; replace q131 := eq_true q131; have p132 : 0 ≤ (x183_5 : Int) := of_decide_eq_true (by first | (with_reducible assumption) | assumption); have q132 : x183_5 < (l0.length : Int) := of_decide_eq_true (by first | (with_reducible assumption) | assumption); obtain ⟨ad132, e132, hx132_0⟩ := Kd.at_int HR0.out x183_5 p132 q132; obtain rfl : ad130 = ad132 := (by injection e132); have hn132_0 : ad130.block ≠ gb129 := Nat.ne_of_lt (Nat.lt_of_lt_of_le (by have := World.block_lt_of_cell? _ _ hx132_0; first | rwa [add_block] at this | exact this) GW129.out); have hn132_1 : ad130.block ≠ gb129 := Nat.ne_of_lt (Nat.lt_of_lt_of_le (by have := World.block_lt_of_cell? _ _ hx132_0; first | rwa [add_block] at this | exact this) GW129.out); replace hx132_0 := (HB.out.cell (World.block_lt_of_cell? w _ hx132_0)).trans hx132_0; replace hx132_0 := (cell_far (p := ⟨gb129, 0, none⟩) (by first | (rw [add_block]; exact hn132_0) | (show (Addr.add _ _).block ≠ _; rw [add_block]; exact hn132_0) | exact hn132_0) (.int .i64 ((rd_Rule t114 x183_5).f0))).trans hx132_0; replace hx132_0 := (cell_far (p := ⟨gb129, 1, none⟩) (by first | (rw [add_block]; exact hn132_1) | (show (Addr.add _ _).block ≠ _; rw [add_block]; exact hn132_1) | exact hn132_1) (.int .i64 ((rd_Rule t114 x183_5).f1))).trans hx132_0; (try have hy132_0 := fun (n_ : Nat) => (show ((((w71.drewN n_).setCell ⟨gb129, 0, none⟩ (.int .i64 ((rd_Rule t114 x183_5).f0))).setCell ⟨gb129, 1, none⟩ (.int .i64 ((rd_Rule t114 x183_5).f1)))).cell? _ = some _ from hx132_0)); clear hn132_0; clear hn132_1; replace p132 := eq_true p132; replace q132 := eq_true q132; have p133 : 0 ≤ (x183_5 : Int) := of_decide_eq_true (by first | (with_reducible assumption) | assumption); have q133 : x183_5 < (t105.length : Int) := of_decide_eq_true (by first | (with_reducible assumption) | assumption); obtain ⟨ad133, e133, hx133_0, hx133_1⟩ := at_Rule (Kd.R_reads' HO_15.out).2.2 x183_5 p133 q133; obtain rfl : ad131 = ad133 := (by injection e133); have hn133_0 : ad131.block ≠ gb129 := (by first | exact Kd.own_blk (Kd.R_ne HO_15.out BK129.out (by decide)) | exact Kd.own_blk (Kd.R_away HO_15.out (fun _ hk => hk.2))); have hn133_1 : ad131.block ≠ gb129 := (by first | exact Kd.own_blk (Kd.R_ne HO_15.out BK129.out (by decide)) | exact Kd.own_blk (Kd.R_away HO_15.out (fun _ hk => hk.2))); replace hx133_0 := (cell_far (p := ⟨gb129, 0, none⟩) (by first | (rw [add_block]; exact hn133_0) | (show (Addr.add _ _).block ≠ _; rw [add_block]; exact hn133_0) | exact hn133_0) (.int .i64 ((rd_Rule t114 x183_5).f0))).trans hx133_0; replace hx133_1 := (cell_far (p := ⟨gb129, 0, none⟩) (by first | (rw [add_block]; exact hn133_0) | (show (Addr.add _ _).block ≠ _; rw [add_block]; exact hn133_0) | exact hn133_0) (.int .i64 ((rd_Rule t114 x183_5).f0))).trans hx133_1; replace hx133_0 := (cell_far (p := ⟨gb129, 1, none⟩) (by first | (rw [add_block]; exact hn133_1) | (show (Addr.add _ _).block ≠ _; rw [add_block]; exact hn133_1) | exact hn133_1) (.int .i64 ((rd_Rule t114 x183_5).f1))).trans hx133_0; replace hx133_1 := (cell_far (p := ⟨gb129, 1, none⟩) (by first | (rw [add_block]; exact hn133_1) | (show (Addr.add _ _).block ≠ _; rw [add_block]; exact hn133_1) | exact hn133_1) (.int .i64 ((rd_Rule t114 x183_5).f1))).trans hx133_1; (try have hy133_0 := fun (n_ : Nat) => (show ((((w71.drewN n_).setCell ⟨gb129, 0, none⟩ (.int .i64 ((rd_Rule t114 x183_5).f0))).setCell ⟨gb129, 1, none⟩ (.int .i64 ((rd_Rule t114 x183_5).f1)))).cell? _ = some _ from hx133_0)); (try have hy133_1 := fun (n_ : Nat) => (show ((((w71.drewN n_).setCell ⟨gb129, 0, none⟩ (.int .i64 ((rd_Rule t114 x183_5).f0))).setCell ⟨gb129, 1, none⟩ (.int .i64 ((rd_Rule t114 x183_5).f1)))).cell? _ = some _ from hx133_1)); clear hn133_0; clear hn133_1; replace p133 := eq_true p133; replace q133 := eq_true q133)))
                                                      go_roundg k5
                                                      case measure => have := HJ5.out; have := HJ13.out; have := HJ34.out; have := HJ54.out; have := HK5.out; omega
                                                      case rel => exact ⟨(wrap64 (x183_5 + 1)), (by first | rfl | (simp; done) | (simp [*]; done)), H', ⟨by have := HJ5.out; have := HJ13.out; have := HJ34.out; have := HJ54.out; have := HK5.out; omega⟩, ⟨by (with_reducible repeat (first | apply Kd.R_alloc | apply Kd.R_drewN | apply Kd.R_drew)); exact Kd.R_mono (Kd.R_far (p := ⟨gb129, 1, none⟩) (Kd.R_far (p := ⟨gb129, 0, none⟩) (Kd.R_mono HO_15.out (fun k_ hk => (⟨hk, hk.2⟩ : _ ∧ k_ ≠ gb129))) (fun _ hk => hk.2) (.int .i64 ((rd_Rule t114 x183_5).f0))) (fun _ hk => hk.2) (.int .i64 ((rd_Rule t114 x183_5).f1))) (fun _ hk => hk.1.1)⟩, ⟨by (with_reducible repeat (first | apply Kd.R_alloc | apply Kd.R_drewN | apply Kd.R_drew)); exact Kd.R_mono (Kd.R_far (p := ⟨gb129, 1, none⟩) (Kd.R_far (p := ⟨gb129, 0, none⟩) (Kd.R_mono HO_181.out (fun k_ hk => (⟨hk, hk.2⟩ : _ ∧ k_ ≠ gb129))) (fun _ hk => hk.2) (.int .i64 ((rd_Rule t114 x183_5).f0))) (fun _ hk => hk.2) (.int .i64 ((rd_Rule t114 x183_5).f1))) (fun _ hk => hk.1.1)⟩, ⟨by repeat (first | (with_reducible first | exact HB.out | apply below_alloc | apply pw_below_drewN | apply below_drew1 | refine below_set ?_ GE129.out) | exact HB.out)⟩⟩
                                                    · rw [if_neg c70] at H
                                                      have c70b0 : (((rd_Rule t105 x183_5).f1) == 0) = false := beq_eq_false_iff_ne.mpr c70
                                                      have c70b1 : (((rd_Rule t105 x183_5).f1) != 0) = true := bne_iff_ne.mpr c70
                                                      exact absurd H (by simp)
                                                  · rw [if_neg c69] at H
                                                    have c69b0 : (((rd_Rule t105 x183_5).f0) == (rd l0 x183_5)) = false := beq_eq_false_iff_ne.mpr c69
                                                    have c69b1 : (((rd_Rule t105 x183_5).f0) != (rd l0 x183_5)) = true := bne_iff_ne.mpr c69
                                                    exact absurd H (by simp)
                                                · rw [if_neg c68] at H
                                                  exact absurd H (by simp)
                                              · rw [if_neg c67] at H
                                                have c67b0 : (((rd_Rule t114 x183_5).f0) == (rd l0 x183_5)) = false := beq_eq_false_iff_ne.mpr c67
                                                have c67b1 : (((rd_Rule t114 x183_5).f0) != (rd l0 x183_5)) = true := bne_iff_ne.mpr c67
                                                exact absurd H (by simp)
                                            · rw [if_neg c66] at H
                                              exact absurd H (by simp)
                                          · rw [if_neg c65] at H
                                            exact absurd H (by simp)
                                        · rw [if_neg c64] at H
                                          exact absurd H (by simp)
                                      · rw [if_neg c63] at H
                                        have c63b0 : decide (x183_5 < (t114.length : Int)) = false := decide_eq_false c63
                                        clear c63
                                        have H' := Aside0.mk H
                                        clear H
                                        go_wp2
                                        repeat (go_quiet (fail); try go_wp2)
                                        go_meet
                                        case rel => exact ⟨_, H', ⟨by have := HJ5.out; have := HJ13.out; have := HJ34.out; have := HJ54.out; have := HK5.out; first | omega | exact Nat.le_refl _⟩, ⟨by repeat (first | (with_reducible first | exact HB.out | apply below_alloc | apply pw_below_drewN | apply below_drew1) | exact HB.out)⟩⟩
                    · replace c30 := Bool.eq_false_iff.mpr c30
                      subst c30
                      have H1 : (laws_FnCoversFoundOfAll.j5 kj13 l1 a2 l3 a4) = some true := by rw [if_neg (show ¬ (false = true) by decide)] at H; exact H
                      clear H
                      have H := H1
                      clear H1
                      have H' := Aside0.mk H
                      clear H
                      go_wp2
                      repeat (go_quiet (fail); try go_wp2)
                      go_meet
                      case rel => exact ⟨_, H', ⟨by have := HJ5.out; have := HJ13.out; first | omega | exact Nat.le_refl _⟩, ⟨by repeat (first | (with_reducible first | exact HB.out | apply below_alloc | apply pw_below_drewN | apply below_drew1) | exact HB.out)⟩⟩
                case rest =>
                  as_aux_lemma =>
                    clear HC29
                    try clear c1
                    try clear p1
                    try clear q1
                    try clear hx1
                    try clear c2
                    try clear p2
                    try clear c3
                    try clear c4
                    try clear c5
                    try clear c6
                    try clear p6
                    try clear c7
                    try clear c7b0
                    try clear c7b1
                    try clear c8
                    try clear c8b0
                    try clear c8b1
                    try clear c9
                    try clear p12
                    try clear q12
                    try clear hx12
                    try clear p13
                    try clear q13
                    try clear hx13
                    try clear c19
                    try clear c19b0
                    try clear c19b1
                    try clear c19b2
                    try clear c20
                    try clear c20b0
                    try clear c20b1
                    try clear c21
                    try clear c21b0
                    try clear c21b1
                    try clear c21b2
                    try clear c23
                    try clear c28
                    try clear c30
                    try clear c41
                    try clear c42
                    try clear c42b0
                    try clear c42b1
                    try clear c43
                    try clear c44
                    try clear c45
                    try clear c45b0
                    try clear c46
                    try clear c47
                    try clear c49
                    try clear c50
                    try clear c50b0
                    try clear c51
                    try clear c52
                    try clear c54
                    try clear c56
                    try clear c56b0
                    try clear c56b1
                    try clear c58
                    try clear c59
                    try clear c59b0
                    try clear c59b1
                    try clear c62
                    try clear c62b0
                    try clear c62b1
                    try clear c63
                    try clear c63b0
                    try clear c64
                    try clear c64b0
                    try clear p64
                    try clear c65
                    try clear c65b0
                    try clear c66
                    try clear c66b0
                    try clear c67
                    try clear c67b0
                    try clear c67b1
                    try clear c68
                    try clear c68b0
                    try clear c69
                    try clear c69b0
                    try clear c69b1
                    try clear c70
                    try clear c70b0
                    try clear c70b1
                    try clear hcz72_0
                    try clear hcz72_1
                    try clear hfz72_0
                    try clear hfz72_1
                    try clear hx128_0
                    try clear hx128_1
                    try clear hx130_0
                    try clear hx131_0
                    try clear hx131_1
                    try clear hx132_0
                    try clear hx133_0
                    try clear hx133_1
                    try clear p128
                    try clear p130
                    try clear p131
                    try clear p132
                    try clear p133
                    try clear p2
                    try clear p6
                    try clear q128
                    try clear q130
                    try clear q131
                    try clear q132
                    try clear q133
                    obtain ⟨kq, HA, HJ28, HB⟩ := hcut
                    cases kq with
                    | zero => exact absurd HA.out (by simp [laws_FnCoversFoundOfAll.j5])
                    | succ kj28 =>
                      have H := HA.out
                      clear HA
                      simp only [laws_FnCoversFoundOfAll.j5] at H
                      replace H := Option.bind_eq_some_iff.mp H
                      obtain ⟨⟨t134, t135⟩, A740, H⟩ := H
                      replace H : ((spec_FirstCover.f kj28 l1 a2).bind fun bt138 => ((impl_CountCovers.f kj28 l1 a2).bind fun bt142 => ((spec_CountCovers.f kj28 l1 a2).bind fun bt144 => ((impl_IsCover.f kj28 l3 a4).bind fun bt146 => ((spec_IsCover.f kj28 l3 a4).bind fun bt148 => (if (t135 != bt138.2) = true then (laws_FnCoversFoundOfAll.j6 kj28 l1 a2 l3 a4 t134 t135 bt142.1 bt146.1 bt146.2 true) else ((laws_tRules.f kj28 t134 bt138.1).bind fun t150 => (if t150 = true then (if (bt142.2 != bt144.2) = true then (laws_FnCoversFoundOfAll.j6 kj28 l1 a2 l3 a4 t134 t135 bt142.1 bt146.1 bt146.2 true) else (if bt142.1 = bt144.1 then (if (bt146.2 != bt148.2) = true then (laws_FnCoversFoundOfAll.j6 kj28 l1 a2 l3 a4 t134 t135 bt142.1 bt146.1 bt146.2 true) else (if (bt146.1 != bt148.1) = true then (laws_FnCoversFoundOfAll.j6 kj28 l1 a2 l3 a4 t134 t135 bt142.1 bt146.1 bt146.2 true) else (if bt142.2 = true then (laws_FnCoversFoundOfAll.j6 kj28 l1 a2 l3 a4 t134 t135 bt142.1 bt146.1 bt146.2 (t135 != (decide (bt142.1 > 0)))) else (laws_FnCoversFoundOfAll.j6 kj28 l1 a2 l3 a4 t134 t135 bt142.1 bt146.1 bt146.2 (t135 != false))))) else (laws_FnCoversFoundOfAll.j6 kj28 l1 a2 l3 a4 t134 t135 bt142.1 bt146.1 bt146.2 true))) else (laws_FnCoversFoundOfAll.j6 kj28 l1 a2 l3 a4 t134 t135 bt142.1 bt146.1 bt146.2 true))))))))) = some true := H
                      have A74 := Aside0.mk A740
                      clear A740
                      replace H := Option.bind_eq_some_iff.mp H
                      obtain ⟨⟨t138, t139⟩, A750, H⟩ := H
                      replace H : ((impl_CountCovers.f kj28 l1 a2).bind fun bt142 => ((spec_CountCovers.f kj28 l1 a2).bind fun bt144 => ((impl_IsCover.f kj28 l3 a4).bind fun bt146 => ((spec_IsCover.f kj28 l3 a4).bind fun bt148 => (if (t135 != t139) = true then (laws_FnCoversFoundOfAll.j6 kj28 l1 a2 l3 a4 t134 t135 bt142.1 bt146.1 bt146.2 true) else ((laws_tRules.f kj28 t134 t138).bind fun t150 => (if t150 = true then (if (bt142.2 != bt144.2) = true then (laws_FnCoversFoundOfAll.j6 kj28 l1 a2 l3 a4 t134 t135 bt142.1 bt146.1 bt146.2 true) else (if bt142.1 = bt144.1 then (if (bt146.2 != bt148.2) = true then (laws_FnCoversFoundOfAll.j6 kj28 l1 a2 l3 a4 t134 t135 bt142.1 bt146.1 bt146.2 true) else (if (bt146.1 != bt148.1) = true then (laws_FnCoversFoundOfAll.j6 kj28 l1 a2 l3 a4 t134 t135 bt142.1 bt146.1 bt146.2 true) else (if bt142.2 = true then (laws_FnCoversFoundOfAll.j6 kj28 l1 a2 l3 a4 t134 t135 bt142.1 bt146.1 bt146.2 (t135 != (decide (bt142.1 > 0)))) else (laws_FnCoversFoundOfAll.j6 kj28 l1 a2 l3 a4 t134 t135 bt142.1 bt146.1 bt146.2 (t135 != false))))) else (laws_FnCoversFoundOfAll.j6 kj28 l1 a2 l3 a4 t134 t135 bt142.1 bt146.1 bt146.2 true))) else (laws_FnCoversFoundOfAll.j6 kj28 l1 a2 l3 a4 t134 t135 bt142.1 bt146.1 bt146.2 true)))))))) = some true := H
                      have A75 := Aside0.mk A750
                      clear A750
                      replace H := Option.bind_eq_some_iff.mp H
                      obtain ⟨⟨t142, t143⟩, A760, H⟩ := H
                      replace H : ((spec_CountCovers.f kj28 l1 a2).bind fun bt144 => ((impl_IsCover.f kj28 l3 a4).bind fun bt146 => ((spec_IsCover.f kj28 l3 a4).bind fun bt148 => (if (t135 != t139) = true then (laws_FnCoversFoundOfAll.j6 kj28 l1 a2 l3 a4 t134 t135 t142 bt146.1 bt146.2 true) else ((laws_tRules.f kj28 t134 t138).bind fun t150 => (if t150 = true then (if (t143 != bt144.2) = true then (laws_FnCoversFoundOfAll.j6 kj28 l1 a2 l3 a4 t134 t135 t142 bt146.1 bt146.2 true) else (if t142 = bt144.1 then (if (bt146.2 != bt148.2) = true then (laws_FnCoversFoundOfAll.j6 kj28 l1 a2 l3 a4 t134 t135 t142 bt146.1 bt146.2 true) else (if (bt146.1 != bt148.1) = true then (laws_FnCoversFoundOfAll.j6 kj28 l1 a2 l3 a4 t134 t135 t142 bt146.1 bt146.2 true) else (if t143 = true then (laws_FnCoversFoundOfAll.j6 kj28 l1 a2 l3 a4 t134 t135 t142 bt146.1 bt146.2 (t135 != (decide (t142 > 0)))) else (laws_FnCoversFoundOfAll.j6 kj28 l1 a2 l3 a4 t134 t135 t142 bt146.1 bt146.2 (t135 != false))))) else (laws_FnCoversFoundOfAll.j6 kj28 l1 a2 l3 a4 t134 t135 t142 bt146.1 bt146.2 true))) else (laws_FnCoversFoundOfAll.j6 kj28 l1 a2 l3 a4 t134 t135 t142 bt146.1 bt146.2 true))))))) = some true := H
                      have A76 := Aside0.mk A760
                      clear A760
                      replace H := Option.bind_eq_some_iff.mp H
                      obtain ⟨⟨t144, t145⟩, A770, H⟩ := H
                      replace H : ((impl_IsCover.f kj28 l3 a4).bind fun bt146 => ((spec_IsCover.f kj28 l3 a4).bind fun bt148 => (if (t135 != t139) = true then (laws_FnCoversFoundOfAll.j6 kj28 l1 a2 l3 a4 t134 t135 t142 bt146.1 bt146.2 true) else ((laws_tRules.f kj28 t134 t138).bind fun t150 => (if t150 = true then (if (t143 != t145) = true then (laws_FnCoversFoundOfAll.j6 kj28 l1 a2 l3 a4 t134 t135 t142 bt146.1 bt146.2 true) else (if t142 = t144 then (if (bt146.2 != bt148.2) = true then (laws_FnCoversFoundOfAll.j6 kj28 l1 a2 l3 a4 t134 t135 t142 bt146.1 bt146.2 true) else (if (bt146.1 != bt148.1) = true then (laws_FnCoversFoundOfAll.j6 kj28 l1 a2 l3 a4 t134 t135 t142 bt146.1 bt146.2 true) else (if t143 = true then (laws_FnCoversFoundOfAll.j6 kj28 l1 a2 l3 a4 t134 t135 t142 bt146.1 bt146.2 (t135 != (decide (t142 > 0)))) else (laws_FnCoversFoundOfAll.j6 kj28 l1 a2 l3 a4 t134 t135 t142 bt146.1 bt146.2 (t135 != false))))) else (laws_FnCoversFoundOfAll.j6 kj28 l1 a2 l3 a4 t134 t135 t142 bt146.1 bt146.2 true))) else (laws_FnCoversFoundOfAll.j6 kj28 l1 a2 l3 a4 t134 t135 t142 bt146.1 bt146.2 true)))))) = some true := H
                      have A77 := Aside0.mk A770
                      clear A770
                      replace H := Option.bind_eq_some_iff.mp H
                      obtain ⟨⟨t146, t147⟩, A780, H⟩ := H
                      replace H : ((spec_IsCover.f kj28 l3 a4).bind fun bt148 => (if (t135 != t139) = true then (laws_FnCoversFoundOfAll.j6 kj28 l1 a2 l3 a4 t134 t135 t142 t146 t147 true) else ((laws_tRules.f kj28 t134 t138).bind fun t150 => (if t150 = true then (if (t143 != t145) = true then (laws_FnCoversFoundOfAll.j6 kj28 l1 a2 l3 a4 t134 t135 t142 t146 t147 true) else (if t142 = t144 then (if (t147 != bt148.2) = true then (laws_FnCoversFoundOfAll.j6 kj28 l1 a2 l3 a4 t134 t135 t142 t146 t147 true) else (if (t146 != bt148.1) = true then (laws_FnCoversFoundOfAll.j6 kj28 l1 a2 l3 a4 t134 t135 t142 t146 t147 true) else (if t143 = true then (laws_FnCoversFoundOfAll.j6 kj28 l1 a2 l3 a4 t134 t135 t142 t146 t147 (t135 != (decide (t142 > 0)))) else (laws_FnCoversFoundOfAll.j6 kj28 l1 a2 l3 a4 t134 t135 t142 t146 t147 (t135 != false))))) else (laws_FnCoversFoundOfAll.j6 kj28 l1 a2 l3 a4 t134 t135 t142 t146 t147 true))) else (laws_FnCoversFoundOfAll.j6 kj28 l1 a2 l3 a4 t134 t135 t142 t146 t147 true))))) = some true := H
                      have A78 := Aside0.mk A780
                      clear A780
                      replace H := Option.bind_eq_some_iff.mp H
                      obtain ⟨⟨t148, t149⟩, A790, H⟩ := H
                      replace H : (if (t135 != t139) = true then (laws_FnCoversFoundOfAll.j6 kj28 l1 a2 l3 a4 t134 t135 t142 t146 t147 true) else ((laws_tRules.f kj28 t134 t138).bind fun t150 => (if t150 = true then (if (t143 != t145) = true then (laws_FnCoversFoundOfAll.j6 kj28 l1 a2 l3 a4 t134 t135 t142 t146 t147 true) else (if t142 = t144 then (if (t147 != t149) = true then (laws_FnCoversFoundOfAll.j6 kj28 l1 a2 l3 a4 t134 t135 t142 t146 t147 true) else (if (t146 != t148) = true then (laws_FnCoversFoundOfAll.j6 kj28 l1 a2 l3 a4 t134 t135 t142 t146 t147 true) else (if t143 = true then (laws_FnCoversFoundOfAll.j6 kj28 l1 a2 l3 a4 t134 t135 t142 t146 t147 (t135 != (decide (t142 > 0)))) else (laws_FnCoversFoundOfAll.j6 kj28 l1 a2 l3 a4 t134 t135 t142 t146 t147 (t135 != false))))) else (laws_FnCoversFoundOfAll.j6 kj28 l1 a2 l3 a4 t134 t135 t142 t146 t147 true))) else (laws_FnCoversFoundOfAll.j6 kj28 l1 a2 l3 a4 t134 t135 t142 t146 t147 true)))) = some true := H
                      have A79 := Aside0.mk A790
                      clear A790
                      have HC80 := Aside0.mk H
                      clear H
                      go_upto_region 34 with (first | (go_at_call 15; (with_reducible refine (impl_FirstCover.calls kj28 _ _ l1 a2 t134 t135 _ ?side1 ?side2 A74.out).mono ?_); (case side1 => repeat (first | exact (Kd.C_below HR1.out HB.out) | (with_reducible refine Kd.C_alloc ?_ _) | (with_reducible refine Kd.C_drewN ?_ _) | (with_reducible refine Kd.C_drew ?_))); (case side2 => exact HC1.out); rintro e w81 ⟨v136, rfl, ho0, hb⟩; have n0_ := Aside0.mk (Kd.R_lower ho0 (below_size (by repeat (first | (with_reducible first | exact HB.out | apply below_alloc | apply pw_below_drewN | apply below_drew1) | exact HB.out)))); have n1_ := Aside0.mk (below_step (by repeat (first | (with_reducible first | exact HB.out | apply below_alloc | apply pw_below_drewN | apply below_drew1) | exact HB.out)) hb); clear HB; have HO137 := n0_; have HB := n1_; clear n0_ n1_; (try clear hb); (try clear hb2); (try clear hk); (try clear hi); (try clear ho0)) | (go_at_call 14; (with_reducible refine (spec_FirstCover.calls kj28 _ _ l1 a2 t138 t139 _ ?side1 ?side2 A75.out).mono ?_); (case side1 => repeat (first | exact (Kd.C_below HR1.out HB.out) | (with_reducible refine Kd.C_alloc ?_ _) | (with_reducible refine Kd.C_drewN ?_ _) | (with_reducible refine Kd.C_drew ?_))); (case side2 => exact HC1.out); rintro e w82 ⟨v140, rfl, ho0, hb⟩; have n0_ := Aside0.mk (Kd.R_elder' (by (with_reducible repeat (first | apply Kd.R_alloc | apply Kd.R_drewN | apply Kd.R_drew)); exact HO137.out) (Kd.R_base ho0) hb); have n1_ := Aside0.mk (Kd.R_lower (Kd.R_new' ho0 (Kd.R_lt (by (with_reducible repeat (first | apply Kd.R_alloc | apply Kd.R_drewN | apply Kd.R_drew)); exact HO137.out))) (below_size (by repeat (first | (with_reducible first | exact HB.out | apply below_alloc | apply pw_below_drewN | apply below_drew1) | exact HB.out)))); have n2_ := Aside0.mk (below_step (by repeat (first | (with_reducible first | exact HB.out | apply below_alloc | apply pw_below_drewN | apply below_drew1) | exact HB.out)) hb); clear HO137; clear HB; have HO137 := n0_; have HO141 := n1_; have HB := n2_; clear n0_ n1_ n2_; (try clear hb); (try clear hb2); (try clear hk); (try clear hi); (try clear ho0)) | (go_at_call 10; (with_reducible refine (impl_CountCovers.calls kj28 _ _ l1 a2 t142 t143 _ ?side1 ?side2 A76.out).mono ?_); (case side1 => repeat (first | exact (Kd.C_below HR1.out HB.out) | (with_reducible refine Kd.C_alloc ?_ _) | (with_reducible refine Kd.C_drewN ?_ _) | (with_reducible refine Kd.C_drew ?_))); (case side2 => exact HC1.out); rintro e w83 ⟨rfl, hb⟩; have n0_ := Aside0.mk (Kd.R_below (by (with_reducible repeat (first | apply Kd.R_alloc | apply Kd.R_drewN | apply Kd.R_drew)); exact HO137.out) hb); have n1_ := Aside0.mk (Kd.R_below (by (with_reducible repeat (first | apply Kd.R_alloc | apply Kd.R_drewN | apply Kd.R_drew)); exact HO141.out) hb); have n2_ := Aside0.mk (below_step (by repeat (first | (with_reducible first | exact HB.out | apply below_alloc | apply pw_below_drewN | apply below_drew1) | exact HB.out)) hb); clear HO137; clear HO141; clear HB; have HO137 := n0_; have HO141 := n1_; have HB := n2_; clear n0_ n1_ n2_; (try clear hb); (try clear hb2); (try clear hk); (try clear hi)) | (go_at_call 8; (with_reducible refine (spec_CountCovers.calls kj28 _ _ l1 a2 t144 t145 _ ?side1 ?side2 A77.out).mono ?_); (case side1 => repeat (first | exact (Kd.C_below HR1.out HB.out) | (with_reducible refine Kd.C_alloc ?_ _) | (with_reducible refine Kd.C_drewN ?_ _) | (with_reducible refine Kd.C_drew ?_))); (case side2 => exact HC1.out); rintro e w84 ⟨rfl, hb⟩; have n0_ := Aside0.mk (Kd.R_below (by (with_reducible repeat (first | apply Kd.R_alloc | apply Kd.R_drewN | apply Kd.R_drew)); exact HO137.out) hb); have n1_ := Aside0.mk (Kd.R_below (by (with_reducible repeat (first | apply Kd.R_alloc | apply Kd.R_drewN | apply Kd.R_drew)); exact HO141.out) hb); have n2_ := Aside0.mk (below_step (by repeat (first | (with_reducible first | exact HB.out | apply below_alloc | apply pw_below_drewN | apply below_drew1) | exact HB.out)) hb); clear HO137; clear HO141; clear HB; have HO137 := n0_; have HO141 := n1_; have HB := n2_; clear n0_ n1_ n2_; (try clear hb); (try clear hb2); (try clear hk); (try clear hi)) | (go_at_call 23; (with_reducible refine (impl_IsCover.calls kj28 _ _ l3 a4 t146 t147 _ ?side1 ?side2 A78.out).mono ?_); (case side1 => repeat (first | exact (Kd.C_below HR3.out HB.out) | (with_reducible refine Kd.C_alloc ?_ _) | (with_reducible refine Kd.C_drewN ?_ _) | (with_reducible refine Kd.C_drew ?_))); (case side2 => exact HC3.out); rintro e w85 ⟨rfl, hb⟩; have n0_ := Aside0.mk (Kd.R_below (by (with_reducible repeat (first | apply Kd.R_alloc | apply Kd.R_drewN | apply Kd.R_drew)); exact HO137.out) hb); have n1_ := Aside0.mk (Kd.R_below (by (with_reducible repeat (first | apply Kd.R_alloc | apply Kd.R_drewN | apply Kd.R_drew)); exact HO141.out) hb); have n2_ := Aside0.mk (below_step (by repeat (first | (with_reducible first | exact HB.out | apply below_alloc | apply pw_below_drewN | apply below_drew1) | exact HB.out)) hb); clear HO137; clear HO141; clear HB; have HO137 := n0_; have HO141 := n1_; have HB := n2_; clear n0_ n1_ n2_; (try clear hb); (try clear hb2); (try clear hk); (try clear hi)) | (go_at_call 25; (with_reducible refine (spec_IsCover.calls kj28 _ _ l3 a4 t148 t149 _ ?side1 ?side2 A79.out).mono ?_); (case side1 => repeat (first | exact (Kd.C_below HR3.out HB.out) | (with_reducible refine Kd.C_alloc ?_ _) | (with_reducible refine Kd.C_drewN ?_ _) | (with_reducible refine Kd.C_drew ?_))); (case side2 => exact HC3.out); rintro e w86 ⟨rfl, hb⟩; have n0_ := Aside0.mk (Kd.R_below (by (with_reducible repeat (first | apply Kd.R_alloc | apply Kd.R_drewN | apply Kd.R_drew)); exact HO137.out) hb); have n1_ := Aside0.mk (Kd.R_below (by (with_reducible repeat (first | apply Kd.R_alloc | apply Kd.R_drewN | apply Kd.R_drew)); exact HO141.out) hb); have n2_ := Aside0.mk (below_step (by repeat (first | (with_reducible first | exact HB.out | apply below_alloc | apply pw_below_drewN | apply below_drew1) | exact HB.out)) hb); clear HO137; clear HO141; clear HB; have HO137 := n0_; have HO141 := n1_; have HB := n2_; clear n0_ n1_ n2_; (try clear hb); (try clear hb2); (try clear hk); (try clear hi)))
                      repeat (go_quiet (first | (go_at_call 15; (with_reducible refine (impl_FirstCover.calls kj28 _ _ l1 a2 t134 t135 _ ?side1 ?side2 A74.out).mono ?_); (case side1 => repeat (first | exact (Kd.C_below HR1.out HB.out) | (with_reducible refine Kd.C_alloc ?_ _) | (with_reducible refine Kd.C_drewN ?_ _) | (with_reducible refine Kd.C_drew ?_))); (case side2 => exact HC1.out); rintro e w81 ⟨v136, rfl, ho0, hb⟩; have n0_ := Aside0.mk (Kd.R_lower ho0 (below_size (by repeat (first | (with_reducible first | exact HB.out | apply below_alloc | apply pw_below_drewN | apply below_drew1) | exact HB.out)))); have n1_ := Aside0.mk (below_step (by repeat (first | (with_reducible first | exact HB.out | apply below_alloc | apply pw_below_drewN | apply below_drew1) | exact HB.out)) hb); clear HB; have HO137 := n0_; have HB := n1_; clear n0_ n1_; (try clear hb); (try clear hb2); (try clear hk); (try clear hi); (try clear ho0)) | (go_at_call 14; (with_reducible refine (spec_FirstCover.calls kj28 _ _ l1 a2 t138 t139 _ ?side1 ?side2 A75.out).mono ?_); (case side1 => repeat (first | exact (Kd.C_below HR1.out HB.out) | (with_reducible refine Kd.C_alloc ?_ _) | (with_reducible refine Kd.C_drewN ?_ _) | (with_reducible refine Kd.C_drew ?_))); (case side2 => exact HC1.out); rintro e w82 ⟨v140, rfl, ho0, hb⟩; have n0_ := Aside0.mk (Kd.R_elder' (by (with_reducible repeat (first | apply Kd.R_alloc | apply Kd.R_drewN | apply Kd.R_drew)); exact HO137.out) (Kd.R_base ho0) hb); have n1_ := Aside0.mk (Kd.R_lower (Kd.R_new' ho0 (Kd.R_lt (by (with_reducible repeat (first | apply Kd.R_alloc | apply Kd.R_drewN | apply Kd.R_drew)); exact HO137.out))) (below_size (by repeat (first | (with_reducible first | exact HB.out | apply below_alloc | apply pw_below_drewN | apply below_drew1) | exact HB.out)))); have n2_ := Aside0.mk (below_step (by repeat (first | (with_reducible first | exact HB.out | apply below_alloc | apply pw_below_drewN | apply below_drew1) | exact HB.out)) hb); clear HO137; clear HB; have HO137 := n0_; have HO141 := n1_; have HB := n2_; clear n0_ n1_ n2_; (try clear hb); (try clear hb2); (try clear hk); (try clear hi); (try clear ho0)) | (go_at_call 10; (with_reducible refine (impl_CountCovers.calls kj28 _ _ l1 a2 t142 t143 _ ?side1 ?side2 A76.out).mono ?_); (case side1 => repeat (first | exact (Kd.C_below HR1.out HB.out) | (with_reducible refine Kd.C_alloc ?_ _) | (with_reducible refine Kd.C_drewN ?_ _) | (with_reducible refine Kd.C_drew ?_))); (case side2 => exact HC1.out); rintro e w83 ⟨rfl, hb⟩; have n0_ := Aside0.mk (Kd.R_below (by (with_reducible repeat (first | apply Kd.R_alloc | apply Kd.R_drewN | apply Kd.R_drew)); exact HO137.out) hb); have n1_ := Aside0.mk (Kd.R_below (by (with_reducible repeat (first | apply Kd.R_alloc | apply Kd.R_drewN | apply Kd.R_drew)); exact HO141.out) hb); have n2_ := Aside0.mk (below_step (by repeat (first | (with_reducible first | exact HB.out | apply below_alloc | apply pw_below_drewN | apply below_drew1) | exact HB.out)) hb); clear HO137; clear HO141; clear HB; have HO137 := n0_; have HO141 := n1_; have HB := n2_; clear n0_ n1_ n2_; (try clear hb); (try clear hb2); (try clear hk); (try clear hi)) | (go_at_call 8; (with_reducible refine (spec_CountCovers.calls kj28 _ _ l1 a2 t144 t145 _ ?side1 ?side2 A77.out).mono ?_); (case side1 => repeat (first | exact (Kd.C_below HR1.out HB.out) | (with_reducible refine Kd.C_alloc ?_ _) | (with_reducible refine Kd.C_drewN ?_ _) | (with_reducible refine Kd.C_drew ?_))); (case side2 => exact HC1.out); rintro e w84 ⟨rfl, hb⟩; have n0_ := Aside0.mk (Kd.R_below (by (with_reducible repeat (first | apply Kd.R_alloc | apply Kd.R_drewN | apply Kd.R_drew)); exact HO137.out) hb); have n1_ := Aside0.mk (Kd.R_below (by (with_reducible repeat (first | apply Kd.R_alloc | apply Kd.R_drewN | apply Kd.R_drew)); exact HO141.out) hb); have n2_ := Aside0.mk (below_step (by repeat (first | (with_reducible first | exact HB.out | apply below_alloc | apply pw_below_drewN | apply below_drew1) | exact HB.out)) hb); clear HO137; clear HO141; clear HB; have HO137 := n0_; have HO141 := n1_; have HB := n2_; clear n0_ n1_ n2_; (try clear hb); (try clear hb2); (try clear hk); (try clear hi)) | (go_at_call 23; (with_reducible refine (impl_IsCover.calls kj28 _ _ l3 a4 t146 t147 _ ?side1 ?side2 A78.out).mono ?_); (case side1 => repeat (first | exact (Kd.C_below HR3.out HB.out) | (with_reducible refine Kd.C_alloc ?_ _) | (with_reducible refine Kd.C_drewN ?_ _) | (with_reducible refine Kd.C_drew ?_))); (case side2 => exact HC3.out); rintro e w85 ⟨rfl, hb⟩; have n0_ := Aside0.mk (Kd.R_below (by (with_reducible repeat (first | apply Kd.R_alloc | apply Kd.R_drewN | apply Kd.R_drew)); exact HO137.out) hb); have n1_ := Aside0.mk (Kd.R_below (by (with_reducible repeat (first | apply Kd.R_alloc | apply Kd.R_drewN | apply Kd.R_drew)); exact HO141.out) hb); have n2_ := Aside0.mk (below_step (by repeat (first | (with_reducible first | exact HB.out | apply below_alloc | apply pw_below_drewN | apply below_drew1) | exact HB.out)) hb); clear HO137; clear HO141; clear HB; have HO137 := n0_; have HO141 := n1_; have HB := n2_; clear n0_ n1_ n2_; (try clear hb); (try clear hb2); (try clear hk); (try clear hi)) | (go_at_call 25; (with_reducible refine (spec_IsCover.calls kj28 _ _ l3 a4 t148 t149 _ ?side1 ?side2 A79.out).mono ?_); (case side1 => repeat (first | exact (Kd.C_below HR3.out HB.out) | (with_reducible refine Kd.C_alloc ?_ _) | (with_reducible refine Kd.C_drewN ?_ _) | (with_reducible refine Kd.C_drew ?_))); (case side2 => exact HC3.out); rintro e w86 ⟨rfl, hb⟩; have n0_ := Aside0.mk (Kd.R_below (by (with_reducible repeat (first | apply Kd.R_alloc | apply Kd.R_drewN | apply Kd.R_drew)); exact HO137.out) hb); have n1_ := Aside0.mk (Kd.R_below (by (with_reducible repeat (first | apply Kd.R_alloc | apply Kd.R_drewN | apply Kd.R_drew)); exact HO141.out) hb); have n2_ := Aside0.mk (below_step (by repeat (first | (with_reducible first | exact HB.out | apply below_alloc | apply pw_below_drewN | apply below_drew1) | exact HB.out)) hb); clear HO137; clear HO141; clear HB; have HO137 := n0_; have HO141 := n1_; have HB := n2_; clear n0_ n1_ n2_; (try clear hb); (try clear hb2); (try clear hk); (try clear hi))); go_upto_region 34 with (first | (go_at_call 15; (with_reducible refine (impl_FirstCover.calls kj28 _ _ l1 a2 t134 t135 _ ?side1 ?side2 A74.out).mono ?_); (case side1 => repeat (first | exact (Kd.C_below HR1.out HB.out) | (with_reducible refine Kd.C_alloc ?_ _) | (with_reducible refine Kd.C_drewN ?_ _) | (with_reducible refine Kd.C_drew ?_))); (case side2 => exact HC1.out); rintro e w81 ⟨v136, rfl, ho0, hb⟩; have n0_ := Aside0.mk (Kd.R_lower ho0 (below_size (by repeat (first | (with_reducible first | exact HB.out | apply below_alloc | apply pw_below_drewN | apply below_drew1) | exact HB.out)))); have n1_ := Aside0.mk (below_step (by repeat (first | (with_reducible first | exact HB.out | apply below_alloc | apply pw_below_drewN | apply below_drew1) | exact HB.out)) hb); clear HB; have HO137 := n0_; have HB := n1_; clear n0_ n1_; (try clear hb); (try clear hb2); (try clear hk); (try clear hi); (try clear ho0)) | (go_at_call 14; (with_reducible refine (spec_FirstCover.calls kj28 _ _ l1 a2 t138 t139 _ ?side1 ?side2 A75.out).mono ?_); (case side1 => repeat (first | exact (Kd.C_below HR1.out HB.out) | (with_reducible refine Kd.C_alloc ?_ _) | (with_reducible refine Kd.C_drewN ?_ _) | (with_reducible refine Kd.C_drew ?_))); (case side2 => exact HC1.out); rintro e w82 ⟨v140, rfl, ho0, hb⟩; have n0_ := Aside0.mk (Kd.R_elder' (by (with_reducible repeat (first | apply Kd.R_alloc | apply Kd.R_drewN | apply Kd.R_drew)); exact HO137.out) (Kd.R_base ho0) hb); have n1_ := Aside0.mk (Kd.R_lower (Kd.R_new' ho0 (Kd.R_lt (by (with_reducible repeat (first | apply Kd.R_alloc | apply Kd.R_drewN | apply Kd.R_drew)); exact HO137.out))) (below_size (by repeat (first | (with_reducible first | exact HB.out | apply below_alloc | apply pw_below_drewN | apply below_drew1) | exact HB.out)))); have n2_ := Aside0.mk (below_step (by repeat (first | (with_reducible first | exact HB.out | apply below_alloc | apply pw_below_drewN | apply below_drew1) | exact HB.out)) hb); clear HO137; clear HB; have HO137 := n0_; have HO141 := n1_; have HB := n2_; clear n0_ n1_ n2_; (try clear hb); (try clear hb2); (try clear hk); (try clear hi); (try clear ho0)) | (go_at_call 10; (with_reducible refine (impl_CountCovers.calls kj28 _ _ l1 a2 t142 t143 _ ?side1 ?side2 A76.out).mono ?_); (case side1 => repeat (first | exact (Kd.C_below HR1.out HB.out) | (with_reducible refine Kd.C_alloc ?_ _) | (with_reducible refine Kd.C_drewN ?_ _) | (with_reducible refine Kd.C_drew ?_))); (case side2 => exact HC1.out); rintro e w83 ⟨rfl, hb⟩; have n0_ := Aside0.mk (Kd.R_below (by (with_reducible repeat (first | apply Kd.R_alloc | apply Kd.R_drewN | apply Kd.R_drew)); exact HO137.out) hb); have n1_ := Aside0.mk (Kd.R_below (by (with_reducible repeat (first | apply Kd.R_alloc | apply Kd.R_drewN | apply Kd.R_drew)); exact HO141.out) hb); have n2_ := Aside0.mk (below_step (by repeat (first | (with_reducible first | exact HB.out | apply below_alloc | apply pw_below_drewN | apply below_drew1) | exact HB.out)) hb); clear HO137; clear HO141; clear HB; have HO137 := n0_; have HO141 := n1_; have HB := n2_; clear n0_ n1_ n2_; (try clear hb); (try clear hb2); (try clear hk); (try clear hi)) | (go_at_call 8; (with_reducible refine (spec_CountCovers.calls kj28 _ _ l1 a2 t144 t145 _ ?side1 ?side2 A77.out).mono ?_); (case side1 => repeat (first | exact (Kd.C_below HR1.out HB.out) | (with_reducible refine Kd.C_alloc ?_ _) | (with_reducible refine Kd.C_drewN ?_ _) | (with_reducible refine Kd.C_drew ?_))); (case side2 => exact HC1.out); rintro e w84 ⟨rfl, hb⟩; have n0_ := Aside0.mk (Kd.R_below (by (with_reducible repeat (first | apply Kd.R_alloc | apply Kd.R_drewN | apply Kd.R_drew)); exact HO137.out) hb); have n1_ := Aside0.mk (Kd.R_below (by (with_reducible repeat (first | apply Kd.R_alloc | apply Kd.R_drewN | apply Kd.R_drew)); exact HO141.out) hb); have n2_ := Aside0.mk (below_step (by repeat (first | (with_reducible first | exact HB.out | apply below_alloc | apply pw_below_drewN | apply below_drew1) | exact HB.out)) hb); clear HO137; clear HO141; clear HB; have HO137 := n0_; have HO141 := n1_; have HB := n2_; clear n0_ n1_ n2_; (try clear hb); (try clear hb2); (try clear hk); (try clear hi)) | (go_at_call 23; (with_reducible refine (impl_IsCover.calls kj28 _ _ l3 a4 t146 t147 _ ?side1 ?side2 A78.out).mono ?_); (case side1 => repeat (first | exact (Kd.C_below HR3.out HB.out) | (with_reducible refine Kd.C_alloc ?_ _) | (with_reducible refine Kd.C_drewN ?_ _) | (with_reducible refine Kd.C_drew ?_))); (case side2 => exact HC3.out); rintro e w85 ⟨rfl, hb⟩; have n0_ := Aside0.mk (Kd.R_below (by (with_reducible repeat (first | apply Kd.R_alloc | apply Kd.R_drewN | apply Kd.R_drew)); exact HO137.out) hb); have n1_ := Aside0.mk (Kd.R_below (by (with_reducible repeat (first | apply Kd.R_alloc | apply Kd.R_drewN | apply Kd.R_drew)); exact HO141.out) hb); have n2_ := Aside0.mk (below_step (by repeat (first | (with_reducible first | exact HB.out | apply below_alloc | apply pw_below_drewN | apply below_drew1) | exact HB.out)) hb); clear HO137; clear HO141; clear HB; have HO137 := n0_; have HO141 := n1_; have HB := n2_; clear n0_ n1_ n2_; (try clear hb); (try clear hb2); (try clear hk); (try clear hi)) | (go_at_call 25; (with_reducible refine (spec_IsCover.calls kj28 _ _ l3 a4 t148 t149 _ ?side1 ?side2 A79.out).mono ?_); (case side1 => repeat (first | exact (Kd.C_below HR3.out HB.out) | (with_reducible refine Kd.C_alloc ?_ _) | (with_reducible refine Kd.C_drewN ?_ _) | (with_reducible refine Kd.C_drew ?_))); (case side2 => exact HC3.out); rintro e w86 ⟨rfl, hb⟩; have n0_ := Aside0.mk (Kd.R_below (by (with_reducible repeat (first | apply Kd.R_alloc | apply Kd.R_drewN | apply Kd.R_drew)); exact HO137.out) hb); have n1_ := Aside0.mk (Kd.R_below (by (with_reducible repeat (first | apply Kd.R_alloc | apply Kd.R_drewN | apply Kd.R_drew)); exact HO141.out) hb); have n2_ := Aside0.mk (below_step (by repeat (first | (with_reducible first | exact HB.out | apply below_alloc | apply pw_below_drewN | apply below_drew1) | exact HB.out)) hb); clear HO137; clear HO141; clear HB; have HO137 := n0_; have HO141 := n1_; have HB := n2_; clear n0_ n1_ n2_; (try clear hb); (try clear hb2); (try clear hk); (try clear hi))))
                      (try simp only [Act.put, List.setIfInBounds_toArray, List.set_cons_zero, List.set_cons_succ])
                      go_cut [289] from 216 to 251 (fun v289 wc => ∃ (kq : Nat) (x289_79 : Bool), v289 = .bool x289_79 ∧ Aside0 (laws_FnCoversFoundOfAll.j6 kq l1 a2 l3 a4 t134 t135 t142 t146 t147 x289_79 = some true) ∧ Aside0 (kq ≤ kj28) ∧ Aside0 (Kd.R kRule 41 wc w.heap.size (fun _ => True) v136 t134) ∧ Aside0 (Below w.heap.size w wc))
                      case first =>
                        have H := HC80.out
                        clear HC80
                        by_cases c87 : (t135 != t139) = true
                        · rw [if_pos c87] at H
                          have c87b0 : (t135 != t139) = true := c87
                          (try (have c87b1 : decide (t135 = t139) = false := by simpa using c87))
                          (try (have c87b2 : (t135 == t139) = false := by simpa using c87))
                          (try (have c87b3 : ¬ (t135 = t139) := by simpa using c87))
                          clear c87
                          (first | rw [c87b0] | rw [c87b1] | (simp only [i64_w, i32_w]; rw [c87b0]) | skip)
                          have H' := Aside0.mk H
                          clear H
                          go_wp2
                          repeat (go_quiet (fail); try go_wp2)
                          go_meet
                          case rel => exact ⟨_, (true), (by first | rfl | (simp; done) | (simp [*]; done)), H', ⟨by have := HJ5.out; have := HJ13.out; have := HJ28.out; first | omega | exact Nat.le_refl _⟩, ⟨by (with_reducible repeat (first | apply Kd.R_alloc | apply Kd.R_drewN | apply Kd.R_drew)); exact Kd.R_mono HO137.out (fun _ hk => trivial)⟩, ⟨by repeat (first | (with_reducible first | exact HB.out | apply below_alloc | apply pw_below_drewN | apply below_drew1) | exact HB.out)⟩⟩
                        · rw [if_neg c87] at H
                          have c87b0 : (t135 != t139) = false := by simpa using c87
                          (try (have c87b1 : decide (t135 = t139) = true := by simpa using c87))
                          (try (have c87b2 : (t135 == t139) = true := by simpa using c87))
                          clear c87
                          (first | rw [c87b0] | rw [c87b1] | (simp only [i64_w, i32_w]; rw [c87b0]) | skip)
                          replace H := Option.bind_eq_some_iff.mp H
                          obtain ⟨t150, A880, H⟩ := H
                          replace H : (if t150 = true then (if (t143 != t145) = true then (laws_FnCoversFoundOfAll.j6 kj28 l1 a2 l3 a4 t134 t135 t142 t146 t147 true) else (if t142 = t144 then (if (t147 != t149) = true then (laws_FnCoversFoundOfAll.j6 kj28 l1 a2 l3 a4 t134 t135 t142 t146 t147 true) else (if (t146 != t148) = true then (laws_FnCoversFoundOfAll.j6 kj28 l1 a2 l3 a4 t134 t135 t142 t146 t147 true) else (if t143 = true then (laws_FnCoversFoundOfAll.j6 kj28 l1 a2 l3 a4 t134 t135 t142 t146 t147 (t135 != (decide (t142 > 0)))) else (laws_FnCoversFoundOfAll.j6 kj28 l1 a2 l3 a4 t134 t135 t142 t146 t147 (t135 != false))))) else (laws_FnCoversFoundOfAll.j6 kj28 l1 a2 l3 a4 t134 t135 t142 t146 t147 true))) else (laws_FnCoversFoundOfAll.j6 kj28 l1 a2 l3 a4 t134 t135 t142 t146 t147 true)) = some true := H
                          have A88 := Aside0.mk A880
                          clear A880
                          by_cases c89 : t150 = true
                          · subst c89
                            have H1 : (if (t143 != t145) = true then (laws_FnCoversFoundOfAll.j6 kj28 l1 a2 l3 a4 t134 t135 t142 t146 t147 true) else (if t142 = t144 then (if (t147 != t149) = true then (laws_FnCoversFoundOfAll.j6 kj28 l1 a2 l3 a4 t134 t135 t142 t146 t147 true) else (if (t146 != t148) = true then (laws_FnCoversFoundOfAll.j6 kj28 l1 a2 l3 a4 t134 t135 t142 t146 t147 true) else (if t143 = true then (laws_FnCoversFoundOfAll.j6 kj28 l1 a2 l3 a4 t134 t135 t142 t146 t147 (t135 != (decide (t142 > 0)))) else (laws_FnCoversFoundOfAll.j6 kj28 l1 a2 l3 a4 t134 t135 t142 t146 t147 (t135 != false))))) else (laws_FnCoversFoundOfAll.j6 kj28 l1 a2 l3 a4 t134 t135 t142 t146 t147 true))) = some true := by rw [if_pos rfl] at H; exact H
                            clear H
                            have H := H1
                            clear H1
                            by_cases c90 : (t143 != t145) = true
                            · rw [if_pos c90] at H
                              have c90b0 : (t143 != t145) = true := c90
                              (try (have c90b1 : decide (t143 = t145) = false := by simpa using c90))
                              (try (have c90b2 : (t143 == t145) = false := by simpa using c90))
                              (try (have c90b3 : ¬ (t143 = t145) := by simpa using c90))
                              clear c90
                              have H' := Aside0.mk H
                              clear H
                              obtain ⟨Ao91, co91, eo91⟩ := Kd.R_slice HO137.out
                              subst eo91
                              obtain ⟨Ao92, co92, eo92⟩ := Kd.R_slice HO141.out
                              subst eo92
                              go_wp2_with (first | (go_at_call 22; (with_reducible refine (laws_tRules.calls kj28 _ _ t134 _ _ t138 true _ ?side1 ?side2 ?side3 ?side4 A88.out).mono ?_); (case side1 => repeat (first | exact (Kd.R_reads' HO137.out).2.2 | (with_reducible refine Kd.C_alloc ?_ _) | (with_reducible refine Kd.C_drewN ?_ _) | (with_reducible refine Kd.C_drew ?_))); (case side2 => exact (Kd.R_reads' HO137.out).2.1); (case side3 => repeat (first | exact (Kd.R_reads' HO141.out).2.2 | (with_reducible refine Kd.C_alloc ?_ _) | (with_reducible refine Kd.C_drewN ?_ _) | (with_reducible refine Kd.C_drew ?_))); (case side4 => exact (Kd.R_reads' HO141.out).2.1); rintro e w' ⟨rfl, ⟨nd, rfl⟩⟩; (try first | exact ⟨rfl, _, World.drewN_drewN _ _ _⟩ | exact ⟨rfl, _, Eq.trans (World.drewN_drewN _ _ _) (congrArg (World.drewN _) (Nat.add_assoc _ _ _))⟩)))
                              repeat (go_quiet (first | (go_at_call 22; (with_reducible refine (laws_tRules.calls kj28 _ _ t134 _ _ t138 true _ ?side1 ?side2 ?side3 ?side4 A88.out).mono ?_); (case side1 => repeat (first | exact (Kd.R_reads' HO137.out).2.2 | (with_reducible refine Kd.C_alloc ?_ _) | (with_reducible refine Kd.C_drewN ?_ _) | (with_reducible refine Kd.C_drew ?_))); (case side2 => exact (Kd.R_reads' HO137.out).2.1); (case side3 => repeat (first | exact (Kd.R_reads' HO141.out).2.2 | (with_reducible refine Kd.C_alloc ?_ _) | (with_reducible refine Kd.C_drewN ?_ _) | (with_reducible refine Kd.C_drew ?_))); (case side4 => exact (Kd.R_reads' HO141.out).2.1); rintro e w' ⟨rfl, ⟨nd, rfl⟩⟩; (try first | exact ⟨rfl, _, World.drewN_drewN _ _ _⟩ | exact ⟨rfl, _, Eq.trans (World.drewN_drewN _ _ _) (congrArg (World.drewN _) (Nat.add_assoc _ _ _))⟩))); try go_wp2_with (first | (go_at_call 22; (with_reducible refine (laws_tRules.calls kj28 _ _ t134 _ _ t138 true _ ?side1 ?side2 ?side3 ?side4 A88.out).mono ?_); (case side1 => repeat (first | exact (Kd.R_reads' HO137.out).2.2 | (with_reducible refine Kd.C_alloc ?_ _) | (with_reducible refine Kd.C_drewN ?_ _) | (with_reducible refine Kd.C_drew ?_))); (case side2 => exact (Kd.R_reads' HO137.out).2.1); (case side3 => repeat (first | exact (Kd.R_reads' HO141.out).2.2 | (with_reducible refine Kd.C_alloc ?_ _) | (with_reducible refine Kd.C_drewN ?_ _) | (with_reducible refine Kd.C_drew ?_))); (case side4 => exact (Kd.R_reads' HO141.out).2.1); rintro e w' ⟨rfl, ⟨nd, rfl⟩⟩; (try first | exact ⟨rfl, _, World.drewN_drewN _ _ _⟩ | exact ⟨rfl, _, Eq.trans (World.drewN_drewN _ _ _) (congrArg (World.drewN _) (Nat.add_assoc _ _ _))⟩))))
                              go_meet
                              case rel => exact ⟨_, (true), (by first | rfl | (simp; done) | (simp [*]; done)), H', ⟨by have := HJ5.out; have := HJ13.out; have := HJ28.out; first | omega | exact Nat.le_refl _⟩, ⟨by (with_reducible repeat (first | apply Kd.R_alloc | apply Kd.R_drewN | apply Kd.R_drew)); exact Kd.R_mono HO137.out (fun _ hk => trivial)⟩, ⟨by repeat (first | (with_reducible first | exact HB.out | apply below_alloc | apply pw_below_drewN | apply below_drew1) | exact HB.out)⟩⟩
                            · rw [if_neg c90] at H
                              have c90b0 : (t143 != t145) = false := by simpa using c90
                              (try (have c90b1 : decide (t143 = t145) = true := by simpa using c90))
                              (try (have c90b2 : (t143 == t145) = true := by simpa using c90))
                              clear c90
                              by_cases c93 : t142 = t144
                              · rw [if_pos c93] at H
                                have c93b0 : (t142 == t144) = true := beq_iff_eq.mpr c93
                                have c93b1 : (t142 != t144) = false := bne_eq_false_iff_eq.mpr c93
                                clear c93
                                by_cases c94 : (t147 != t149) = true
                                · rw [if_pos c94] at H
                                  have c94b0 : (t147 != t149) = true := c94
                                  (try (have c94b1 : decide (t147 = t149) = false := by simpa using c94))
                                  (try (have c94b2 : (t147 == t149) = false := by simpa using c94))
                                  (try (have c94b3 : ¬ (t147 = t149) := by simpa using c94))
                                  clear c94
                                  have H' := Aside0.mk H
                                  clear H
                                  obtain ⟨Ao95, co95, eo95⟩ := Kd.R_slice HO137.out
                                  subst eo95
                                  obtain ⟨Ao96, co96, eo96⟩ := Kd.R_slice HO141.out
                                  subst eo96
                                  go_wp2_with (first | (go_at_call 22; (with_reducible refine (laws_tRules.calls kj28 _ _ t134 _ _ t138 true _ ?side1 ?side2 ?side3 ?side4 A88.out).mono ?_); (case side1 => repeat (first | exact (Kd.R_reads' HO137.out).2.2 | (with_reducible refine Kd.C_alloc ?_ _) | (with_reducible refine Kd.C_drewN ?_ _) | (with_reducible refine Kd.C_drew ?_))); (case side2 => exact (Kd.R_reads' HO137.out).2.1); (case side3 => repeat (first | exact (Kd.R_reads' HO141.out).2.2 | (with_reducible refine Kd.C_alloc ?_ _) | (with_reducible refine Kd.C_drewN ?_ _) | (with_reducible refine Kd.C_drew ?_))); (case side4 => exact (Kd.R_reads' HO141.out).2.1); rintro e w' ⟨rfl, ⟨nd, rfl⟩⟩; (try first | exact ⟨rfl, _, World.drewN_drewN _ _ _⟩ | exact ⟨rfl, _, Eq.trans (World.drewN_drewN _ _ _) (congrArg (World.drewN _) (Nat.add_assoc _ _ _))⟩)))
                                  repeat (go_quiet (first | (go_at_call 22; (with_reducible refine (laws_tRules.calls kj28 _ _ t134 _ _ t138 true _ ?side1 ?side2 ?side3 ?side4 A88.out).mono ?_); (case side1 => repeat (first | exact (Kd.R_reads' HO137.out).2.2 | (with_reducible refine Kd.C_alloc ?_ _) | (with_reducible refine Kd.C_drewN ?_ _) | (with_reducible refine Kd.C_drew ?_))); (case side2 => exact (Kd.R_reads' HO137.out).2.1); (case side3 => repeat (first | exact (Kd.R_reads' HO141.out).2.2 | (with_reducible refine Kd.C_alloc ?_ _) | (with_reducible refine Kd.C_drewN ?_ _) | (with_reducible refine Kd.C_drew ?_))); (case side4 => exact (Kd.R_reads' HO141.out).2.1); rintro e w' ⟨rfl, ⟨nd, rfl⟩⟩; (try first | exact ⟨rfl, _, World.drewN_drewN _ _ _⟩ | exact ⟨rfl, _, Eq.trans (World.drewN_drewN _ _ _) (congrArg (World.drewN _) (Nat.add_assoc _ _ _))⟩))); try go_wp2_with (first | (go_at_call 22; (with_reducible refine (laws_tRules.calls kj28 _ _ t134 _ _ t138 true _ ?side1 ?side2 ?side3 ?side4 A88.out).mono ?_); (case side1 => repeat (first | exact (Kd.R_reads' HO137.out).2.2 | (with_reducible refine Kd.C_alloc ?_ _) | (with_reducible refine Kd.C_drewN ?_ _) | (with_reducible refine Kd.C_drew ?_))); (case side2 => exact (Kd.R_reads' HO137.out).2.1); (case side3 => repeat (first | exact (Kd.R_reads' HO141.out).2.2 | (with_reducible refine Kd.C_alloc ?_ _) | (with_reducible refine Kd.C_drewN ?_ _) | (with_reducible refine Kd.C_drew ?_))); (case side4 => exact (Kd.R_reads' HO141.out).2.1); rintro e w' ⟨rfl, ⟨nd, rfl⟩⟩; (try first | exact ⟨rfl, _, World.drewN_drewN _ _ _⟩ | exact ⟨rfl, _, Eq.trans (World.drewN_drewN _ _ _) (congrArg (World.drewN _) (Nat.add_assoc _ _ _))⟩))))
                                  go_meet
                                  case rel => exact ⟨_, (true), (by first | rfl | (simp; done) | (simp [*]; done)), H', ⟨by have := HJ5.out; have := HJ13.out; have := HJ28.out; first | omega | exact Nat.le_refl _⟩, ⟨by (with_reducible repeat (first | apply Kd.R_alloc | apply Kd.R_drewN | apply Kd.R_drew)); exact Kd.R_mono HO137.out (fun _ hk => trivial)⟩, ⟨by repeat (first | (with_reducible first | exact HB.out | apply below_alloc | apply pw_below_drewN | apply below_drew1) | exact HB.out)⟩⟩
                                · rw [if_neg c94] at H
                                  have c94b0 : (t147 != t149) = false := by simpa using c94
                                  (try (have c94b1 : decide (t147 = t149) = true := by simpa using c94))
                                  (try (have c94b2 : (t147 == t149) = true := by simpa using c94))
                                  clear c94
                                  by_cases c97 : (t146 != t148) = true
                                  · rw [if_pos c97] at H
                                    have c97b0 : (t146 != t148) = true := c97
                                    (try (have c97b1 : decide (t146 = t148) = false := by simpa using c97))
                                    (try (have c97b2 : (t146 == t148) = false := by simpa using c97))
                                    (try (have c97b3 : ¬ (t146 = t148) := by simpa using c97))
                                    clear c97
                                    have H' := Aside0.mk H
                                    clear H
                                    obtain ⟨Ao98, co98, eo98⟩ := Kd.R_slice HO137.out
                                    subst eo98
                                    obtain ⟨Ao99, co99, eo99⟩ := Kd.R_slice HO141.out
                                    subst eo99
                                    go_wp2_with (first | (go_at_call 22; (with_reducible refine (laws_tRules.calls kj28 _ _ t134 _ _ t138 true _ ?side1 ?side2 ?side3 ?side4 A88.out).mono ?_); (case side1 => repeat (first | exact (Kd.R_reads' HO137.out).2.2 | (with_reducible refine Kd.C_alloc ?_ _) | (with_reducible refine Kd.C_drewN ?_ _) | (with_reducible refine Kd.C_drew ?_))); (case side2 => exact (Kd.R_reads' HO137.out).2.1); (case side3 => repeat (first | exact (Kd.R_reads' HO141.out).2.2 | (with_reducible refine Kd.C_alloc ?_ _) | (with_reducible refine Kd.C_drewN ?_ _) | (with_reducible refine Kd.C_drew ?_))); (case side4 => exact (Kd.R_reads' HO141.out).2.1); rintro e w' ⟨rfl, ⟨nd, rfl⟩⟩; (try first | exact ⟨rfl, _, World.drewN_drewN _ _ _⟩ | exact ⟨rfl, _, Eq.trans (World.drewN_drewN _ _ _) (congrArg (World.drewN _) (Nat.add_assoc _ _ _))⟩)))
                                    repeat (go_quiet (first | (go_at_call 22; (with_reducible refine (laws_tRules.calls kj28 _ _ t134 _ _ t138 true _ ?side1 ?side2 ?side3 ?side4 A88.out).mono ?_); (case side1 => repeat (first | exact (Kd.R_reads' HO137.out).2.2 | (with_reducible refine Kd.C_alloc ?_ _) | (with_reducible refine Kd.C_drewN ?_ _) | (with_reducible refine Kd.C_drew ?_))); (case side2 => exact (Kd.R_reads' HO137.out).2.1); (case side3 => repeat (first | exact (Kd.R_reads' HO141.out).2.2 | (with_reducible refine Kd.C_alloc ?_ _) | (with_reducible refine Kd.C_drewN ?_ _) | (with_reducible refine Kd.C_drew ?_))); (case side4 => exact (Kd.R_reads' HO141.out).2.1); rintro e w' ⟨rfl, ⟨nd, rfl⟩⟩; (try first | exact ⟨rfl, _, World.drewN_drewN _ _ _⟩ | exact ⟨rfl, _, Eq.trans (World.drewN_drewN _ _ _) (congrArg (World.drewN _) (Nat.add_assoc _ _ _))⟩))); try go_wp2_with (first | (go_at_call 22; (with_reducible refine (laws_tRules.calls kj28 _ _ t134 _ _ t138 true _ ?side1 ?side2 ?side3 ?side4 A88.out).mono ?_); (case side1 => repeat (first | exact (Kd.R_reads' HO137.out).2.2 | (with_reducible refine Kd.C_alloc ?_ _) | (with_reducible refine Kd.C_drewN ?_ _) | (with_reducible refine Kd.C_drew ?_))); (case side2 => exact (Kd.R_reads' HO137.out).2.1); (case side3 => repeat (first | exact (Kd.R_reads' HO141.out).2.2 | (with_reducible refine Kd.C_alloc ?_ _) | (with_reducible refine Kd.C_drewN ?_ _) | (with_reducible refine Kd.C_drew ?_))); (case side4 => exact (Kd.R_reads' HO141.out).2.1); rintro e w' ⟨rfl, ⟨nd, rfl⟩⟩; (try first | exact ⟨rfl, _, World.drewN_drewN _ _ _⟩ | exact ⟨rfl, _, Eq.trans (World.drewN_drewN _ _ _) (congrArg (World.drewN _) (Nat.add_assoc _ _ _))⟩))))
                                    go_meet
                                    case rel => exact ⟨_, (true), (by first | rfl | (simp; done) | (simp [*]; done)), H', ⟨by have := HJ5.out; have := HJ13.out; have := HJ28.out; first | omega | exact Nat.le_refl _⟩, ⟨by (with_reducible repeat (first | apply Kd.R_alloc | apply Kd.R_drewN | apply Kd.R_drew)); exact Kd.R_mono HO137.out (fun _ hk => trivial)⟩, ⟨by repeat (first | (with_reducible first | exact HB.out | apply below_alloc | apply pw_below_drewN | apply below_drew1) | exact HB.out)⟩⟩
                                  · rw [if_neg c97] at H
                                    have c97b0 : (t146 != t148) = false := by simpa using c97
                                    (try (have c97b1 : decide (t146 = t148) = true := by simpa using c97))
                                    (try (have c97b2 : (t146 == t148) = true := by simpa using c97))
                                    clear c97
                                    by_cases c100 : t143 = true
                                    · subst c100
                                      have H1 : (laws_FnCoversFoundOfAll.j6 kj28 l1 a2 l3 a4 t134 t135 t142 t146 t147 (t135 != (decide (t142 > 0)))) = some true := by rw [if_pos rfl] at H; exact H
                                      clear H
                                      have H := H1
                                      clear H1
                                      have H' := Aside0.mk H
                                      clear H
                                      obtain ⟨Ao101, co101, eo101⟩ := Kd.R_slice HO137.out
                                      subst eo101
                                      obtain ⟨Ao102, co102, eo102⟩ := Kd.R_slice HO141.out
                                      subst eo102
                                      go_wp2_with (first | (go_at_call 22; (with_reducible refine (laws_tRules.calls kj28 _ _ t134 _ _ t138 true _ ?side1 ?side2 ?side3 ?side4 A88.out).mono ?_); (case side1 => repeat (first | exact (Kd.R_reads' HO137.out).2.2 | (with_reducible refine Kd.C_alloc ?_ _) | (with_reducible refine Kd.C_drewN ?_ _) | (with_reducible refine Kd.C_drew ?_))); (case side2 => exact (Kd.R_reads' HO137.out).2.1); (case side3 => repeat (first | exact (Kd.R_reads' HO141.out).2.2 | (with_reducible refine Kd.C_alloc ?_ _) | (with_reducible refine Kd.C_drewN ?_ _) | (with_reducible refine Kd.C_drew ?_))); (case side4 => exact (Kd.R_reads' HO141.out).2.1); rintro e w' ⟨rfl, ⟨nd, rfl⟩⟩; (try first | exact ⟨rfl, _, World.drewN_drewN _ _ _⟩ | exact ⟨rfl, _, Eq.trans (World.drewN_drewN _ _ _) (congrArg (World.drewN _) (Nat.add_assoc _ _ _))⟩)))
                                      repeat (go_quiet (first | (go_at_call 22; (with_reducible refine (laws_tRules.calls kj28 _ _ t134 _ _ t138 true _ ?side1 ?side2 ?side3 ?side4 A88.out).mono ?_); (case side1 => repeat (first | exact (Kd.R_reads' HO137.out).2.2 | (with_reducible refine Kd.C_alloc ?_ _) | (with_reducible refine Kd.C_drewN ?_ _) | (with_reducible refine Kd.C_drew ?_))); (case side2 => exact (Kd.R_reads' HO137.out).2.1); (case side3 => repeat (first | exact (Kd.R_reads' HO141.out).2.2 | (with_reducible refine Kd.C_alloc ?_ _) | (with_reducible refine Kd.C_drewN ?_ _) | (with_reducible refine Kd.C_drew ?_))); (case side4 => exact (Kd.R_reads' HO141.out).2.1); rintro e w' ⟨rfl, ⟨nd, rfl⟩⟩; (try first | exact ⟨rfl, _, World.drewN_drewN _ _ _⟩ | exact ⟨rfl, _, Eq.trans (World.drewN_drewN _ _ _) (congrArg (World.drewN _) (Nat.add_assoc _ _ _))⟩))); try go_wp2_with (first | (go_at_call 22; (with_reducible refine (laws_tRules.calls kj28 _ _ t134 _ _ t138 true _ ?side1 ?side2 ?side3 ?side4 A88.out).mono ?_); (case side1 => repeat (first | exact (Kd.R_reads' HO137.out).2.2 | (with_reducible refine Kd.C_alloc ?_ _) | (with_reducible refine Kd.C_drewN ?_ _) | (with_reducible refine Kd.C_drew ?_))); (case side2 => exact (Kd.R_reads' HO137.out).2.1); (case side3 => repeat (first | exact (Kd.R_reads' HO141.out).2.2 | (with_reducible refine Kd.C_alloc ?_ _) | (with_reducible refine Kd.C_drewN ?_ _) | (with_reducible refine Kd.C_drew ?_))); (case side4 => exact (Kd.R_reads' HO141.out).2.1); rintro e w' ⟨rfl, ⟨nd, rfl⟩⟩; (try first | exact ⟨rfl, _, World.drewN_drewN _ _ _⟩ | exact ⟨rfl, _, Eq.trans (World.drewN_drewN _ _ _) (congrArg (World.drewN _) (Nat.add_assoc _ _ _))⟩))))
                                      go_meet
                                      case rel => exact ⟨_, ((t135 != (decide (t142 > 0)))), (by first | rfl | (simp; done) | (simp [*]; done)), H', ⟨by have := HJ5.out; have := HJ13.out; have := HJ28.out; first | omega | exact Nat.le_refl _⟩, ⟨by (with_reducible repeat (first | apply Kd.R_alloc | apply Kd.R_drewN | apply Kd.R_drew)); exact Kd.R_mono HO137.out (fun _ hk => trivial)⟩, ⟨by repeat (first | (with_reducible first | exact HB.out | apply below_alloc | apply pw_below_drewN | apply below_drew1) | exact HB.out)⟩⟩
                                    · replace c100 := Bool.eq_false_iff.mpr c100
                                      subst c100
                                      have H1 : (laws_FnCoversFoundOfAll.j6 kj28 l1 a2 l3 a4 t134 t135 t142 t146 t147 (t135 != false)) = some true := by rw [if_neg (show ¬ (false = true) by decide)] at H; exact H
                                      clear H
                                      have H := H1
                                      clear H1
                                      have H' := Aside0.mk H
                                      clear H
                                      obtain ⟨Ao103, co103, eo103⟩ := Kd.R_slice HO137.out
                                      subst eo103
                                      obtain ⟨Ao104, co104, eo104⟩ := Kd.R_slice HO141.out
                                      subst eo104
                                      go_wp2_with (first | (go_at_call 22; (with_reducible refine (laws_tRules.calls kj28 _ _ t134 _ _ t138 true _ ?side1 ?side2 ?side3 ?side4 A88.out).mono ?_); (case side1 => repeat (first | exact (Kd.R_reads' HO137.out).2.2 | (with_reducible refine Kd.C_alloc ?_ _) | (with_reducible refine Kd.C_drewN ?_ _) | (with_reducible refine Kd.C_drew ?_))); (case side2 => exact (Kd.R_reads' HO137.out).2.1); (case side3 => repeat (first | exact (Kd.R_reads' HO141.out).2.2 | (with_reducible refine Kd.C_alloc ?_ _) | (with_reducible refine Kd.C_drewN ?_ _) | (with_reducible refine Kd.C_drew ?_))); (case side4 => exact (Kd.R_reads' HO141.out).2.1); rintro e w' ⟨rfl, ⟨nd, rfl⟩⟩; (try first | exact ⟨rfl, _, World.drewN_drewN _ _ _⟩ | exact ⟨rfl, _, Eq.trans (World.drewN_drewN _ _ _) (congrArg (World.drewN _) (Nat.add_assoc _ _ _))⟩)))
                                      repeat (go_quiet (first | (go_at_call 22; (with_reducible refine (laws_tRules.calls kj28 _ _ t134 _ _ t138 true _ ?side1 ?side2 ?side3 ?side4 A88.out).mono ?_); (case side1 => repeat (first | exact (Kd.R_reads' HO137.out).2.2 | (with_reducible refine Kd.C_alloc ?_ _) | (with_reducible refine Kd.C_drewN ?_ _) | (with_reducible refine Kd.C_drew ?_))); (case side2 => exact (Kd.R_reads' HO137.out).2.1); (case side3 => repeat (first | exact (Kd.R_reads' HO141.out).2.2 | (with_reducible refine Kd.C_alloc ?_ _) | (with_reducible refine Kd.C_drewN ?_ _) | (with_reducible refine Kd.C_drew ?_))); (case side4 => exact (Kd.R_reads' HO141.out).2.1); rintro e w' ⟨rfl, ⟨nd, rfl⟩⟩; (try first | exact ⟨rfl, _, World.drewN_drewN _ _ _⟩ | exact ⟨rfl, _, Eq.trans (World.drewN_drewN _ _ _) (congrArg (World.drewN _) (Nat.add_assoc _ _ _))⟩))); try go_wp2_with (first | (go_at_call 22; (with_reducible refine (laws_tRules.calls kj28 _ _ t134 _ _ t138 true _ ?side1 ?side2 ?side3 ?side4 A88.out).mono ?_); (case side1 => repeat (first | exact (Kd.R_reads' HO137.out).2.2 | (with_reducible refine Kd.C_alloc ?_ _) | (with_reducible refine Kd.C_drewN ?_ _) | (with_reducible refine Kd.C_drew ?_))); (case side2 => exact (Kd.R_reads' HO137.out).2.1); (case side3 => repeat (first | exact (Kd.R_reads' HO141.out).2.2 | (with_reducible refine Kd.C_alloc ?_ _) | (with_reducible refine Kd.C_drewN ?_ _) | (with_reducible refine Kd.C_drew ?_))); (case side4 => exact (Kd.R_reads' HO141.out).2.1); rintro e w' ⟨rfl, ⟨nd, rfl⟩⟩; (try first | exact ⟨rfl, _, World.drewN_drewN _ _ _⟩ | exact ⟨rfl, _, Eq.trans (World.drewN_drewN _ _ _) (congrArg (World.drewN _) (Nat.add_assoc _ _ _))⟩))))
                                      go_meet
                                      case rel => exact ⟨_, ((t135 != false)), (by first | rfl | (simp; done) | (simp [*]; done)), H', ⟨by have := HJ5.out; have := HJ13.out; have := HJ28.out; first | omega | exact Nat.le_refl _⟩, ⟨by (with_reducible repeat (first | apply Kd.R_alloc | apply Kd.R_drewN | apply Kd.R_drew)); exact Kd.R_mono HO137.out (fun _ hk => trivial)⟩, ⟨by repeat (first | (with_reducible first | exact HB.out | apply below_alloc | apply pw_below_drewN | apply below_drew1) | exact HB.out)⟩⟩
                              · rw [if_neg c93] at H
                                have c93b0 : (t142 == t144) = false := beq_eq_false_iff_ne.mpr c93
                                have c93b1 : (t142 != t144) = true := bne_iff_ne.mpr c93
                                have H' := Aside0.mk H
                                clear H
                                obtain ⟨Ao105, co105, eo105⟩ := Kd.R_slice HO137.out
                                subst eo105
                                obtain ⟨Ao106, co106, eo106⟩ := Kd.R_slice HO141.out
                                subst eo106
                                go_wp2_with (first | (go_at_call 22; (with_reducible refine (laws_tRules.calls kj28 _ _ t134 _ _ t138 true _ ?side1 ?side2 ?side3 ?side4 A88.out).mono ?_); (case side1 => repeat (first | exact (Kd.R_reads' HO137.out).2.2 | (with_reducible refine Kd.C_alloc ?_ _) | (with_reducible refine Kd.C_drewN ?_ _) | (with_reducible refine Kd.C_drew ?_))); (case side2 => exact (Kd.R_reads' HO137.out).2.1); (case side3 => repeat (first | exact (Kd.R_reads' HO141.out).2.2 | (with_reducible refine Kd.C_alloc ?_ _) | (with_reducible refine Kd.C_drewN ?_ _) | (with_reducible refine Kd.C_drew ?_))); (case side4 => exact (Kd.R_reads' HO141.out).2.1); rintro e w' ⟨rfl, ⟨nd, rfl⟩⟩; (try first | exact ⟨rfl, _, World.drewN_drewN _ _ _⟩ | exact ⟨rfl, _, Eq.trans (World.drewN_drewN _ _ _) (congrArg (World.drewN _) (Nat.add_assoc _ _ _))⟩)))
                                repeat (go_quiet (first | (go_at_call 22; (with_reducible refine (laws_tRules.calls kj28 _ _ t134 _ _ t138 true _ ?side1 ?side2 ?side3 ?side4 A88.out).mono ?_); (case side1 => repeat (first | exact (Kd.R_reads' HO137.out).2.2 | (with_reducible refine Kd.C_alloc ?_ _) | (with_reducible refine Kd.C_drewN ?_ _) | (with_reducible refine Kd.C_drew ?_))); (case side2 => exact (Kd.R_reads' HO137.out).2.1); (case side3 => repeat (first | exact (Kd.R_reads' HO141.out).2.2 | (with_reducible refine Kd.C_alloc ?_ _) | (with_reducible refine Kd.C_drewN ?_ _) | (with_reducible refine Kd.C_drew ?_))); (case side4 => exact (Kd.R_reads' HO141.out).2.1); rintro e w' ⟨rfl, ⟨nd, rfl⟩⟩; (try first | exact ⟨rfl, _, World.drewN_drewN _ _ _⟩ | exact ⟨rfl, _, Eq.trans (World.drewN_drewN _ _ _) (congrArg (World.drewN _) (Nat.add_assoc _ _ _))⟩))); try go_wp2_with (first | (go_at_call 22; (with_reducible refine (laws_tRules.calls kj28 _ _ t134 _ _ t138 true _ ?side1 ?side2 ?side3 ?side4 A88.out).mono ?_); (case side1 => repeat (first | exact (Kd.R_reads' HO137.out).2.2 | (with_reducible refine Kd.C_alloc ?_ _) | (with_reducible refine Kd.C_drewN ?_ _) | (with_reducible refine Kd.C_drew ?_))); (case side2 => exact (Kd.R_reads' HO137.out).2.1); (case side3 => repeat (first | exact (Kd.R_reads' HO141.out).2.2 | (with_reducible refine Kd.C_alloc ?_ _) | (with_reducible refine Kd.C_drewN ?_ _) | (with_reducible refine Kd.C_drew ?_))); (case side4 => exact (Kd.R_reads' HO141.out).2.1); rintro e w' ⟨rfl, ⟨nd, rfl⟩⟩; (try first | exact ⟨rfl, _, World.drewN_drewN _ _ _⟩ | exact ⟨rfl, _, Eq.trans (World.drewN_drewN _ _ _) (congrArg (World.drewN _) (Nat.add_assoc _ _ _))⟩))))
                                go_meet
                                case rel => exact ⟨_, (true), (by first | rfl | (simp; done) | (simp [*]; done)), H', ⟨by have := HJ5.out; have := HJ13.out; have := HJ28.out; first | omega | exact Nat.le_refl _⟩, ⟨by (with_reducible repeat (first | apply Kd.R_alloc | apply Kd.R_drewN | apply Kd.R_drew)); exact Kd.R_mono HO137.out (fun _ hk => trivial)⟩, ⟨by repeat (first | (with_reducible first | exact HB.out | apply below_alloc | apply pw_below_drewN | apply below_drew1) | exact HB.out)⟩⟩
                          · replace c89 := Bool.eq_false_iff.mpr c89
                            subst c89
                            have H1 : (laws_FnCoversFoundOfAll.j6 kj28 l1 a2 l3 a4 t134 t135 t142 t146 t147 true) = some true := by rw [if_neg (show ¬ (false = true) by decide)] at H; exact H
                            clear H
                            have H := H1
                            clear H1
                            have H' := Aside0.mk H
                            clear H
                            obtain ⟨Ao107, co107, eo107⟩ := Kd.R_slice HO137.out
                            subst eo107
                            obtain ⟨Ao108, co108, eo108⟩ := Kd.R_slice HO141.out
                            subst eo108
                            go_wp2_with (first | (go_at_call 22; (with_reducible refine (laws_tRules.calls kj28 _ _ t134 _ _ t138 false _ ?side1 ?side2 ?side3 ?side4 A88.out).mono ?_); (case side1 => repeat (first | exact (Kd.R_reads' HO137.out).2.2 | (with_reducible refine Kd.C_alloc ?_ _) | (with_reducible refine Kd.C_drewN ?_ _) | (with_reducible refine Kd.C_drew ?_))); (case side2 => exact (Kd.R_reads' HO137.out).2.1); (case side3 => repeat (first | exact (Kd.R_reads' HO141.out).2.2 | (with_reducible refine Kd.C_alloc ?_ _) | (with_reducible refine Kd.C_drewN ?_ _) | (with_reducible refine Kd.C_drew ?_))); (case side4 => exact (Kd.R_reads' HO141.out).2.1); rintro e w' ⟨rfl, ⟨nd, rfl⟩⟩; (try first | exact ⟨rfl, _, World.drewN_drewN _ _ _⟩ | exact ⟨rfl, _, Eq.trans (World.drewN_drewN _ _ _) (congrArg (World.drewN _) (Nat.add_assoc _ _ _))⟩)))
                            repeat (go_quiet (first | (go_at_call 22; (with_reducible refine (laws_tRules.calls kj28 _ _ t134 _ _ t138 false _ ?side1 ?side2 ?side3 ?side4 A88.out).mono ?_); (case side1 => repeat (first | exact (Kd.R_reads' HO137.out).2.2 | (with_reducible refine Kd.C_alloc ?_ _) | (with_reducible refine Kd.C_drewN ?_ _) | (with_reducible refine Kd.C_drew ?_))); (case side2 => exact (Kd.R_reads' HO137.out).2.1); (case side3 => repeat (first | exact (Kd.R_reads' HO141.out).2.2 | (with_reducible refine Kd.C_alloc ?_ _) | (with_reducible refine Kd.C_drewN ?_ _) | (with_reducible refine Kd.C_drew ?_))); (case side4 => exact (Kd.R_reads' HO141.out).2.1); rintro e w' ⟨rfl, ⟨nd, rfl⟩⟩; (try first | exact ⟨rfl, _, World.drewN_drewN _ _ _⟩ | exact ⟨rfl, _, Eq.trans (World.drewN_drewN _ _ _) (congrArg (World.drewN _) (Nat.add_assoc _ _ _))⟩))); try go_wp2_with (first | (go_at_call 22; (with_reducible refine (laws_tRules.calls kj28 _ _ t134 _ _ t138 false _ ?side1 ?side2 ?side3 ?side4 A88.out).mono ?_); (case side1 => repeat (first | exact (Kd.R_reads' HO137.out).2.2 | (with_reducible refine Kd.C_alloc ?_ _) | (with_reducible refine Kd.C_drewN ?_ _) | (with_reducible refine Kd.C_drew ?_))); (case side2 => exact (Kd.R_reads' HO137.out).2.1); (case side3 => repeat (first | exact (Kd.R_reads' HO141.out).2.2 | (with_reducible refine Kd.C_alloc ?_ _) | (with_reducible refine Kd.C_drewN ?_ _) | (with_reducible refine Kd.C_drew ?_))); (case side4 => exact (Kd.R_reads' HO141.out).2.1); rintro e w' ⟨rfl, ⟨nd, rfl⟩⟩; (try first | exact ⟨rfl, _, World.drewN_drewN _ _ _⟩ | exact ⟨rfl, _, Eq.trans (World.drewN_drewN _ _ _) (congrArg (World.drewN _) (Nat.add_assoc _ _ _))⟩))))
                            go_meet
                            case rel => exact ⟨_, (true), (by first | rfl | (simp; done) | (simp [*]; done)), H', ⟨by have := HJ5.out; have := HJ13.out; have := HJ28.out; first | omega | exact Nat.le_refl _⟩, ⟨by (with_reducible repeat (first | apply Kd.R_alloc | apply Kd.R_drewN | apply Kd.R_drew)); exact Kd.R_mono HO137.out (fun _ hk => trivial)⟩, ⟨by repeat (first | (with_reducible first | exact HB.out | apply below_alloc | apply pw_below_drewN | apply below_drew1) | exact HB.out)⟩⟩
                      case rest =>
                        as_aux_lemma =>
                          clear HC80
                          try clear c1
                          try clear p1
                          try clear q1
                          try clear hx1
                          try clear c2
                          try clear p2
                          try clear c3
                          try clear c4
                          try clear c5
                          try clear c6
                          try clear p6
                          try clear c7
                          try clear c7b0
                          try clear c7b1
                          try clear c8
                          try clear c8b0
                          try clear c8b1
                          try clear c9
                          try clear c10
                          try clear p12
                          try clear q12
                          try clear hx12
                          try clear p13
                          try clear q13
                          try clear hx13
                          try clear c19
                          try clear c19b0
                          try clear c19b1
                          try clear c19b2
                          try clear c20
                          try clear c20b0
                          try clear c20b1
                          try clear c21
                          try clear c21b0
                          try clear c21b1
                          try clear c21b2
                          try clear c23
                          try clear c28
                          try clear c30
                          try clear c41
                          try clear c42
                          try clear c42b0
                          try clear c42b1
                          try clear c43
                          try clear c44
                          try clear c45
                          try clear c45b0
                          try clear c46
                          try clear c47
                          try clear c49
                          try clear c50
                          try clear c50b0
                          try clear c51
                          try clear c52
                          try clear c54
                          try clear c56
                          try clear c56b0
                          try clear c56b1
                          try clear c58
                          try clear c59
                          try clear c59b0
                          try clear c59b1
                          try clear c62
                          try clear c62b0
                          try clear c62b1
                          try clear c63
                          try clear c63b0
                          try clear c64
                          try clear c64b0
                          try clear p64
                          try clear c65
                          try clear c65b0
                          try clear c66
                          try clear c66b0
                          try clear c67
                          try clear c67b0
                          try clear c67b1
                          try clear c68
                          try clear c68b0
                          try clear c69
                          try clear c69b0
                          try clear c69b1
                          try clear c70
                          try clear c70b0
                          try clear c70b1
                          try clear c87
                          try clear c87b0
                          try clear c87b1
                          try clear c87b2
                          try clear c89
                          try clear c90
                          try clear c90b0
                          try clear c90b1
                          try clear c90b2
                          try clear c93
                          try clear c93b0
                          try clear c93b1
                          try clear c94
                          try clear c94b0
                          try clear c94b1
                          try clear c94b2
                          try clear c97
                          try clear c97b0
                          try clear c97b1
                          try clear c97b2
                          try clear c100
                          try clear hcz72_0
                          try clear hcz72_1
                          try clear hfz72_0
                          try clear hfz72_1
                          try clear hx128_0
                          try clear hx128_1
                          try clear hx130_0
                          try clear hx131_0
                          try clear hx131_1
                          try clear hx132_0
                          try clear hx133_0
                          try clear hx133_1
                          try clear p1
                          try clear p12
                          try clear p128
                          try clear p13
                          try clear p130
                          try clear p131
                          try clear p132
                          try clear p133
                          try clear p2
                          try clear p6
                          try clear p64
                          try clear q1
                          try clear q12
                          try clear q128
                          try clear q13
                          try clear q130
                          try clear q131
                          try clear q132
                          try clear q133
                          obtain ⟨kq, x289_79, rfl, HA, HJ79, HO_31, HB⟩ := hcut
                          cases kq with
                          | zero => exact absurd HA.out (by simp [laws_FnCoversFoundOfAll.j6])
                          | succ kj79 =>
                            have H := HA.out
                            clear HA
                            simp only [laws_FnCoversFoundOfAll.j6] at H
                            by_cases c109 : x289_79 = true
                            · subst c109
                              have H1 : (some false) = some true := by rw [if_pos rfl] at H; exact H
                              clear H
                              have H := H1
                              clear H1
                              exact absurd H (by simp)
                            · replace c109 := Bool.eq_false_iff.mpr c109
                              subst c109
                              have H1 : (if t135 = true then ((impl_IsCover.f kj79 t134 a2).bind fun bt151 => (if bt151.2 = true then (if bt151.1 = true then (laws_FnCoversFoundOfAll.j7 kj79 l1 a2 l3 a4 t142 t146 t147 ((t134.length : Int) != (l1.length : Int))) else (laws_FnCoversFoundOfAll.j7 kj79 l1 a2 l3 a4 t142 t146 t147 true)) else (laws_FnCoversFoundOfAll.j7 kj79 l1 a2 l3 a4 t142 t146 t147 true))) else (if t147 = true then ((impl_CountLeft.f kj79 l3 a4).bind fun bt159 => (if bt159.2 = true then (some (t146 == (bt159.1 == 0))) else (some false))) else (some true))) = some true := by rw [if_neg (show ¬ (false = true) by decide)] at H; exact H
                              clear H
                              have H := H1
                              clear H1
                              by_cases c110 : t135 = true
                              · subst c110
                                have H1 : ((impl_IsCover.f kj79 t134 a2).bind fun bt151 => (if bt151.2 = true then (if bt151.1 = true then (laws_FnCoversFoundOfAll.j7 kj79 l1 a2 l3 a4 t142 t146 t147 ((t134.length : Int) != (l1.length : Int))) else (laws_FnCoversFoundOfAll.j7 kj79 l1 a2 l3 a4 t142 t146 t147 true)) else (laws_FnCoversFoundOfAll.j7 kj79 l1 a2 l3 a4 t142 t146 t147 true))) = some true := by rw [if_pos rfl] at H; exact H
                                clear H
                                have H := H1
                                clear H1
                                replace H := Option.bind_eq_some_iff.mp H
                                obtain ⟨⟨t151, t152⟩, A1110, H⟩ := H
                                replace H : (if t152 = true then (if t151 = true then (laws_FnCoversFoundOfAll.j7 kj79 l1 a2 l3 a4 t142 t146 t147 ((t134.length : Int) != (l1.length : Int))) else (laws_FnCoversFoundOfAll.j7 kj79 l1 a2 l3 a4 t142 t146 t147 true)) else (laws_FnCoversFoundOfAll.j7 kj79 l1 a2 l3 a4 t142 t146 t147 true)) = some true := H
                                have A111 := Aside0.mk A1110
                                clear A1110
                                have HC112 := Aside0.mk H
                                clear H
                                obtain ⟨Ao113, co113, eo113⟩ := Kd.R_slice HO_31.out
                                subst eo113
                                go_upto_region 38 with (first | (go_at_call 23; (with_reducible refine (impl_IsCover.calls kj79 _ _ t134 a2 t151 t152 _ ?side1 ?side2 A111.out).mono ?_); (case side1 => repeat (first | exact (Kd.R_reads' HO_31.out).2.2 | (with_reducible refine Kd.C_alloc ?_ _) | (with_reducible refine Kd.C_drewN ?_ _) | (with_reducible refine Kd.C_drew ?_))); (case side2 => exact (Kd.R_reads' HO_31.out).2.1); rintro e w114 ⟨rfl, hb⟩; have n0_ := Aside0.mk (Kd.R_below (by (with_reducible repeat (first | apply Kd.R_alloc | apply Kd.R_drewN | apply Kd.R_drew)); exact HO_31.out) hb); have n1_ := Aside0.mk (below_step (by repeat (first | (with_reducible first | exact HB.out | apply below_alloc | apply pw_below_drewN | apply below_drew1) | exact HB.out)) hb); clear HO_31; clear HB; have HO_31 := n0_; have HB := n1_; clear n0_ n1_; (try clear hb); (try clear hb2); (try clear hk); (try clear hi)))
                                repeat (go_quiet (first | (go_at_call 23; (with_reducible refine (impl_IsCover.calls kj79 _ _ t134 a2 t151 t152 _ ?side1 ?side2 A111.out).mono ?_); (case side1 => repeat (first | exact (Kd.R_reads' HO_31.out).2.2 | (with_reducible refine Kd.C_alloc ?_ _) | (with_reducible refine Kd.C_drewN ?_ _) | (with_reducible refine Kd.C_drew ?_))); (case side2 => exact (Kd.R_reads' HO_31.out).2.1); rintro e w114 ⟨rfl, hb⟩; have n0_ := Aside0.mk (Kd.R_below (by (with_reducible repeat (first | apply Kd.R_alloc | apply Kd.R_drewN | apply Kd.R_drew)); exact HO_31.out) hb); have n1_ := Aside0.mk (below_step (by repeat (first | (with_reducible first | exact HB.out | apply below_alloc | apply pw_below_drewN | apply below_drew1) | exact HB.out)) hb); clear HO_31; clear HB; have HO_31 := n0_; have HB := n1_; clear n0_ n1_; (try clear hb); (try clear hb2); (try clear hk); (try clear hi))); go_upto_region 38 with (first | (go_at_call 23; (with_reducible refine (impl_IsCover.calls kj79 _ _ t134 a2 t151 t152 _ ?side1 ?side2 A111.out).mono ?_); (case side1 => repeat (first | exact (Kd.R_reads' HO_31.out).2.2 | (with_reducible refine Kd.C_alloc ?_ _) | (with_reducible refine Kd.C_drewN ?_ _) | (with_reducible refine Kd.C_drew ?_))); (case side2 => exact (Kd.R_reads' HO_31.out).2.1); rintro e w114 ⟨rfl, hb⟩; have n0_ := Aside0.mk (Kd.R_below (by (with_reducible repeat (first | apply Kd.R_alloc | apply Kd.R_drewN | apply Kd.R_drew)); exact HO_31.out) hb); have n1_ := Aside0.mk (below_step (by repeat (first | (with_reducible first | exact HB.out | apply below_alloc | apply pw_below_drewN | apply below_drew1) | exact HB.out)) hb); clear HO_31; clear HB; have HO_31 := n0_; have HB := n1_; clear n0_ n1_; (try clear hb); (try clear hb2); (try clear hk); (try clear hi))))
                                (try simp only [Act.put, List.setIfInBounds_toArray, List.set_cons_zero, List.set_cons_succ])
                                go_cut [309] from 291 to 296 (fun v309 wc => ∃ (kq : Nat) (x309_111 : Bool), v309 = .bool x309_111 ∧ Aside0 (laws_FnCoversFoundOfAll.j7 kq l1 a2 l3 a4 t142 t146 t147 x309_111 = some true) ∧ Aside0 (kq ≤ kj79) ∧ Aside0 (Below w.heap.size w wc))
                                case first =>
                                  have H := HC112.out
                                  clear HC112
                                  by_cases c115 : t152 = true
                                  · subst c115
                                    have H1 : (if t151 = true then (laws_FnCoversFoundOfAll.j7 kj79 l1 a2 l3 a4 t142 t146 t147 ((t134.length : Int) != (l1.length : Int))) else (laws_FnCoversFoundOfAll.j7 kj79 l1 a2 l3 a4 t142 t146 t147 true)) = some true := by rw [if_pos rfl] at H; exact H
                                    clear H
                                    have H := H1
                                    clear H1
                                    by_cases c116 : t151 = true
                                    · subst c116
                                      have H1 : (laws_FnCoversFoundOfAll.j7 kj79 l1 a2 l3 a4 t142 t146 t147 ((t134.length : Int) != (l1.length : Int))) = some true := by rw [if_pos rfl] at H; exact H
                                      clear H
                                      have H := H1
                                      clear H1
                                      have H' := Aside0.mk H
                                      clear H
                                      go_wp2
                                      repeat (go_quiet (fail); try go_wp2)
                                      go_meet
                                      case rel => exact ⟨_, (((t134.length : Int) != (l1.length : Int))), (by first | rfl | (simp; done) | (simp [*]; done)), H', ⟨by have := HJ5.out; have := HJ13.out; have := HJ28.out; have := HJ79.out; first | omega | exact Nat.le_refl _⟩, ⟨by repeat (first | (with_reducible first | exact HB.out | apply below_alloc | apply pw_below_drewN | apply below_drew1) | exact HB.out)⟩⟩
                                    · replace c116 := Bool.eq_false_iff.mpr c116
                                      subst c116
                                      have H1 : (laws_FnCoversFoundOfAll.j7 kj79 l1 a2 l3 a4 t142 t146 t147 true) = some true := by rw [if_neg (show ¬ (false = true) by decide)] at H; exact H
                                      clear H
                                      have H := H1
                                      clear H1
                                      have H' := Aside0.mk H
                                      clear H
                                      go_wp2
                                      repeat (go_quiet (fail); try go_wp2)
                                      go_meet
                                      case rel => exact ⟨_, (true), (by first | rfl | (simp; done) | (simp [*]; done)), H', ⟨by have := HJ5.out; have := HJ13.out; have := HJ28.out; have := HJ79.out; first | omega | exact Nat.le_refl _⟩, ⟨by repeat (first | (with_reducible first | exact HB.out | apply below_alloc | apply pw_below_drewN | apply below_drew1) | exact HB.out)⟩⟩
                                  · replace c115 := Bool.eq_false_iff.mpr c115
                                    subst c115
                                    have H1 : (laws_FnCoversFoundOfAll.j7 kj79 l1 a2 l3 a4 t142 t146 t147 true) = some true := by rw [if_neg (show ¬ (false = true) by decide)] at H; exact H
                                    clear H
                                    have H := H1
                                    clear H1
                                    have H' := Aside0.mk H
                                    clear H
                                    go_wp2
                                    repeat (go_quiet (fail); try go_wp2)
                                    go_meet
                                    case rel => exact ⟨_, (true), (by first | rfl | (simp; done) | (simp [*]; done)), H', ⟨by have := HJ5.out; have := HJ13.out; have := HJ28.out; have := HJ79.out; first | omega | exact Nat.le_refl _⟩, ⟨by repeat (first | (with_reducible first | exact HB.out | apply below_alloc | apply pw_below_drewN | apply below_drew1) | exact HB.out)⟩⟩
                                case rest =>
                                  clear HC112
                                  try clear c1
                                  try clear p1
                                  try clear q1
                                  try clear hx1
                                  try clear c2
                                  try clear p2
                                  try clear c3
                                  try clear c4
                                  try clear c5
                                  try clear c6
                                  try clear p6
                                  try clear c7
                                  try clear c7b0
                                  try clear c7b1
                                  try clear c8
                                  try clear c8b0
                                  try clear c8b1
                                  try clear c9
                                  try clear c10
                                  try clear c11
                                  try clear p12
                                  try clear q12
                                  try clear hx12
                                  try clear p13
                                  try clear q13
                                  try clear hx13
                                  try clear c19
                                  try clear c19b0
                                  try clear c19b1
                                  try clear c19b2
                                  try clear c20
                                  try clear c20b0
                                  try clear c20b1
                                  try clear c21
                                  try clear c21b0
                                  try clear c21b1
                                  try clear c21b2
                                  try clear c23
                                  try clear c28
                                  try clear c30
                                  try clear c41
                                  try clear c42
                                  try clear c42b0
                                  try clear c42b1
                                  try clear c43
                                  try clear c44
                                  try clear c45
                                  try clear c45b0
                                  try clear c46
                                  try clear c47
                                  try clear c49
                                  try clear c50
                                  try clear c50b0
                                  try clear c51
                                  try clear c52
                                  try clear c54
                                  try clear c56
                                  try clear c56b0
                                  try clear c56b1
                                  try clear c58
                                  try clear c59
                                  try clear c59b0
                                  try clear c59b1
                                  try clear c62
                                  try clear c62b0
                                  try clear c62b1
                                  try clear c63
                                  try clear c63b0
                                  try clear c64
                                  try clear c64b0
                                  try clear p64
                                  try clear c65
                                  try clear c65b0
                                  try clear c66
                                  try clear c66b0
                                  try clear c67
                                  try clear c67b0
                                  try clear c67b1
                                  try clear c68
                                  try clear c68b0
                                  try clear c69
                                  try clear c69b0
                                  try clear c69b1
                                  try clear c70
                                  try clear c70b0
                                  try clear c70b1
                                  try clear c87
                                  try clear c87b0
                                  try clear c87b1
                                  try clear c87b2
                                  try clear c89
                                  try clear c90
                                  try clear c90b0
                                  try clear c90b1
                                  try clear c90b2
                                  try clear c93
                                  try clear c93b0
                                  try clear c93b1
                                  try clear c94
                                  try clear c94b0
                                  try clear c94b1
                                  try clear c94b2
                                  try clear c97
                                  try clear c97b0
                                  try clear c97b1
                                  try clear c97b2
                                  try clear c100
                                  try clear c109
                                  try clear c110
                                  try clear c115
                                  try clear c116
                                  try clear hcz72_0
                                  try clear hcz72_1
                                  try clear hfz72_0
                                  try clear hfz72_1
                                  try clear hx128_0
                                  try clear hx128_1
                                  try clear hx130_0
                                  try clear hx131_0
                                  try clear hx131_1
                                  try clear hx132_0
                                  try clear hx133_0
                                  try clear hx133_1
                                  try clear p1
                                  try clear p12
                                  try clear p128
                                  try clear p13
                                  try clear p130
                                  try clear p131
                                  try clear p132
                                  try clear p133
                                  try clear p2
                                  try clear p6
                                  try clear p64
                                  try clear q1
                                  try clear q12
                                  try clear q128
                                  try clear q13
                                  try clear q130
                                  try clear q131
                                  try clear q132
                                  try clear q133
                                  obtain ⟨kq, x309_111, rfl, HA, HJ111, HB⟩ := hcut
                                  cases kq with
                                  | zero => exact absurd HA.out (by simp [laws_FnCoversFoundOfAll.j7])
                                  | succ kj111 =>
                                    have H := HA.out
                                    clear HA
                                    simp only [laws_FnCoversFoundOfAll.j7] at H
                                    by_cases c117 : x309_111 = true
                                    · subst c117
                                      have H1 : (some false) = some true := by rw [if_pos rfl] at H; exact H
                                      clear H
                                      have H := H1
                                      clear H1
                                      exact absurd H (by simp)
                                    · replace c117 := Bool.eq_false_iff.mpr c117
                                      subst c117
                                      have H1 : (if a2 > 0 then ((impl_CountCovers.f kj111 l1 (wrap64 (a2 - 1))).bind fun bt153 => (if bt153.2 = true then (laws_FnCoversFoundOfAll.j8 kj111 l3 a4 t146 t147 (decide (bt153.1 < t142))) else (laws_FnCoversFoundOfAll.j8 kj111 l3 a4 t146 t147 true))) else (if t147 = true then ((impl_CountLeft.f kj111 l3 a4).bind fun bt157 => (if bt157.2 = true then (some (t146 == (bt157.1 == 0))) else (some false))) else (some true))) = some true := by rw [if_neg (show ¬ (false = true) by decide)] at H; exact H
                                      clear H
                                      have H := H1
                                      clear H1
                                      by_cases c118 : a2 > 0
                                      · rw [if_pos c118] at H
                                        have c118b0 : decide (0 < a2) = true := decide_eq_true c118
                                        clear c118
                                        replace H := Option.bind_eq_some_iff.mp H
                                        obtain ⟨⟨t153, t154⟩, A1190, H⟩ := H
                                        replace H : (if t154 = true then (laws_FnCoversFoundOfAll.j8 kj111 l3 a4 t146 t147 (decide (t153 < t142))) else (laws_FnCoversFoundOfAll.j8 kj111 l3 a4 t146 t147 true)) = some true := H
                                        have A119 := Aside0.mk A1190
                                        clear A1190
                                        have HC120 := Aside0.mk H
                                        clear H
                                        go_upto_region 42 with (first | (go_at_call 10; (with_reducible refine (impl_CountCovers.calls kj111 _ _ l1 (wrap64 (a2 - 1)) t153 t154 _ ?side1 ?side2 A119.out).mono ?_); (case side1 => repeat (first | exact (Kd.C_below HR1.out HB.out) | (with_reducible refine Kd.C_alloc ?_ _) | (with_reducible refine Kd.C_drewN ?_ _) | (with_reducible refine Kd.C_drew ?_))); (case side2 => exact HC1.out); rintro e w121 ⟨rfl, hb⟩; have n0_ := Aside0.mk (below_step (by repeat (first | (with_reducible first | exact HB.out | apply below_alloc | apply pw_below_drewN | apply below_drew1) | exact HB.out)) hb); clear HB; have HB := n0_; clear n0_; (try clear hb); (try clear hb2); (try clear hk); (try clear hi)))
                                        repeat (go_quiet (first | (go_at_call 10; (with_reducible refine (impl_CountCovers.calls kj111 _ _ l1 (wrap64 (a2 - 1)) t153 t154 _ ?side1 ?side2 A119.out).mono ?_); (case side1 => repeat (first | exact (Kd.C_below HR1.out HB.out) | (with_reducible refine Kd.C_alloc ?_ _) | (with_reducible refine Kd.C_drewN ?_ _) | (with_reducible refine Kd.C_drew ?_))); (case side2 => exact HC1.out); rintro e w121 ⟨rfl, hb⟩; have n0_ := Aside0.mk (below_step (by repeat (first | (with_reducible first | exact HB.out | apply below_alloc | apply pw_below_drewN | apply below_drew1) | exact HB.out)) hb); clear HB; have HB := n0_; clear n0_; (try clear hb); (try clear hb2); (try clear hk); (try clear hi))); go_upto_region 42 with (first | (go_at_call 10; (with_reducible refine (impl_CountCovers.calls kj111 _ _ l1 (wrap64 (a2 - 1)) t153 t154 _ ?side1 ?side2 A119.out).mono ?_); (case side1 => repeat (first | exact (Kd.C_below HR1.out HB.out) | (with_reducible refine Kd.C_alloc ?_ _) | (with_reducible refine Kd.C_drewN ?_ _) | (with_reducible refine Kd.C_drew ?_))); (case side2 => exact HC1.out); rintro e w121 ⟨rfl, hb⟩; have n0_ := Aside0.mk (below_step (by repeat (first | (with_reducible first | exact HB.out | apply below_alloc | apply pw_below_drewN | apply below_drew1) | exact HB.out)) hb); clear HB; have HB := n0_; clear n0_; (try clear hb); (try clear hb2); (try clear hk); (try clear hi))))
                                        (try simp only [Act.put, List.setIfInBounds_toArray, List.set_cons_zero, List.set_cons_succ])
                                        go_cut [325] from 310 to 318 (fun v325 wc => ∃ (kq : Nat) (x325_119 : Bool), v325 = .bool x325_119 ∧ Aside0 (laws_FnCoversFoundOfAll.j8 kq l3 a4 t146 t147 x325_119 = some true) ∧ Aside0 (kq ≤ kj111) ∧ Aside0 (Below w.heap.size w wc))
                                        case first =>
                                          have H := HC120.out
                                          clear HC120
                                          by_cases c122 : t154 = true
                                          · subst c122
                                            have H1 : (laws_FnCoversFoundOfAll.j8 kj111 l3 a4 t146 t147 (decide (t153 < t142))) = some true := by rw [if_pos rfl] at H; exact H
                                            clear H
                                            have H := H1
                                            clear H1
                                            have H' := Aside0.mk H
                                            clear H
                                            go_wp2
                                            repeat (go_quiet (fail); try go_wp2)
                                            go_meet
                                            case rel => exact ⟨_, (decide (t153 < t142)), (by first | rfl | (simp; done) | (simp [*]; done)), H', ⟨by have := HJ5.out; have := HJ13.out; have := HJ28.out; have := HJ79.out; have := HJ111.out; first | omega | exact Nat.le_refl _⟩, ⟨by repeat (first | (with_reducible first | exact HB.out | apply below_alloc | apply pw_below_drewN | apply below_drew1) | exact HB.out)⟩⟩
                                          · replace c122 := Bool.eq_false_iff.mpr c122
                                            subst c122
                                            have H1 : (laws_FnCoversFoundOfAll.j8 kj111 l3 a4 t146 t147 true) = some true := by rw [if_neg (show ¬ (false = true) by decide)] at H; exact H
                                            clear H
                                            have H := H1
                                            clear H1
                                            have H' := Aside0.mk H
                                            clear H
                                            go_wp2
                                            repeat (go_quiet (fail); try go_wp2)
                                            go_meet
                                            case rel => exact ⟨_, (true), (by first | rfl | (simp; done) | (simp [*]; done)), H', ⟨by have := HJ5.out; have := HJ13.out; have := HJ28.out; have := HJ79.out; have := HJ111.out; first | omega | exact Nat.le_refl _⟩, ⟨by repeat (first | (with_reducible first | exact HB.out | apply below_alloc | apply pw_below_drewN | apply below_drew1) | exact HB.out)⟩⟩
                                        case rest =>
                                          clear HC120
                                          try clear c1
                                          try clear p1
                                          try clear q1
                                          try clear hx1
                                          try clear c2
                                          try clear p2
                                          try clear c3
                                          try clear c4
                                          try clear c5
                                          try clear c6
                                          try clear p6
                                          try clear c7
                                          try clear c7b0
                                          try clear c7b1
                                          try clear c8
                                          try clear c8b0
                                          try clear c8b1
                                          try clear c9
                                          try clear c10
                                          try clear c11
                                          try clear c12
                                          try clear p12
                                          try clear q12
                                          try clear hx12
                                          try clear p13
                                          try clear q13
                                          try clear hx13
                                          try clear c19
                                          try clear c19b0
                                          try clear c19b1
                                          try clear c19b2
                                          try clear c20
                                          try clear c20b0
                                          try clear c20b1
                                          try clear c21
                                          try clear c21b0
                                          try clear c21b1
                                          try clear c21b2
                                          try clear c23
                                          try clear c28
                                          try clear c30
                                          try clear c41
                                          try clear c42
                                          try clear c42b0
                                          try clear c42b1
                                          try clear c43
                                          try clear c44
                                          try clear c45
                                          try clear c45b0
                                          try clear c46
                                          try clear c47
                                          try clear c49
                                          try clear c50
                                          try clear c50b0
                                          try clear c51
                                          try clear c52
                                          try clear c54
                                          try clear c56
                                          try clear c56b0
                                          try clear c56b1
                                          try clear c58
                                          try clear c59
                                          try clear c59b0
                                          try clear c59b1
                                          try clear c62
                                          try clear c62b0
                                          try clear c62b1
                                          try clear c63
                                          try clear c63b0
                                          try clear c64
                                          try clear c64b0
                                          try clear p64
                                          try clear c65
                                          try clear c65b0
                                          try clear c66
                                          try clear c66b0
                                          try clear c67
                                          try clear c67b0
                                          try clear c67b1
                                          try clear c68
                                          try clear c68b0
                                          try clear c69
                                          try clear c69b0
                                          try clear c69b1
                                          try clear c70
                                          try clear c70b0
                                          try clear c70b1
                                          try clear c87
                                          try clear c87b0
                                          try clear c87b1
                                          try clear c87b2
                                          try clear c89
                                          try clear c90
                                          try clear c90b0
                                          try clear c90b1
                                          try clear c90b2
                                          try clear c93
                                          try clear c93b0
                                          try clear c93b1
                                          try clear c94
                                          try clear c94b0
                                          try clear c94b1
                                          try clear c94b2
                                          try clear c97
                                          try clear c97b0
                                          try clear c97b1
                                          try clear c97b2
                                          try clear c100
                                          try clear c109
                                          try clear c110
                                          try clear c115
                                          try clear c116
                                          try clear c117
                                          try clear c118
                                          try clear c118b0
                                          try clear c122
                                          try clear hcz72_0
                                          try clear hcz72_1
                                          try clear hfz72_0
                                          try clear hfz72_1
                                          try clear hx128_0
                                          try clear hx128_1
                                          try clear hx130_0
                                          try clear hx131_0
                                          try clear hx131_1
                                          try clear hx132_0
                                          try clear hx133_0
                                          try clear hx133_1
                                          try clear p1
                                          try clear p12
                                          try clear p128
                                          try clear p13
                                          try clear p130
                                          try clear p131
                                          try clear p132
                                          try clear p133
                                          try clear p2
                                          try clear p6
                                          try clear p64
                                          try clear q1
                                          try clear q12
                                          try clear q128
                                          try clear q13
                                          try clear q130
                                          try clear q131
                                          try clear q132
                                          try clear q133
                                          obtain ⟨kq, x325_119, rfl, HA, HJ119, HB⟩ := hcut
                                          cases kq with
                                          | zero => exact absurd HA.out (by simp [laws_FnCoversFoundOfAll.j8])
                                          | succ kj119 =>
                                            have H := HA.out
                                            clear HA
                                            simp only [laws_FnCoversFoundOfAll.j8] at H
                                            by_cases c123 : x325_119 = true
                                            · subst c123
                                              have H1 : (some false) = some true := by rw [if_pos rfl] at H; exact H
                                              clear H
                                              have H := H1
                                              clear H1
                                              exact absurd H (by simp)
                                            · replace c123 := Bool.eq_false_iff.mpr c123
                                              subst c123
                                              have H1 : (if t147 = true then ((impl_CountLeft.f kj119 l3 a4).bind fun bt155 => (if bt155.2 = true then (some (t146 == (bt155.1 == 0))) else (some false))) else (some true)) = some true := by rw [if_neg (show ¬ (false = true) by decide)] at H; exact H
                                              clear H
                                              have H := H1
                                              clear H1
                                              by_cases c124 : t147 = true
                                              · subst c124
                                                have H1 : ((impl_CountLeft.f kj119 l3 a4).bind fun bt155 => (if bt155.2 = true then (some (t146 == (bt155.1 == 0))) else (some false))) = some true := by rw [if_pos rfl] at H; exact H
                                                clear H
                                                have H := H1
                                                clear H1
                                                replace H := Option.bind_eq_some_iff.mp H
                                                obtain ⟨⟨t155, t156⟩, A1250, H⟩ := H
                                                replace H : (if t156 = true then (some (t146 == (t155 == 0))) else (some false)) = some true := H
                                                have A125 := Aside0.mk A1250
                                                clear A1250
                                                by_cases c126 : t156 = true
                                                · subst c126
                                                  have H1 : (some (t146 == (t155 == 0))) = some true := by rw [if_pos rfl] at H; exact H
                                                  clear H
                                                  have H := H1
                                                  clear H1
                                                  have HV_ := Option.some.inj H
                                                  try subst HV_
                                                  go_wp2_with (first | (go_at_call 26; (with_reducible refine (impl_CountLeft.calls kj119 _ _ l3 a4 t155 true _ ?side1 ?side2 A125.out).mono ?_); (case side1 => repeat (first | exact (Kd.C_below HR3.out HB.out) | (with_reducible refine Kd.C_alloc ?_ _) | (with_reducible refine Kd.C_drewN ?_ _) | (with_reducible refine Kd.C_drew ?_))); (case side2 => exact HC3.out); rintro e w127 ⟨rfl, hb⟩; have n0_ := Aside0.mk (below_step (by repeat (first | (with_reducible first | exact HB.out | apply below_alloc | apply pw_below_drewN | apply below_drew1) | exact HB.out)) hb); clear HB; have HB := n0_; clear n0_; (try clear hb); (try clear hb2); (try clear hk); (try clear hi)))
                                                  repeat (go_quiet (first | (go_at_call 26; (with_reducible refine (impl_CountLeft.calls kj119 _ _ l3 a4 t155 true _ ?side1 ?side2 A125.out).mono ?_); (case side1 => repeat (first | exact (Kd.C_below HR3.out HB.out) | (with_reducible refine Kd.C_alloc ?_ _) | (with_reducible refine Kd.C_drewN ?_ _) | (with_reducible refine Kd.C_drew ?_))); (case side2 => exact HC3.out); rintro e w127 ⟨rfl, hb⟩; have n0_ := Aside0.mk (below_step (by repeat (first | (with_reducible first | exact HB.out | apply below_alloc | apply pw_below_drewN | apply below_drew1) | exact HB.out)) hb); clear HB; have HB := n0_; clear n0_; (try clear hb); (try clear hb2); (try clear hk); (try clear hi))); try go_wp2_with (first | (go_at_call 26; (with_reducible refine (impl_CountLeft.calls kj119 _ _ l3 a4 t155 true _ ?side1 ?side2 A125.out).mono ?_); (case side1 => repeat (first | exact (Kd.C_below HR3.out HB.out) | (with_reducible refine Kd.C_alloc ?_ _) | (with_reducible refine Kd.C_drewN ?_ _) | (with_reducible refine Kd.C_drew ?_))); (case side2 => exact HC3.out); rintro e w127 ⟨rfl, hb⟩; have n0_ := Aside0.mk (below_step (by repeat (first | (with_reducible first | exact HB.out | apply below_alloc | apply pw_below_drewN | apply below_drew1) | exact HB.out)) hb); clear HB; have HB := n0_; clear n0_; (try clear hb); (try clear hb2); (try clear hk); (try clear hi))))
                                                  go_ret
                                                  exact ⟨by first | rfl | (simp [errW_none, errW_some] <;> rfl) | (simp [*, errW_none, errW_some] <;> rfl), by repeat (first | (with_reducible first | exact HB.out | apply below_alloc | apply pw_below_drewN | apply below_drew1) | exact HB.out)⟩
                                                · replace c126 := Bool.eq_false_iff.mpr c126
                                                  subst c126
                                                  have H1 : (some false) = some true := by rw [if_neg (show ¬ (false = true) by decide)] at H; exact H
                                                  clear H
                                                  have H := H1
                                                  clear H1
                                                  exact absurd H (by simp)
                                              · replace c124 := Bool.eq_false_iff.mpr c124
                                                subst c124
                                                have H1 : (some true) = some true := rfl
                                                clear H
                                                have H := H1
                                                clear H1
                                                clear H
                                                go_wp2
                                                repeat (go_quiet (fail); try go_wp2)
                                                go_ret
                                                exact ⟨by first | rfl | (simp [errW_none, errW_some] <;> rfl) | (simp [*, errW_none, errW_some] <;> rfl), by repeat (first | (with_reducible first | exact HB.out | apply below_alloc | apply pw_below_drewN | apply below_drew1) | exact HB.out)⟩
                                      · rw [if_neg c118] at H
                                        have c118b0 : decide (0 < a2) = false := decide_eq_false c118
                                        clear c118
                                        by_cases c128 : t147 = true
                                        · subst c128
                                          have H1 : ((impl_CountLeft.f kj111 l3 a4).bind fun bt157 => (if bt157.2 = true then (some (t146 == (bt157.1 == 0))) else (some false))) = some true := by rw [if_pos rfl] at H; exact H
                                          clear H
                                          have H := H1
                                          clear H1
                                          replace H := Option.bind_eq_some_iff.mp H
                                          obtain ⟨⟨t157, t158⟩, A1290, H⟩ := H
                                          replace H : (if t158 = true then (some (t146 == (t157 == 0))) else (some false)) = some true := H
                                          have A129 := Aside0.mk A1290
                                          clear A1290
                                          by_cases c130 : t158 = true
                                          · subst c130
                                            have H1 : (some (t146 == (t157 == 0))) = some true := by rw [if_pos rfl] at H; exact H
                                            clear H
                                            have H := H1
                                            clear H1
                                            have HV_ := Option.some.inj H
                                            try subst HV_
                                            go_wp2_with (first | (go_at_call 26; (with_reducible refine (impl_CountLeft.calls kj111 _ _ l3 a4 t157 true _ ?side1 ?side2 A129.out).mono ?_); (case side1 => repeat (first | exact (Kd.C_below HR3.out HB.out) | (with_reducible refine Kd.C_alloc ?_ _) | (with_reducible refine Kd.C_drewN ?_ _) | (with_reducible refine Kd.C_drew ?_))); (case side2 => exact HC3.out); rintro e w131 ⟨rfl, hb⟩; have n0_ := Aside0.mk (below_step (by repeat (first | (with_reducible first | exact HB.out | apply below_alloc | apply pw_below_drewN | apply below_drew1) | exact HB.out)) hb); clear HB; have HB := n0_; clear n0_; (try clear hb); (try clear hb2); (try clear hk); (try clear hi)))
                                            repeat (go_quiet (first | (go_at_call 26; (with_reducible refine (impl_CountLeft.calls kj111 _ _ l3 a4 t157 true _ ?side1 ?side2 A129.out).mono ?_); (case side1 => repeat (first | exact (Kd.C_below HR3.out HB.out) | (with_reducible refine Kd.C_alloc ?_ _) | (with_reducible refine Kd.C_drewN ?_ _) | (with_reducible refine Kd.C_drew ?_))); (case side2 => exact HC3.out); rintro e w131 ⟨rfl, hb⟩; have n0_ := Aside0.mk (below_step (by repeat (first | (with_reducible first | exact HB.out | apply below_alloc | apply pw_below_drewN | apply below_drew1) | exact HB.out)) hb); clear HB; have HB := n0_; clear n0_; (try clear hb); (try clear hb2); (try clear hk); (try clear hi))); try go_wp2_with (first | (go_at_call 26; (with_reducible refine (impl_CountLeft.calls kj111 _ _ l3 a4 t157 true _ ?side1 ?side2 A129.out).mono ?_); (case side1 => repeat (first | exact (Kd.C_below HR3.out HB.out) | (with_reducible refine Kd.C_alloc ?_ _) | (with_reducible refine Kd.C_drewN ?_ _) | (with_reducible refine Kd.C_drew ?_))); (case side2 => exact HC3.out); rintro e w131 ⟨rfl, hb⟩; have n0_ := Aside0.mk (below_step (by repeat (first | (with_reducible first | exact HB.out | apply below_alloc | apply pw_below_drewN | apply below_drew1) | exact HB.out)) hb); clear HB; have HB := n0_; clear n0_; (try clear hb); (try clear hb2); (try clear hk); (try clear hi))))
                                            go_ret
                                            exact ⟨by first | rfl | (simp [errW_none, errW_some] <;> rfl) | (simp [*, errW_none, errW_some] <;> rfl), by repeat (first | (with_reducible first | exact HB.out | apply below_alloc | apply pw_below_drewN | apply below_drew1) | exact HB.out)⟩
                                          · replace c130 := Bool.eq_false_iff.mpr c130
                                            subst c130
                                            have H1 : (some false) = some true := by rw [if_neg (show ¬ (false = true) by decide)] at H; exact H
                                            clear H
                                            have H := H1
                                            clear H1
                                            exact absurd H (by simp)
                                        · replace c128 := Bool.eq_false_iff.mpr c128
                                          subst c128
                                          have H1 : (some true) = some true := rfl
                                          clear H
                                          have H := H1
                                          clear H1
                                          clear H
                                          go_wp2
                                          repeat (go_quiet (fail); try go_wp2)
                                          go_ret
                                          exact ⟨by first | rfl | (simp [errW_none, errW_some] <;> rfl) | (simp [*, errW_none, errW_some] <;> rfl), by repeat (first | (with_reducible first | exact HB.out | apply below_alloc | apply pw_below_drewN | apply below_drew1) | exact HB.out)⟩
                              · replace c110 := Bool.eq_false_iff.mpr c110
                                subst c110
                                have H1 : (if t147 = true then ((impl_CountLeft.f kj79 l3 a4).bind fun bt159 => (if bt159.2 = true then (some (t146 == (bt159.1 == 0))) else (some false))) else (some true)) = some true := by rw [if_neg (show ¬ (false = true) by decide)] at H; exact H
                                clear H
                                have H := H1
                                clear H1
                                by_cases c132 : t147 = true
                                · subst c132
                                  have H1 : ((impl_CountLeft.f kj79 l3 a4).bind fun bt159 => (if bt159.2 = true then (some (t146 == (bt159.1 == 0))) else (some false))) = some true := by rw [if_pos rfl] at H; exact H
                                  clear H
                                  have H := H1
                                  clear H1
                                  replace H := Option.bind_eq_some_iff.mp H
                                  obtain ⟨⟨t159, t160⟩, A1330, H⟩ := H
                                  replace H : (if t160 = true then (some (t146 == (t159 == 0))) else (some false)) = some true := H
                                  have A133 := Aside0.mk A1330
                                  clear A1330
                                  by_cases c134 : t160 = true
                                  · subst c134
                                    have H1 : (some (t146 == (t159 == 0))) = some true := by rw [if_pos rfl] at H; exact H
                                    clear H
                                    have H := H1
                                    clear H1
                                    have HV_ := Option.some.inj H
                                    try subst HV_
                                    go_wp2_with (first | (go_at_call 26; (with_reducible refine (impl_CountLeft.calls kj79 _ _ l3 a4 t159 true _ ?side1 ?side2 A133.out).mono ?_); (case side1 => repeat (first | exact (Kd.C_below HR3.out HB.out) | (with_reducible refine Kd.C_alloc ?_ _) | (with_reducible refine Kd.C_drewN ?_ _) | (with_reducible refine Kd.C_drew ?_))); (case side2 => exact HC3.out); rintro e w135 ⟨rfl, hb⟩; have n0_ := Aside0.mk (Kd.R_below (by (with_reducible repeat (first | apply Kd.R_alloc | apply Kd.R_drewN | apply Kd.R_drew)); exact HO_31.out) hb); have n1_ := Aside0.mk (below_step (by repeat (first | (with_reducible first | exact HB.out | apply below_alloc | apply pw_below_drewN | apply below_drew1) | exact HB.out)) hb); clear HO_31; clear HB; have HO_31 := n0_; have HB := n1_; clear n0_ n1_; (try clear hb); (try clear hb2); (try clear hk); (try clear hi)))
                                    repeat (go_quiet (first | (go_at_call 26; (with_reducible refine (impl_CountLeft.calls kj79 _ _ l3 a4 t159 true _ ?side1 ?side2 A133.out).mono ?_); (case side1 => repeat (first | exact (Kd.C_below HR3.out HB.out) | (with_reducible refine Kd.C_alloc ?_ _) | (with_reducible refine Kd.C_drewN ?_ _) | (with_reducible refine Kd.C_drew ?_))); (case side2 => exact HC3.out); rintro e w135 ⟨rfl, hb⟩; have n0_ := Aside0.mk (Kd.R_below (by (with_reducible repeat (first | apply Kd.R_alloc | apply Kd.R_drewN | apply Kd.R_drew)); exact HO_31.out) hb); have n1_ := Aside0.mk (below_step (by repeat (first | (with_reducible first | exact HB.out | apply below_alloc | apply pw_below_drewN | apply below_drew1) | exact HB.out)) hb); clear HO_31; clear HB; have HO_31 := n0_; have HB := n1_; clear n0_ n1_; (try clear hb); (try clear hb2); (try clear hk); (try clear hi))); try go_wp2_with (first | (go_at_call 26; (with_reducible refine (impl_CountLeft.calls kj79 _ _ l3 a4 t159 true _ ?side1 ?side2 A133.out).mono ?_); (case side1 => repeat (first | exact (Kd.C_below HR3.out HB.out) | (with_reducible refine Kd.C_alloc ?_ _) | (with_reducible refine Kd.C_drewN ?_ _) | (with_reducible refine Kd.C_drew ?_))); (case side2 => exact HC3.out); rintro e w135 ⟨rfl, hb⟩; have n0_ := Aside0.mk (Kd.R_below (by (with_reducible repeat (first | apply Kd.R_alloc | apply Kd.R_drewN | apply Kd.R_drew)); exact HO_31.out) hb); have n1_ := Aside0.mk (below_step (by repeat (first | (with_reducible first | exact HB.out | apply below_alloc | apply pw_below_drewN | apply below_drew1) | exact HB.out)) hb); clear HO_31; clear HB; have HO_31 := n0_; have HB := n1_; clear n0_ n1_; (try clear hb); (try clear hb2); (try clear hk); (try clear hi))))
                                    go_ret
                                    exact ⟨by first | rfl | (simp [errW_none, errW_some] <;> rfl) | (simp [*, errW_none, errW_some] <;> rfl), by repeat (first | (with_reducible first | exact HB.out | apply below_alloc | apply pw_below_drewN | apply below_drew1) | exact HB.out)⟩
                                  · replace c134 := Bool.eq_false_iff.mpr c134
                                    subst c134
                                    have H1 : (some false) = some true := by rw [if_neg (show ¬ (false = true) by decide)] at H; exact H
                                    clear H
                                    have H := H1
                                    clear H1
                                    exact absurd H (by simp)
                                · replace c132 := Bool.eq_false_iff.mpr c132
                                  subst c132
                                  have H1 : (some true) = some true := rfl
                                  clear H
                                  have H := H1
                                  clear H1
                                  clear H
                                  go_wp2
                                  repeat (go_quiet (fail); try go_wp2)
                                  go_ret
                                  exact ⟨by first | rfl | (simp [errW_none, errW_some] <;> rfl) | (simp [*, errW_none, errW_some] <;> rfl), by repeat (first | (with_reducible first | exact HB.out | apply below_alloc | apply pw_below_drewN | apply below_drew1) | exact HB.out)⟩
def laws_FnCoversFoundOfAll.Pure : Prop := ∀ (l0 : List Int) (l1 : List Int) (a2 : Int) (l3 : List (SRule)) (a4 : Int), l0.length ≤ 9223372036854775807 → (∀ z_ ∈ l0, (Lit.int .i64 z_).wf = true) → l1.length ≤ 9223372036854775807 → (∀ z_ ∈ l1, (Lit.int .i64 z_).wf = true) → (Lit.int .i64 a2).wf = true → l3.length ≤ 9223372036854775807 → (Lit.int .i64 a4).wf = true → ∃ k, laws_FnCoversFoundOfAll.f k l0 l1 a2 l3 a4 = some true
end Go.Proofs.Ytphlfkeamhpimaa.P
