/- What functions of the program answer. Proved in this text: its theorems. Conditions: as each theorem states them. -/
import Derived.Test.YtdcijdeiaefjpaaCFnGapsToldP
import Derived.Test.YtdcijdeiaefjpaaCFnGapsToldF0
import Derived.Test.YtdcijdeiaefjpaaCFnGapsToldF1
import Derived.Test.YtdcijdeiaefjpaaCFnGapsToldF2
namespace Go.Proofs.Ytdcijdeiaefjpaa.P
open Go.RowKit Go.Proofs.YtdcijdeiaefjpaaW.PrintWords Go.Proofs.YtdcijdeiaefjpaaW.PrintLast Go.Proofs.YtdcijdeiaefjpaaW.PrintMore
attribute [local go_sem] max2_int min2_int max_two min_two max_three min_three max_four min_four
set_option linter.unusedVariables false
set_option linter.unusedSimpArgs false
mutual
def laws_FnGapsTold.j0 : Nat → List Int → List (SRule) → List Int → Bool → Int → Int → Int → Int → Bool → Bool → Option (Bool)
 | 0, _, _, _, _, _, _, _, _, _, _ => none
 | k + 1, x1, x5, x6, x7, x10, x11, x16, x20, x21, x196 => if x196 = true then (some false) else (if x7 = true then ((impl_PeriodOfRules.f k x5).bind fun bt128 => ((impl_LeftInPeriod.f k x5).bind fun bt130 => (if bt128.2 = true then (if bt130.2 = true then (if (x6.length : Int) = bt130.1 then ((laws_tSum.f k x6).bind fun t132 => (if t132 = bt128.1 then (if x16 = (wrap64 (x10 - 1)) then (laws_FnGapsTold.l0 k x1 x5 x6 x10 x11 x20 x21 bt128.1 x6 (x6.length : Int) 0) else (some false)) else (some false))) else (some false)) else (some false)) else (some false)))) else (laws_FnGapsTold.j6 k x1))
def laws_FnGapsTold.j6 : Nat → List Int → Option (Bool)
 | 0, _ => none
 | k + 1, x1 => (spec_DrawGapsUpTo.f k x1).bind fun bt149 => ((impl_GapsUpTo.f k bt149.1 bt149.2).bind fun bt153 => ((spec_GapsUpTo.f k bt149.1 bt149.2).bind fun bt157 => ((impl_RecordGaps.f k bt149.1 bt149.2).bind fun bt161 => ((spec_RecordGaps.f k bt149.1 bt149.2).bind fun bt165 => (if (bt153.2 != bt157.2) = true then (some false) else ((laws_tSame.f k bt153.1 bt157.1).bind fun t169 => (if t169 = true then (if (bt161.2 != bt165.2) = true then (some false) else ((laws_tRows.f k bt161.1 bt165.1).bind fun t170 => (if t170 = true then (if (bt161.2 != bt153.2) = true then (some false) else (if bt153.2 = true then ((impl_LeftUpTo.f k bt149.1 bt149.2).bind fun bt171 => (if bt171.2 = true then (if (bt171.1.length : Int) > 0 then (if (bt153.1.length : Int) = (wrap64 ((bt171.1.length : Int) - 1)) then ((laws_tSum.f k bt153.1).bind fun t175 => (if 0 ≤ (wrap64 ((bt171.1.length : Int) - 1)) then (if (wrap64 ((bt171.1.length : Int) - 1)) < (bt171.1.length : Int) then (if 0 < (bt171.1.length : Int) then (laws_FnGapsTold.j7 k x1 bt149.1 bt153.1 bt161.1 bt171.1 (t175 != (wrap64 ((rd bt171.1 (wrap64 ((bt171.1.length : Int) - 1))) - (rd bt171.1 0))))) else (none)) else (none)) else (none))) else (some false)) else (laws_FnGapsTold.j7 k x1 bt149.1 bt153.1 bt161.1 bt171.1 false)) else (some false))) else (laws_FnGapsTold.j10 k x1))) else (some false)))) else (some false))))))))
def laws_FnGapsTold.j10 : Nat → List Int → Option (Bool)
 | 0, _ => none
 | k + 1, x1 => (spec_DrawMostInWindow.f k x1).bind fun bt191 => ((impl_MostInWindow.f k bt191.1 bt191.2).bind fun bt195 => ((spec_MostInWindow.f k bt191.1 bt191.2).bind fun bt197 => ((impl_LeastInWindow.f k bt191.1 bt191.2).bind fun bt199 => ((spec_LeastInWindow.f k bt191.1 bt191.2).bind fun bt201 => ((spec_DrawPairsInPeriod.f k x1).bind fun bt203 => ((impl_PairsInPeriod.f k bt203.1 bt203.2).bind fun bt207 => ((spec_PairsInPeriod.f k bt203.1 bt203.2).bind fun bt209 => ((spec_DrawCountGaps.f k x1).bind fun bt211 => ((impl_CountGaps.f k bt211.1 bt211.2).bind fun bt215 => ((spec_CountGaps.f k bt211.1 bt211.2).bind fun bt217 => (if (bt195.2 == bt197.2) = true then (if bt195.1 = bt197.1 then (if (bt199.2 == bt201.2) = true then (if bt199.1 = bt201.1 then (if (bt195.2 == bt199.2) = true then (if bt195.1 ≥ bt199.1 then (if (bt207.2 == bt209.2) = true then (if bt207.1 = bt209.1 then (if (bt215.2 == bt217.2) = true then (some (bt215.1 == bt217.1)) else (some false)) else (some false)) else (some false)) else (some false)) else (some false)) else (some false)) else (some false)) else (some false)) else (some false))))))))))))
def laws_FnGapsTold.j7 : Nat → List Int → List (SRule) → List Int → List (List Int) → List Int → Bool → Option (Bool)
 | 0, _, _, _, _, _, _ => none
 | k + 1, x1, x45, x47, x51, x55, x453 => if x453 = true then (some false) else (laws_FnGapsTold.l2 k x1 x45 x47 x55 0 x51 (x51.length : Int) 0)
def laws_FnGapsTold.l2 : Nat → List Int → List (SRule) → List Int → List Int → Int → List (List Int) → Int → Int → Option (Bool)
 | 0, _, _, _, _, _, _, _, _ => none
 | k + 1, x1, x45, x47, x55, x57, x454, x455, x456 => if x456 < x455 then (if 0 ≤ x456 then (if x456 < (x454.length : Int) then (if 0 < ((rd_Ints x454 x456).length : Int) then ((impl_NextLeft.f k x45 (rd (rd_Ints x454 x456) 0)).bind fun bt180 => ((laws_tHas.f k x55 (rd (rd_Ints x454 x456) 0)).bind fun t183 => (if t183 = true then (if 1 < ((rd_Ints x454 x456).length : Int) then (if (rd (rd_Ints x454 x456) 1) ≤ x57 then (some false) else ((laws_tHas.f k x47 (rd (rd_Ints x454 x456) 1)).bind fun t186 => (if t186 = true then (if bt180.2 = true then (if bt180.1 = (wrap64 ((rd (rd_Ints x454 x456) 0) + (rd (rd_Ints x454 x456) 1))) then (laws_FnGapsTold.l2 k x1 x45 x47 x55 (rd (rd_Ints x454 x456) 1) x454 x455 (wrap64 (x456 + 1))) else (some false)) else (some false)) else (some false)))) else (none)) else (some false)))) else (none)) else (none)) else (none)) else (laws_FnGapsTold.l3 k x1 x57 x47 (x47.length : Int) 0)
def laws_FnGapsTold.l3 : Nat → List Int → Int → List Int → Int → Int → Option (Bool)
 | 0, _, _, _, _, _ => none
 | k + 1, x1, x57, x508, x509, x510 => if x510 < x509 then (if 0 ≤ x510 then (if x510 < (x508.length : Int) then (if (rd x508 x510) > x57 then (some false) else (laws_FnGapsTold.l3 k x1 x57 x508 x509 (wrap64 (x510 + 1)))) else (none)) else (none)) else (laws_FnGapsTold.j10 k x1)
def laws_FnGapsTold.l0 : Nat → List Int → List (SRule) → List Int → Int → Int → Int → Bool → Int → List Int → Int → Int → Option (Bool)
 | 0, _, _, _, _, _, _, _, _, _, _, _ => none
 | k + 1, x1, x5, x6, x10, x11, x20, x21, x24, x232, x233, x234 => if x234 < x233 then (if 0 ≤ x234 then (if x234 < (x232.length : Int) then (if (rd x232 x234) < 1 then (some false) else (if (rd x232 x234) > x10 then (some false) else (laws_FnGapsTold.l0 k x1 x5 x6 x10 x11 x20 x21 x24 x232 x233 (wrap64 (x234 + 1))))) else (none)) else (none)) else ((impl_CountGaps.f k x5 x10).bind fun bt134 => (if bt134.2 = true then (if bt134.1 < 1 then (some false) else ((laws_tHas.f k x6 x10).bind fun t136 => (if t136 = true then (if x11 < 0 then (some false) else (if x11 ≥ x24 then (some false) else (if x10 ≤ 200 then ((impl_LeastInWindow.f k x5 (wrap64 (x10 - 1))).bind fun bt137 => ((impl_LeastInWindow.f k x5 x10).bind fun bt139 => (if bt137.2 = true then (if bt137.1 = 0 then (if bt139.2 = true then (if bt139.1 < 1 then (some false) else (laws_FnGapsTold.j2 k x1 x5 x20 x21)) else (some false)) else (some false)) else (some false)))) else (laws_FnGapsTold.j2 k x1 x5 x20 x21)))) else (some false)))) else (some false)))
def laws_FnGapsTold.j2 : Nat → List Int → List (SRule) → Int → Bool → Option (Bool)
 | 0, _, _, _, _ => none
 | k + 1, x1, x5, x20, x21 => if x21 = true then (laws_FnGapsTold.j3 k x1 x5 x20 (decide (x20 < 200))) else (laws_FnGapsTold.j3 k x1 x5 x20 false)
def laws_FnGapsTold.j3 : Nat → List Int → List (SRule) → Int → Bool → Option (Bool)
 | 0, _, _, _, _ => none
 | k + 1, x1, x5, x20, x306 => if x306 = true then ((impl_MostInWindow.f k x5 x20).bind fun bt141 => ((impl_MostInWindow.f k x5 (wrap64 (x20 + 1))).bind fun bt143 => (if bt141.2 = true then (if bt141.1 = x20 then (if bt143.2 = true then (if bt143.1 > x20 then (some false) else (laws_FnGapsTold.j4 k x1 x5)) else (some false)) else (some false)) else (some false)))) else (laws_FnGapsTold.j4 k x1 x5)
def laws_FnGapsTold.j4 : Nat → List Int → List (SRule) → Option (Bool)
 | 0, _, _ => none
 | k + 1, x1, x5 => laws_FnGapsTold.l1 k x1 x5 1
def laws_FnGapsTold.l1 : Nat → List Int → List (SRule) → Int → Option (Bool)
 | 0, _, _, _ => none
 | k + 1, x1, x5, x40 => if x40 ≤ 6 then ((impl_CountGaps.f k x5 x40).bind fun bt145 => ((impl_PairsInPeriod.f k x5 x40).bind fun bt147 => (if bt145.2 = true then (if bt147.2 = true then (if bt145.1 > bt147.1 then (some false) else (laws_FnGapsTold.l1 k x1 x5 (wrap64 (x40 + 1)))) else (some false)) else (some false)))) else (laws_FnGapsTold.j6 k x1)
end
def laws_FnGapsTold.f (k : Nat) (l0 : List Int) (l1 : List Int) : Option (Bool) := (laws_big.f l0 l1).bind fun t101 => (if t101 = true then (some true) else ((spec_DrawGapsOfPeriod.f k l0).bind fun t102 => ((impl_GapsOfPeriod.f k t102).bind fun bt105 => ((spec_GapsOfPeriod.f k t102).bind fun bt109 => ((impl_LongestGap.f k t102).bind fun bt113 => ((spec_LongestGap.f k t102).bind fun bt116 => ((impl_LongestRunOut.f k t102).bind fun bt119 => ((spec_LongestRunOut.f k t102).bind fun bt121 => ((impl_LongestRunLeft.f k t102).bind fun bt123 => ((spec_LongestRunLeft.f k t102).bind fun bt125 => (if (bt105.2 != bt109.2) = true then (some false) else ((laws_tSame.f k bt105.1 bt109.1).bind fun t127 => (if t127 = true then (if (bt113.2.2 != bt116.2.2) = true then (some false) else (if bt113.1 = bt116.1 then (if bt113.2.1 = bt116.2.1 then (if (bt119.2 != bt121.2) = true then (some false) else (if bt119.1 = bt121.1 then (if (bt123.2 != bt125.2) = true then (some false) else (if bt123.1 = bt125.1 then (if (bt113.2.2 != bt105.2) = true then (some false) else (if (bt119.2 != bt105.2) = true then (some false) else (if bt105.2 = true then (laws_FnGapsTold.j0 k l1 t102 bt105.1 bt105.2 bt113.1 bt113.2.1 bt119.1 bt123.1 bt123.2 (bt123.2 != (decide ((t102.length : Int) > 0)))) else (laws_FnGapsTold.j0 k l1 t102 bt105.1 bt105.2 bt113.1 bt113.2.1 bt119.1 bt123.1 bt123.2 (bt123.2 != false))))) else (some false))) else (some false))) else (some false)) else (some false))) else (some false))))))))))))))
def laws_FnGapsTold.T54 : Bool × List (List Nat × List Nat) := (true, [([], []), ([0], [0]), ([1], [1]), ([2], [2]), ([3, 2], [2, 3]), ([4, 2], [2, 4]), ([5, 2, 2], [2, 5]), ([6], [6]), ([7, 6], [6, 7]), ([6], [6]), ([9, 6], [6, 9]), ([10, 6], [6, 10]), ([8, 11, 6], [6, 8, 11]), ([12, 6, 6], [6, 12]), ([13], [13]), ([14, 13, 13], [13, 14]), ([13], [13]), ([13], [13]), ([17, 13], [13, 17]), ([18, 13], [13, 18]), ([16, 19, 13], [13, 16, 19]), ([20, 13], [13, 20]), ([13], [13]), ([22, 13], [13, 22]), ([23, 13], [13, 23]), ([21, 24, 13], [13, 21, 24]), ([15, 25, 13], [13, 15, 25]), ([13, 26, 6], [6, 13, 26]), ([6, 27, 2], [2, 6, 27]), ([2, 28], [2, 28])])
def laws_FnGapsTold.B54 : List Nat := [0, 1, 3, 7, 15, 31, 63, 127, 255, 127, 639, 1663, 4095, 8191, 16383, 32767, 16383, 16383, 147455, 409599, 999423, 2047999, 16383, 4210687, 12599295, 33505279, 67108863, 134217727, 268435455, 536870911]
theorem laws_FnGapsTold.tab54 : rtab .any (opsOf Try.f4 54) = laws_FnGapsTold.T54 := by kernel_rfl
theorem laws_FnGapsTold.bits54 : waitsOk laws_FnGapsTold.T54.2 laws_FnGapsTold.B54 = true := by kernel_rfl
def laws_FnGapsTold.T61 : Bool × List (List Nat × List Nat) := (true, [([], []), ([], []), ([1], [1]), ([2], [2]), ([0, 3], [0, 3]), ([4], [4]), ([5, 4], [5]), ([6], [6]), ([7, 6], [6, 7]), ([8, 6], [6, 8]), ([6], [6]), ([9, 10, 6], [6, 9, 10]), ([6, 11], [6, 11]), ([12, 6], [12]), ([13], [13]), ([13], [13]), ([15, 13], [13, 15]), ([16, 13], [13, 16]), ([14, 17, 13, 13], [13, 14, 17]), ([18, 13], [13, 18]), ([13, 19], [13, 19]), ([20, 18], [20]), ([21], [21]), ([22, 21], [21, 22]), ([21, 23], [21, 23]), ([24, 21], [24]), ([25], [25]), ([25], [25]), ([27, 25], [25, 27]), ([28, 25], [25, 28]), ([25], [25]), ([30, 25], [25, 30]), ([31, 25], [25, 31]), ([29, 32, 25], [25, 29, 32]), ([26, 33, 25], [25, 26, 33]), ([25, 34], [25, 34])])
def laws_FnGapsTold.B61 : List Nat := [0, 0, 2, 6, 15, 31, 63, 127, 255, 511, 127, 2047, 4095, 8191, 16383, 16383, 49151, 114687, 262143, 524287, 1048575, 2097151, 4194303, 8388607, 16777215, 33554431, 67108863, 67108863, 201326591, 469762047, 67108863, 1140850687, 3288334335, 8522825727, 17179869183, 34359738367]
theorem laws_FnGapsTold.tab61 : rtab .any (opsOf Try.f4 61) = laws_FnGapsTold.T61 := by kernel_rfl
theorem laws_FnGapsTold.bits61 : waitsOk laws_FnGapsTold.T61.2 laws_FnGapsTold.B61 = true := by kernel_rfl
set_option maxHeartbeats 8000000 in
set_option maxRecDepth 100000 in
theorem laws_FnGapsTold.calls (k : Nat) (A0 : Option Addr) (c0 : Nat) (l0 : List Int) (A1 : Option Addr) (c1 : Nat) (l1 : List Int) (w : World) (hr0 : Kd.C (Kd.int .u8) w A0 l0.length l0) (hc0 : l0.length ≤ c0) (hr1 : Kd.C (Kd.int .u8) w A1 l1.length l1) (hc1 : l1.length ≤ c1) (h : laws_FnGapsTold.f k l0 l1 = some true) :
  Calls Try.prog 4 #[.slice A0 l0.length c0, .slice A1 l1.length c1] w fun e w' => e = .returned (.bool true) ∧ Below w.heap.size w w' := by
 have HR0 := Aside0.mk hr0
 have HC0 := Aside0.mk hc0
 clear hr0 hc0
 have HR1 := Aside0.mk hr1
 have HC1 := Aside0.mk hc1
 clear hr1 hc1
 have HB := Aside0.mk (Below.refl w.heap.size w)
 have H : ((laws_big.f l0 l1).bind fun t101 => (if t101 = true then (some true) else ((spec_DrawGapsOfPeriod.f k l0).bind fun t102 => ((impl_GapsOfPeriod.f k t102).bind fun bt105 => ((spec_GapsOfPeriod.f k t102).bind fun bt109 => ((impl_LongestGap.f k t102).bind fun bt113 => ((spec_LongestGap.f k t102).bind fun bt116 => ((impl_LongestRunOut.f k t102).bind fun bt119 => ((spec_LongestRunOut.f k t102).bind fun bt121 => ((impl_LongestRunLeft.f k t102).bind fun bt123 => ((spec_LongestRunLeft.f k t102).bind fun bt125 => (if (bt105.2 != bt109.2) = true then (some false) else ((laws_tSame.f k bt105.1 bt109.1).bind fun t127 => (if t127 = true then (if (bt113.2.2 != bt116.2.2) = true then (some false) else (if bt113.1 = bt116.1 then (if bt113.2.1 = bt116.2.1 then (if (bt119.2 != bt121.2) = true then (some false) else (if bt119.1 = bt121.1 then (if (bt123.2 != bt125.2) = true then (some false) else (if bt123.1 = bt125.1 then (if (bt113.2.2 != bt105.2) = true then (some false) else (if (bt119.2 != bt105.2) = true then (some false) else (if bt105.2 = true then (laws_FnGapsTold.j0 k l1 t102 bt105.1 bt105.2 bt113.1 bt113.2.1 bt119.1 bt123.1 bt123.2 (bt123.2 != (decide ((t102.length : Int) > 0)))) else (laws_FnGapsTold.j0 k l1 t102 bt105.1 bt105.2 bt113.1 bt113.2.1 bt119.1 bt123.1 bt123.2 (bt123.2 != false))))) else (some false))) else (some false))) else (some false)) else (some false))) else (some false))))))))))))))) = some true := h
 clear h
 obtain ⟨t101, A3, H⟩ := obnd_ H
 (try dsimp only at H)
 by_cases c4 : t101 = true
 ·subst c4
  have H1 : (some true) = some true := rfl
  clear H
  have H := H1
  clear H1
  clear H
  go_enter Try.func4, Try.ntmps4
  go_wp2_with (first | ((with_reducible refine gate_callee (f := 5) rfl ?_); refine goesL_ (some 88) rfl rfl Try.func5 (by kernel_rfl) rfl #[.slice A0 l0.length c0, .slice A1 l1.length c1] rfl k35_ ?_; (with_reducible refine (laws_big.calls _ _ l0 _ _ l1 true _ ?side1 ?side2 ?side3 ?side4 A3.out).mono ?_); (case side1 => exact k31_); (case side2 => exact k77_); (case side3 => exact k32_); (case side4 => exact HC1.out); rintro e w' ⟨rfl, ⟨nd, rfl⟩⟩; refine ⟨_, rfl, ?_⟩))
  go_ret
  exact ⟨k46_, k49_⟩
 ·replace c4 := Bool.eq_false_iff.mpr c4
  subst c4
  rw [if_neg (show ¬ (false = true) by decide)] at H
  obtain ⟨t102, A5, H⟩ := obnd_ H
  (try dsimp only at H)
  obtain ⟨⟨t105, t106⟩, A6, H⟩ := obnd_ H
  (try dsimp only at H)
  obtain ⟨⟨t109, t110⟩, A7, H⟩ := obnd_ H
  (try dsimp only at H)
  obtain ⟨⟨t113, t114, t115⟩, A8, H⟩ := obnd_ H
  (try dsimp only at H)
  obtain ⟨⟨t116, t117, t118⟩, A9, H⟩ := obnd_ H
  (try dsimp only at H)
  obtain ⟨⟨t119, t120⟩, A10, H⟩ := obnd_ H
  (try dsimp only at H)
  obtain ⟨⟨t121, t122⟩, A11, H⟩ := obnd_ H
  (try dsimp only at H)
  obtain ⟨⟨t123, t124⟩, A12, H⟩ := obnd_ H
  (try dsimp only at H)
  obtain ⟨⟨t125, t126⟩, A13, H⟩ := obnd_ H
  (try dsimp only at H)
  have HC14 := Aside0.mk H
  clear H
  go_enter Try.func4, Try.ntmps4
  go_upto_region 12 with (first | ((with_reducible refine gate_callee (f := 5) rfl ?_); refine goesL_ (some 88) rfl rfl Try.func5 (by kernel_rfl) rfl #[.slice A0 l0.length c0, .slice A1 l1.length c1] rfl k35_ ?_; (with_reducible refine (laws_big.calls _ _ l0 _ _ l1 false _ ?side1 ?side2 ?side3 ?side4 A3.out).mono ?_); (case side1 => exact k31_); (case side2 => exact k77_); (case side3 => exact k32_); (case side4 => exact HC1.out); rintro e w' ⟨rfl, ⟨nd, rfl⟩⟩; refine ⟨_, rfl, ?_⟩) | ((with_reducible refine gate_callee (f := 22) rfl ?_); refine goesL_ (some 90) rfl rfl Try.func22 (by kernel_rfl) rfl #[.slice A0 l0.length c0] rfl k35_ ?_; (with_reducible refine (spec_DrawGapsOfPeriod.calls k _ _ l0 t102 _ ?side1 ?side2 A5.out).mono ?_); (case side1 => exact k31_); (case side2 => exact k77_); rintro e w15 ⟨v103, rfl, ho0, hb⟩; refine ⟨_, rfl, ?_⟩; have HO104 := Aside0.mk (Kd.R_lower ho0 (below_size k49_)); replace HB := HB.mw hb; (try clear hb ho0); obtain ⟨Ao16, co16, eo16⟩ := Kd.R_slice HO104.out; subst eo16) | ((with_reducible refine gate_callee (f := 23) rfl ?_); refine goesL_ (some 93) rfl rfl Try.func23 (by kernel_rfl) rfl #[.slice Ao16 t102.length co16] rfl k35_ ?_; (with_reducible refine (impl_GapsOfPeriod.calls k _ _ t102 t105 t106 _ ?side1 ?side2 A6.out).mono ?_); (case side1 => exact k21_); (case side2 => exact k74_); rintro e w17 ⟨v107, rfl, ho0, hb⟩; refine ⟨_, rfl, ?_⟩; replace HO104 := HO104.mw hb; have HO108 := Aside0.mk (Kd.R_lower ho0 (below_size k49_)); replace HB := HB.mw hb; (try clear hb ho0)) | ((with_reducible refine gate_callee (f := 24) rfl ?_); refine goesL_ (some 98) rfl rfl Try.func24 (by kernel_rfl) rfl #[.slice Ao16 t102.length co16] rfl k35_ ?_; (with_reducible refine (spec_GapsOfPeriod.calls k _ _ t102 t109 t110 _ ?side1 ?side2 A7.out).mono ?_); (case side1 => exact k21_); (case side2 => exact k74_); rintro e w18 ⟨v111, rfl, ho0, hb⟩; refine ⟨_, rfl, ?_⟩; replace HO104 := HO104.mw hb; have HO112 := Aside0.mk (Kd.R_lower (Kd.R_new' ho0 (Kd.R_lt (by apply_rules only [HO108.out, Kd.R_alloc, Kd.R_drewN, Kd.R_drew]))) (below_size k49_)); replace HO108 := Aside0.mk (Kd.R_elder' (by apply_rules only [HO108.out, Kd.R_alloc, Kd.R_drewN, Kd.R_drew]) (Kd.R_base ho0) hb); replace HB := HB.mw hb; (try clear hb ho0)) | ((with_reducible refine gate_callee (f := 25) rfl ?_); refine goesL_ (some 103) rfl rfl Try.func25 (by kernel_rfl) rfl #[.slice Ao16 t102.length co16] rfl k35_ ?_; (with_reducible refine (impl_LongestGap.calls k _ _ t102 t113 t114 t115 _ ?side1 ?side2 A8.out).mono ?_); (case side1 => exact k21_); (case side2 => exact k74_); rintro e w19 ⟨rfl, hb⟩; refine ⟨_, rfl, ?_⟩; replace HO104 := HO104.mw hb; replace HO108 := HO108.mw hb; replace HO112 := HO112.mw hb; replace HB := HB.mw hb; (try clear hb)) | ((with_reducible refine gate_callee (f := 26) rfl ?_); refine goesL_ (some 109) rfl rfl Try.func26 (by kernel_rfl) rfl #[.slice Ao16 t102.length co16] rfl k35_ ?_; (with_reducible refine (spec_LongestGap.calls k _ _ t102 t116 t117 t118 _ ?side1 ?side2 A9.out).mono ?_); (case side1 => exact k21_); (case side2 => exact k74_); rintro e w20 ⟨rfl, hb⟩; refine ⟨_, rfl, ?_⟩; replace HO104 := HO104.mw hb; replace HO108 := HO108.mw hb; replace HO112 := HO112.mw hb; replace HB := HB.mw hb; (try clear hb)) | ((with_reducible refine gate_callee (f := 15) rfl ?_); refine goesL_ (some 115) rfl rfl Try.func15 (by kernel_rfl) rfl #[.slice Ao16 t102.length co16] rfl k35_ ?_; (with_reducible refine (impl_LongestRunOut.calls k _ _ t102 t119 t120 _ ?side1 ?side2 A10.out).mono ?_); (case side1 => exact k21_); (case side2 => exact k74_); rintro e w21 ⟨rfl, hb⟩; refine ⟨_, rfl, ?_⟩; replace HO104 := HO104.mw hb; replace HO108 := HO108.mw hb; replace HO112 := HO112.mw hb; replace HB := HB.mw hb; (try clear hb)) | ((with_reducible refine gate_callee (f := 27) rfl ?_); refine goesL_ (some 120) rfl rfl Try.func27 (by kernel_rfl) rfl #[.slice Ao16 t102.length co16] rfl k35_ ?_; (with_reducible refine (spec_LongestRunOut.calls k _ _ t102 t121 t122 _ ?side1 ?side2 A11.out).mono ?_); (case side1 => exact k21_); (case side2 => exact k74_); rintro e w22 ⟨rfl, hb⟩; refine ⟨_, rfl, ?_⟩; replace HO104 := HO104.mw hb; replace HO108 := HO108.mw hb; replace HO112 := HO112.mw hb; replace HB := HB.mw hb; (try clear hb)) | ((with_reducible refine gate_callee (f := 28) rfl ?_); refine goesL_ (some 125) rfl rfl Try.func28 (by kernel_rfl) rfl #[.slice Ao16 t102.length co16] rfl k35_ ?_; (with_reducible refine (impl_LongestRunLeft.calls k _ _ t102 t123 t124 _ ?side1 ?side2 A12.out).mono ?_); (case side1 => exact k21_); (case side2 => exact k74_); rintro e w23 ⟨rfl, hb⟩; refine ⟨_, rfl, ?_⟩; replace HO104 := HO104.mw hb; replace HO108 := HO108.mw hb; replace HO112 := HO112.mw hb; replace HB := HB.mw hb; (try clear hb)) | ((with_reducible refine gate_callee (f := 29) rfl ?_); refine goesL_ (some 130) rfl rfl Try.func29 (by kernel_rfl) rfl #[.slice Ao16 t102.length co16] rfl k35_ ?_; (with_reducible refine (spec_LongestRunLeft.calls k _ _ t102 t125 t126 _ ?side1 ?side2 A13.out).mono ?_); (case side1 => exact k21_); (case side2 => exact k74_); rintro e w24 ⟨rfl, hb⟩; refine ⟨_, rfl, ?_⟩; replace HO104 := HO104.mw hb; replace HO108 := HO108.mw hb; replace HO112 := HO112.mw hb; replace HB := HB.mw hb; (try clear hb)))
  (try simp only [Act.put, List.setIfInBounds_toArray, List.set_cons_zero, List.set_cons_succ])
  go_cut [196] from 1 to 0 (fun v196 wc => ∃ (kq : Nat) (x196_13 : Bool), v196 = .bool x196_13 ∧ Aside0 (laws_FnGapsTold.j0 kq l1 t102 t105 t106 t113 t114 t119 t123 t124 x196_13 = some true) ∧ Aside0 (kq ≤ k) ∧ Aside0 (Kd.R kRule 38 wc w.heap.size (fun _ => True) (.slice Ao16 t102.length co16) t102) ∧ Aside0 (Kd.R (Kd.int .i64) 3 wc w.heap.size (fun _ => True) v107 t105) ∧ Aside0 (Below w.heap.size w wc))
  case first =>
   have H := HC14.out
   clear HC14
   by_cases c25 : (t106 != t110) = true
   ·rw [if_pos c25] at H
    have c25b0 : (t106 != t110) = true := c25
    (try (have c25b1 : decide (t106 = t110) = false := by simpa using c25))
    (try (have c25b2 : (t106 == t110) = false := by simpa using c25))
    (try (have c25b3 : ¬ (t106 = t110) := by simpa using c25))
    clear c25
    (first | rw [c25b0] | rw [c25b1] | (simp only [i64_w, i32_w]; rw [c25b0]) | skip)
    exact absurd H (by simp)
   ·rw [if_neg c25] at H
    have c25b0 : (t106 != t110) = false := by simpa using c25
    (try (have c25b1 : decide (t106 = t110) = true := by simpa using c25))
    (try (have c25b2 : (t106 == t110) = true := by simpa using c25))
    clear c25
    (first | rw [c25b0] | rw [c25b1] | (simp only [i64_w, i32_w]; rw [c25b0]) | skip)
    obtain ⟨t127, A26, H⟩ := obnd_ H
    (try dsimp only at H)
    by_cases c27 : t127 = true
    ·subst c27
     rw [if_pos rfl] at H
     by_cases c28 : (t115 != t118) = true
     ·rw [if_pos c28] at H
      have c28b0 : (t115 != t118) = true := c28
      (try (have c28b1 : decide (t115 = t118) = false := by simpa using c28))
      (try (have c28b2 : (t115 == t118) = false := by simpa using c28))
      (try (have c28b3 : ¬ (t115 = t118) := by simpa using c28))
      clear c28
      exact absurd H (by simp)
     ·rw [if_neg c28] at H
      have c28b0 : (t115 != t118) = false := by simpa using c28
      (try (have c28b1 : decide (t115 = t118) = true := by simpa using c28))
      (try (have c28b2 : (t115 == t118) = true := by simpa using c28))
      clear c28
      by_cases c29 : t113 = t116
      ·rw [if_pos c29] at H
       have c29b0 : (t113 == t116) = true := beq_iff_eq.mpr c29
       have c29b1 : (t113 != t116) = false := bne_eq_false_iff_eq.mpr c29
       clear c29
       by_cases c30 : t114 = t117
       ·rw [if_pos c30] at H
        have c30b0 : (t114 == t117) = true := beq_iff_eq.mpr c30
        have c30b1 : (t114 != t117) = false := bne_eq_false_iff_eq.mpr c30
        clear c30
        by_cases c31 : (t120 != t122) = true
        ·rw [if_pos c31] at H
         have c31b0 : (t120 != t122) = true := c31
         (try (have c31b1 : decide (t120 = t122) = false := by simpa using c31))
         (try (have c31b2 : (t120 == t122) = false := by simpa using c31))
         (try (have c31b3 : ¬ (t120 = t122) := by simpa using c31))
         clear c31
         exact absurd H (by simp)
        ·rw [if_neg c31] at H
         have c31b0 : (t120 != t122) = false := by simpa using c31
         (try (have c31b1 : decide (t120 = t122) = true := by simpa using c31))
         (try (have c31b2 : (t120 == t122) = true := by simpa using c31))
         clear c31
         by_cases c32 : t119 = t121
         ·rw [if_pos c32] at H
          have c32b0 : (t119 == t121) = true := beq_iff_eq.mpr c32
          have c32b1 : (t119 != t121) = false := bne_eq_false_iff_eq.mpr c32
          clear c32
          by_cases c33 : (t124 != t126) = true
          ·rw [if_pos c33] at H
           have c33b0 : (t124 != t126) = true := c33
           (try (have c33b1 : decide (t124 = t126) = false := by simpa using c33))
           (try (have c33b2 : (t124 == t126) = false := by simpa using c33))
           (try (have c33b3 : ¬ (t124 = t126) := by simpa using c33))
           clear c33
           exact absurd H (by simp)
          ·rw [if_neg c33] at H
           have c33b0 : (t124 != t126) = false := by simpa using c33
           (try (have c33b1 : decide (t124 = t126) = true := by simpa using c33))
           (try (have c33b2 : (t124 == t126) = true := by simpa using c33))
           clear c33
           by_cases c34 : t123 = t125
           ·rw [if_pos c34] at H
            have c34b0 : (t123 == t125) = true := beq_iff_eq.mpr c34
            have c34b1 : (t123 != t125) = false := bne_eq_false_iff_eq.mpr c34
            clear c34
            by_cases c35 : (t115 != t106) = true
            ·rw [if_pos c35] at H
             have c35b0 : (t115 != t106) = true := c35
             (try (have c35b1 : decide (t115 = t106) = false := by simpa using c35))
             (try (have c35b2 : (t115 == t106) = false := by simpa using c35))
             (try (have c35b3 : ¬ (t115 = t106) := by simpa using c35))
             clear c35
             exact absurd H (by simp)
            ·rw [if_neg c35] at H
             have c35b0 : (t115 != t106) = false := by simpa using c35
             (try (have c35b1 : decide (t115 = t106) = true := by simpa using c35))
             (try (have c35b2 : (t115 == t106) = true := by simpa using c35))
             clear c35
             by_cases c36 : (t120 != t106) = true
             ·rw [if_pos c36] at H
              have c36b0 : (t120 != t106) = true := c36
              (try (have c36b1 : decide (t120 = t106) = false := by simpa using c36))
              (try (have c36b2 : (t120 == t106) = false := by simpa using c36))
              (try (have c36b3 : ¬ (t120 = t106) := by simpa using c36))
              clear c36
              exact absurd H (by simp)
             ·rw [if_neg c36] at H
              have c36b0 : (t120 != t106) = false := by simpa using c36
              (try (have c36b1 : decide (t120 = t106) = true := by simpa using c36))
              (try (have c36b2 : (t120 == t106) = true := by simpa using c36))
              clear c36
              by_cases c37 : t106 = true
              ·subst c37
               rw [if_pos rfl] at H
               have H' := Aside0.mk H
               clear H
               obtain ⟨Ao38, co38, eo38⟩ := Kd.R_slice HO108.out
               subst eo38
               obtain ⟨Ao39, co39, eo39⟩ := Kd.R_slice HO112.out
               subst eo39
               go_wp2_with (first | (go_at_call 30; (with_reducible refine (laws_tSame.calls k _ _ t105 _ _ t109 true _ ?side1 ?side2 ?side3 ?side4 A26.out).mono ?_); (case side1 => repeat (first | exact (Kd.R_reads' HO108.out).2.2 | (with_reducible refine Kd.C_alloc ?_ _) | (with_reducible refine Kd.C_drewN ?_ _) | (with_reducible refine Kd.C_drew ?_))); (case side2 => exact (Kd.R_reads' HO108.out).2.1); (case side3 => exact k14_); (case side4 => exact (Kd.R_reads' HO112.out).2.1); rintro e w' ⟨rfl, ⟨nd, rfl⟩⟩))
               go_meet
               case rel => exact ⟨_, ((t124 != (decide ((t102.length : Int) > 0)))), (by first | rfl | (simp; done) | (cases t124 <;> simp; done) | (cases t124 <;> simp [bne]; done) | (cases t124 <;> cases hd_ : decide (0 < t102.length) <;> simp_all; done) | (simp [*]; done)), H', ⟨k72_⟩, ⟨k54_⟩, ⟨by (with_reducible repeat (first | apply Kd.R_alloc | apply Kd.R_drewN | apply Kd.R_drew)); exact Kd.R_mono HO108.out (fun _ hk => trivial)⟩, ⟨k49_⟩⟩
              ·replace c37 := Bool.eq_false_iff.mpr c37
               subst c37
               rw [if_neg (show ¬ (false = true) by decide)] at H
               have H' := Aside0.mk H
               clear H
               obtain ⟨Ao40, co40, eo40⟩ := Kd.R_slice HO108.out
               subst eo40
               obtain ⟨Ao41, co41, eo41⟩ := Kd.R_slice HO112.out
               subst eo41
               go_wp2_with (first | (go_at_call 30; (with_reducible refine (laws_tSame.calls k _ _ t105 _ _ t109 true _ ?side1 ?side2 ?side3 ?side4 A26.out).mono ?_); (case side1 => repeat (first | exact (Kd.R_reads' HO108.out).2.2 | (with_reducible refine Kd.C_alloc ?_ _) | (with_reducible refine Kd.C_drewN ?_ _) | (with_reducible refine Kd.C_drew ?_))); (case side2 => exact (Kd.R_reads' HO108.out).2.1); (case side3 => exact k14_); (case side4 => exact (Kd.R_reads' HO112.out).2.1); rintro e w' ⟨rfl, ⟨nd, rfl⟩⟩))
               go_meet
               case rel => exact ⟨_, ((t124 != false)), k69_, H', ⟨k72_⟩, ⟨k54_⟩, ⟨by (with_reducible repeat (first | apply Kd.R_alloc | apply Kd.R_drewN | apply Kd.R_drew)); exact Kd.R_mono HO108.out (fun _ hk => trivial)⟩, ⟨k49_⟩⟩
           ·rw [if_neg c34] at H
            have c34b0 : (t123 == t125) = false := beq_eq_false_iff_ne.mpr c34
            have c34b1 : (t123 != t125) = true := bne_iff_ne.mpr c34
            exact absurd H (by simp)
         ·rw [if_neg c32] at H
          have c32b0 : (t119 == t121) = false := beq_eq_false_iff_ne.mpr c32
          have c32b1 : (t119 != t121) = true := bne_iff_ne.mpr c32
          exact absurd H (by simp)
       ·rw [if_neg c30] at H
        have c30b0 : (t114 == t117) = false := beq_eq_false_iff_ne.mpr c30
        have c30b1 : (t114 != t117) = true := bne_iff_ne.mpr c30
        exact absurd H (by simp)
      ·rw [if_neg c29] at H
       have c29b0 : (t113 == t116) = false := beq_eq_false_iff_ne.mpr c29
       have c29b1 : (t113 != t116) = true := bne_iff_ne.mpr c29
       exact absurd H (by simp)
    ·replace c27 := Bool.eq_false_iff.mpr c27
     subst c27
     rw [if_neg (show ¬ (false = true) by decide)] at H
     exact absurd H (by simp)
  case rest =>
   as_aux_lemma =>
    clear HC14
    skip
    obtain ⟨kq, x196_13, rfl, HA, HJ13, HO_5, HO_6, HB⟩ := hcut
    cases kq with
    | zero => exact absurd HA.out (by simp [laws_FnGapsTold.j0])
    | succ kj13 =>
     have H := HA.out
     clear HA
     simp only [laws_FnGapsTold.j0] at H
     by_cases c42 : x196_13 = true
     ·subst c42
      rw [if_pos rfl] at H
      exact absurd H (by simp)
     ·replace c42 := Bool.eq_false_iff.mpr c42
      subst c42
      rw [if_neg (show ¬ (false = true) by decide)] at H
      have HC43 := Aside0.mk H
      clear H
      go_upto_if 197 with (fail)
      go_cut [] from 197 to 197 (fun wc => ∃ (kq : Nat), Aside0 (laws_FnGapsTold.j6 kq l1 = some true) ∧ Aside0 (kq ≤ kj13) ∧ Aside0 (Below w.heap.size w wc))
      case first =>
       as_aux_lemma =>
        have H := HC43.out
        clear HC43
        by_cases c44 : t106 = true
        ·subst c44
         rw [if_pos rfl] at H
         obtain ⟨⟨t128, t129⟩, A45, H⟩ := obnd_ H
         (try dsimp only at H)
         obtain ⟨⟨t130, t131⟩, A46, H⟩ := obnd_ H
         (try dsimp only at H)
         by_cases c47 : t129 = true
         ·subst c47
          rw [if_pos rfl] at H
          by_cases c48 : t131 = true
          ·subst c48
           rw [if_pos rfl] at H
           by_cases c49 : (t105.length : Int) = t130
           ·rw [if_pos c49] at H
            have c49b0 : ((t105.length : Int) == t130) = true := beq_iff_eq.mpr c49
            have c49b1 : ((t105.length : Int) != t130) = false := bne_eq_false_iff_eq.mpr c49
            clear c49
            (first | rw [c49b0] | rw [c49b1] | (simp only [i64_w, i32_w]; rw [c49b0]) | skip)
            obtain ⟨t132, A50, H⟩ := obnd_ H
            (try dsimp only at H)
            by_cases c51 : t132 = t128
            ·rw [if_pos c51] at H
             have c51b0 : (t132 == t128) = true := beq_iff_eq.mpr c51
             have c51b1 : (t132 != t128) = false := bne_eq_false_iff_eq.mpr c51
             clear c51
             by_cases c52 : t119 = (wrap64 (t113 - 1))
             ·rw [if_pos c52] at H
              have c52b0 : (t119 == (wrap64 (t113 - 1))) = true := beq_iff_eq.mpr c52
              have c52b1 : (t119 != (wrap64 (t113 - 1))) = false := bne_eq_false_iff_eq.mpr c52
              clear c52
              have H' := Aside0.mk H
              clear H
              go_wp2_with (first | ((with_reducible refine gate_callee (f := 31) rfl ?_); refine goesL_ (some 200) rfl rfl Try.func31 (by kernel_rfl) rfl #[.slice Ao16 t102.length co16] rfl k35_ ?_; (with_reducible refine (impl_PeriodOfRules.calls kj13 _ _ t102 t128 true _ ?side1 ?side2 A45.out).mono ?_); (case side1 => exact k26_); (case side2 => exact (Kd.R_reads' HO_5.out).2.1); rintro e w53 ⟨rfl, hb⟩; refine ⟨_, rfl, ?_⟩; replace HO_5 := HO_5.mw hb; replace HO_6 := HO_6.mw hb; replace HB := HB.mw hb; (try clear hb)) | ((with_reducible refine gate_callee (f := 32) rfl ?_); refine goesL_ (some 205) rfl rfl Try.func32 (by kernel_rfl) rfl #[.slice Ao16 t102.length co16] rfl k35_ ?_; (with_reducible refine (impl_LeftInPeriod.calls kj13 _ _ t102 t130 true _ ?side1 ?side2 A46.out).mono ?_); (case side1 => exact k26_); (case side2 => exact (Kd.R_reads' HO_5.out).2.1); rintro e w54 ⟨rfl, hb⟩; refine ⟨_, rfl, ?_⟩; replace HO_5 := HO_5.mw hb; replace HO_6 := HO_6.mw hb; replace HB := HB.mw hb; (try clear hb); obtain ⟨Ao55, co55, eo55⟩ := Kd.R_slice HO_6.out; subst eo55) | (go_at_call 33; (with_reducible refine (laws_tSum.calls kj13 _ _ t105 t132 _ ?side1 ?side2 A50.out).mono ?_); (case side1 => repeat (first | exact (Kd.R_reads' HO_6.out).2.2 | (with_reducible refine Kd.C_alloc ?_ _) | (with_reducible refine Kd.C_drewN ?_ _) | (with_reducible refine Kd.C_drew ?_))); (case side2 => exact (Kd.R_reads' HO_6.out).2.1); rintro e w' ⟨rfl, ⟨nd, rfl⟩⟩))
              go_loopg [234] kj13 (fun kq v234 w' => ∃ (x234_2 : Int), v234 = .int .i64 x234_2 ∧ Aside0 (laws_FnGapsTold.l0 kq l1 t102 t105 t113 t114 t123 t124 t128 t105 (t105.length : Int) x234_2 = some true) ∧ Aside0 (kq ≤ kj13) ∧ Aside0 (Kd.R kRule 38 w' w.heap.size (fun _ => True) (.slice Ao16 t102.length co16) t102) ∧ Aside0 (Kd.R (Kd.int .i64) 3 w' w.heap.size (fun _ => True) (.slice Ao55 t105.length co55) t105) ∧ Aside0 (Kd.R (Kd.int .i64) 3 w' w.heap.size (fun _ => True) (.slice Ao55 t105.length co55) t105) ∧ Aside0 (Below w.heap.size w w'))
              case atStart => exact ⟨(0), k69_, H', ⟨Nat.le_refl _⟩, ⟨k63_⟩, ⟨k66_⟩, ⟨k66_⟩, ⟨k49_⟩⟩
              case round =>
               clear H'
               skip
               obtain ⟨x234_2, rfl, HA, HK2, HO_5, HO_6, HO_232, HB⟩ := hrel
               cases gk with
               | zero => exact absurd HA.out (by simp [laws_FnGapsTold.l0])
               | succ k2 =>
                have H := HA.out
                clear HA
                simp only [laws_FnGapsTold.l0] at H
                by_cases c56 : x234_2 < (t105.length : Int)
                ·rw [if_pos c56] at H
                 have c56b0 : decide (x234_2 < (t105.length : Int)) = true := decide_eq_true c56
                 clear c56
                 by_cases c57 : 0 ≤ x234_2
                 ·rw [if_pos c57] at H
                  have c57b0 : decide (0 ≤ x234_2) = true := decide_eq_true c57
                  clear c57
                  by_cases c58 : x234_2 < (t105.length : Int)
                  ·rw [if_pos c58] at H
                   have c58b0 : decide (x234_2 < (t105.length : Int)) = true := decide_eq_true c58
                   clear c58
                   by_cases c59 : (rd t105 x234_2) < 1
                   ·rw [if_pos c59] at H
                    have c59b0 : decide ((rd t105 x234_2) < 1) = true := decide_eq_true c59
                    clear c59
                    exact absurd H (by simp)
                   ·rw [if_neg c59] at H
                    have c59b0 : decide ((rd t105 x234_2) < 1) = false := decide_eq_false c59
                    clear c59
                    by_cases c60 : (rd t105 x234_2) > t113
                    ·rw [if_pos c60] at H
                     have c60b0 : decide (t113 < (rd t105 x234_2)) = true := decide_eq_true c60
                     clear c60
                     exact absurd H (by simp)
                    ·rw [if_neg c60] at H
                     have c60b0 : decide (t113 < (rd t105 x234_2)) = false := decide_eq_false c60
                     clear c60
                     have H' := Aside0.mk H
                     clear H
                     have p133 : 0 ≤ (x234_2 : Int) := of_decide_eq_true k68_
                     have q133 : x234_2 < (t105.length : Int) := of_decide_eq_true k68_
                     obtain ⟨ad133, e133, hx133_0⟩ := Kd.at_int (Kd.R_reads' HO_232.out).2.2 x234_2 p133 q133
                     cases e133
                     replace p133 := eq_true p133
                     replace q133 := eq_true q133
                     go_wp2
                     go_roundg k2
                     case measure => have := HJ13.out; have := HK2.out; omega
                     case rel => exact ⟨(wrap64 (x234_2 + 1)), k69_, H', ⟨by have := HJ13.out; have := HK2.out; omega⟩, ⟨k63_⟩, ⟨k66_⟩, ⟨by apply_rules only [HO_232.out, Kd.R_alloc, Kd.R_drewN, Kd.R_drew]⟩, ⟨k49_⟩⟩
                  ·rw [if_neg c58] at H
                   exact absurd H (by simp)
                 ·rw [if_neg c57] at H
                  exact absurd H (by simp)
                ·rw [if_neg c56] at H
                 have c56b0 : decide (x234_2 < (t105.length : Int)) = false := decide_eq_false c56
                 clear c56
                 obtain ⟨⟨t134, t135⟩, A61, H⟩ := obnd_ H
                 (try dsimp only at H)
                 by_cases c62 : t135 = true
                 ·subst c62
                  rw [if_pos rfl] at H
                  by_cases c63 : t134 < 1
                  ·rw [if_pos c63] at H
                   have c63b0 : decide (t134 < 1) = true := decide_eq_true c63
                   clear c63
                   exact absurd H (by simp)
                  ·rw [if_neg c63] at H
                   have c63b0 : decide (t134 < 1) = false := decide_eq_false c63
                   clear c63
                   obtain ⟨t136, A64, H⟩ := obnd_ H
                   (try dsimp only at H)
                   by_cases c65 : t136 = true
                   ·subst c65
                    rw [if_pos rfl] at H
                    by_cases c66 : t114 < 0
                    ·rw [if_pos c66] at H
                     have c66b0 : decide (t114 < 0) = true := decide_eq_true c66
                     clear c66
                     exact absurd H (by simp)
                    ·rw [if_neg c66] at H
                     have c66b0 : decide (t114 < 0) = false := decide_eq_false c66
                     clear c66
                     by_cases c67 : t114 ≥ t128
                     ·rw [if_pos c67] at H
                      have c67b0 : decide (t128 ≤ t114) = true := decide_eq_true c67
                      clear c67
                      exact absurd H (by simp)
                     ·rw [if_neg c67] at H
                      have c67b0 : decide (t128 ≤ t114) = false := decide_eq_false c67
                      clear c67
                      have HC68 := Aside0.mk H
                      clear H
                      go_upto_if 274 with (first | ((with_reducible refine gate_callee (f := 34) rfl ?_); refine goesL_ (some 249) rfl rfl Try.func34 (by kernel_rfl) rfl #[.slice Ao16 t102.length co16, .int .i64 t113] rfl k35_ ?_; (with_reducible refine (impl_CountGaps.calls k2 _ _ t102 t113 t134 true _ ?side1 ?side2 A61.out).mono ?_); (case side1 => exact k26_); (case side2 => exact (Kd.R_reads' HO_5.out).2.1); rintro e w69 ⟨rfl, hb⟩; refine ⟨_, rfl, ?_⟩; replace HO_5 := HO_5.mw hb; replace HO_6 := HO_6.mw hb; replace HO_232 := HO_232.mw hb; replace HB := HB.mw hb; (try clear hb)) | (go_at_call 35; (with_reducible refine (laws_tHas.calls k2 _ _ t105 t113 true _ ?side1 ?side2 A64.out).mono ?_); (case side1 => repeat (first | exact (Kd.R_reads' HO_6.out).2.2 | (with_reducible refine Kd.C_alloc ?_ _) | (with_reducible refine Kd.C_drewN ?_ _) | (with_reducible refine Kd.C_drew ?_))); (case side2 => exact (Kd.R_reads' HO_6.out).2.1); rintro e w' ⟨rfl, ⟨nd, rfl⟩⟩))
                      (try simp only [Act.put, List.setIfInBounds_toArray, List.set_cons_zero, List.set_cons_succ])
                      go_cut [] from 235 to 274 (fun wc => ∃ (kq : Nat), Aside0 (laws_FnGapsTold.j2 kq l1 t102 t123 t124 = some true) ∧ Aside0 (kq ≤ k2) ∧ Aside0 (Kd.R kRule 38 wc w.heap.size (fun _ => True) (.slice Ao16 t102.length co16) t102) ∧ Aside0 (Below w.heap.size w wc))
                      case first =>
                       have H := HC68.out
                       clear HC68
                       by_cases c70 : t113 ≤ 200
                       ·rw [if_pos c70] at H
                        have c70b0 : decide (t113 ≤ 200) = true := decide_eq_true c70
                        clear c70
                        (first | rw [c70b0] | rw [c70b1] | (simp only [i64_w, i32_w]; rw [c70b0]) | skip)
                        obtain ⟨⟨t137, t138⟩, A71, H⟩ := obnd_ H
                        (try dsimp only at H)
                        obtain ⟨⟨t139, t140⟩, A72, H⟩ := obnd_ H
                        (try dsimp only at H)
                        by_cases c73 : t138 = true
                        ·subst c73
                         rw [if_pos rfl] at H
                         by_cases c74 : t137 = 0
                         ·rw [if_pos c74] at H
                          have c74b0 : (t137 == 0) = true := beq_iff_eq.mpr c74
                          have c74b1 : (t137 != 0) = false := bne_eq_false_iff_eq.mpr c74
                          clear c74
                          by_cases c75 : t140 = true
                          ·subst c75
                           rw [if_pos rfl] at H
                           by_cases c76 : t139 < 1
                           ·rw [if_pos c76] at H
                            have c76b0 : decide (t139 < 1) = true := decide_eq_true c76
                            clear c76
                            exact absurd H (by simp)
                           ·rw [if_neg c76] at H
                            have c76b0 : decide (t139 < 1) = false := decide_eq_false c76
                            clear c76
                            have H' := Aside0.mk H
                            clear H
                            go_wp2_with (first | ((with_reducible refine gate_callee (f := 36) rfl ?_); refine goesL_ (some 279) rfl rfl Try.func36 (by kernel_rfl) rfl #[.slice Ao16 t102.length co16, .int .i64 (wrap64 (t113 - 1))] rfl k35_ ?_; (with_reducible refine (impl_LeastInWindow.calls k2 _ _ t102 (wrap64 (t113 - 1)) t137 true _ ?side1 ?side2 A71.out).mono ?_); (case side1 => exact k26_); (case side2 => exact (Kd.R_reads' HO_5.out).2.1); rintro e w77 ⟨rfl, hb⟩; refine ⟨_, rfl, ?_⟩; replace HO_5 := HO_5.mw hb; replace HO_6 := HO_6.mw hb; replace HO_232 := HO_232.mw hb; replace HB := HB.mw hb; (try clear hb)) | ((with_reducible refine gate_callee (f := 36) rfl ?_); refine goesL_ (some 285) rfl rfl Try.func36 (by kernel_rfl) rfl #[.slice Ao16 t102.length co16, .int .i64 t113] rfl k35_ ?_; (with_reducible refine (impl_LeastInWindow.calls k2 _ _ t102 t113 t139 true _ ?side1 ?side2 A72.out).mono ?_); (case side1 => exact k26_); (case side2 => exact (Kd.R_reads' HO_5.out).2.1); rintro e w78 ⟨rfl, hb⟩; refine ⟨_, rfl, ?_⟩; replace HO_5 := HO_5.mw hb; replace HO_6 := HO_6.mw hb; replace HO_232 := HO_232.mw hb; replace HB := HB.mw hb; (try clear hb)))
                            go_meet
                            case rel => exact ⟨_, H', ⟨by have := HJ13.out; have := HK2.out; first | omega | exact Nat.le_refl _⟩, ⟨k63_⟩, ⟨k49_⟩⟩
                          ·replace c75 := Bool.eq_false_iff.mpr c75
                           subst c75
                           rw [if_neg (show ¬ (false = true) by decide)] at H
                           exact absurd H (by simp)
                         ·rw [if_neg c74] at H
                          have c74b0 : (t137 == 0) = false := beq_eq_false_iff_ne.mpr c74
                          have c74b1 : (t137 != 0) = true := bne_iff_ne.mpr c74
                          exact absurd H (by simp)
                        ·replace c73 := Bool.eq_false_iff.mpr c73
                         subst c73
                         rw [if_neg (show ¬ (false = true) by decide)] at H
                         exact absurd H (by simp)
                       ·rw [if_neg c70] at H
                        have c70b0 : decide (t113 ≤ 200) = false := decide_eq_false c70
                        clear c70
                        (first | rw [c70b0] | rw [c70b1] | (simp only [i64_w, i32_w]; rw [c70b0]) | skip)
                        have H' := Aside0.mk H
                        clear H
                        go_wp2
                        go_meet
                        case rel => exact ⟨_, H', ⟨by have := HJ13.out; have := HK2.out; first | omega | exact Nat.le_refl _⟩, ⟨k63_⟩, ⟨k49_⟩⟩
                      case rest =>
                       as_aux_lemma =>
                        clear HC68
                        skip
                        obtain ⟨kq, HA, HJ67, HO_5, HB⟩ := hcut
                        cases kq with
                        | zero => exact absurd HA.out (by simp [laws_FnGapsTold.j2])
                        | succ kj67 =>
                         have H := HA.out
                         clear HA
                         simp only [laws_FnGapsTold.j2] at H
                         have HC79 := Aside0.mk H
                         clear H
                         go_upto_region 33 with (fail)
                         go_cut [306] from 302 to 306 (fun v306 wc => ∃ (kq : Nat) (x306_78 : Bool), v306 = .bool x306_78 ∧ Aside0 (laws_FnGapsTold.j3 kq l1 t102 t123 x306_78 = some true) ∧ Aside0 (kq ≤ kj67) ∧ Aside0 (Kd.R kRule 38 wc w.heap.size (fun _ => True) (.slice Ao16 t102.length co16) t102) ∧ Aside0 (Below w.heap.size w wc))
                         case first =>
                          have H := HC79.out
                          clear HC79
                          by_cases c80 : t124 = true
                          ·subst c80
                           rw [if_pos rfl] at H
                           have H' := Aside0.mk H
                           clear H
                           go_wp2
                           go_meet
                           case rel => exact ⟨_, (decide (t123 < 200)), k69_, H', ⟨by have := HJ13.out; have := HK2.out; have := HJ67.out; first | omega | exact Nat.le_refl _⟩, ⟨k63_⟩, ⟨k49_⟩⟩
                          ·replace c80 := Bool.eq_false_iff.mpr c80
                           subst c80
                           rw [if_neg (show ¬ (false = true) by decide)] at H
                           have H' := Aside0.mk H
                           clear H
                           go_wp2
                           go_meet
                           case rel => exact ⟨_, (false), k69_, H', ⟨by have := HJ13.out; have := HK2.out; have := HJ67.out; first | omega | exact Nat.le_refl _⟩, ⟨k63_⟩, ⟨k49_⟩⟩
                         case rest =>
                          as_aux_lemma =>
                           clear HC79
                           skip
                           obtain ⟨kq, x306_78, rfl, HA, HJ78, HO_5, HB⟩ := hcut
                           cases kq with
                           | zero => exact absurd HA.out (by simp [laws_FnGapsTold.j3])
                           | succ kj78 =>
                            have H := HA.out
                            clear HA
                            simp only [laws_FnGapsTold.j3] at H
                            have HC81 := Aside0.mk H
                            clear H
                            go_upto_if 306 with (fail)
                            go_cut [] from 307 to 306 (fun wc => ∃ (kq : Nat), Aside0 (laws_FnGapsTold.j4 kq l1 t102 = some true) ∧ Aside0 (kq ≤ kj78) ∧ Aside0 (Kd.R kRule 38 wc w.heap.size (fun _ => True) (.slice Ao16 t102.length co16) t102) ∧ Aside0 (Below w.heap.size w wc))
                            case first =>
                             have H := HC81.out
                             clear HC81
                             by_cases c82 : x306_78 = true
                             ·subst c82
                              rw [if_pos rfl] at H
                              obtain ⟨⟨t141, t142⟩, A83, H⟩ := obnd_ H
                              (try dsimp only at H)
                              obtain ⟨⟨t143, t144⟩, A84, H⟩ := obnd_ H
                              (try dsimp only at H)
                              by_cases c85 : t142 = true
                              ·subst c85
                               rw [if_pos rfl] at H
                               by_cases c86 : t141 = t123
                               ·rw [if_pos c86] at H
                                have c86b0 : (t141 == t123) = true := beq_iff_eq.mpr c86
                                have c86b1 : (t141 != t123) = false := bne_eq_false_iff_eq.mpr c86
                                clear c86
                                (first | rw [c86b0] | rw [c86b1] | (simp only [i64_w, i32_w]; rw [c86b0]) | skip)
                                by_cases c87 : t144 = true
                                ·subst c87
                                 rw [if_pos rfl] at H
                                 by_cases c88 : t143 > t123
                                 ·rw [if_pos c88] at H
                                  have c88b0 : decide (t123 < t143) = true := decide_eq_true c88
                                  clear c88
                                  exact absurd H (by simp)
                                 ·rw [if_neg c88] at H
                                  have c88b0 : decide (t123 < t143) = false := decide_eq_false c88
                                  clear c88
                                  have H' := Aside0.mk H
                                  clear H
                                  go_wp2_with (first | ((with_reducible refine gate_callee (f := 37) rfl ?_); refine goesL_ (some 310) rfl rfl Try.func37 (by kernel_rfl) rfl #[.slice Ao16 t102.length co16, .int .i64 t123] rfl k35_ ?_; (with_reducible refine (impl_MostInWindow.calls kj78 _ _ t102 t123 t141 true _ ?side1 ?side2 A83.out).mono ?_); (case side1 => exact k26_); (case side2 => exact (Kd.R_reads' HO_5.out).2.1); rintro e w89 ⟨rfl, hb⟩; refine ⟨_, rfl, ?_⟩; replace HO_5 := HO_5.mw hb; replace HB := HB.mw hb; (try clear hb)) | ((with_reducible refine gate_callee (f := 37) rfl ?_); refine goesL_ (some 317) rfl rfl Try.func37 (by kernel_rfl) rfl #[.slice Ao16 t102.length co16, .int .i64 (wrap64 (t123 + 1))] rfl k35_ ?_; (with_reducible refine (impl_MostInWindow.calls kj78 _ _ t102 (wrap64 (t123 + 1)) t143 true _ ?side1 ?side2 A84.out).mono ?_); (case side1 => exact k26_); (case side2 => exact (Kd.R_reads' HO_5.out).2.1); rintro e w90 ⟨rfl, hb⟩; refine ⟨_, rfl, ?_⟩; replace HO_5 := HO_5.mw hb; replace HB := HB.mw hb; (try clear hb)))
                                  go_meet
                                  case rel => exact ⟨_, H', ⟨by have := HJ13.out; have := HK2.out; have := HJ67.out; have := HJ78.out; first | omega | exact Nat.le_refl _⟩, ⟨k63_⟩, ⟨k49_⟩⟩
                                ·replace c87 := Bool.eq_false_iff.mpr c87
                                 subst c87
                                 rw [if_neg (show ¬ (false = true) by decide)] at H
                                 exact absurd H (by simp)
                               ·rw [if_neg c86] at H
                                have c86b0 : (t141 == t123) = false := beq_eq_false_iff_ne.mpr c86
                                have c86b1 : (t141 != t123) = true := bne_iff_ne.mpr c86
                                (first | rw [c86b0] | rw [c86b1] | (simp only [i64_w, i32_w]; rw [c86b0]) | skip)
                                exact absurd H (by simp)
                              ·replace c85 := Bool.eq_false_iff.mpr c85
                               subst c85
                               rw [if_neg (show ¬ (false = true) by decide)] at H
                               exact absurd H (by simp)
                             ·replace c82 := Bool.eq_false_iff.mpr c82
                              subst c82
                              rw [if_neg (show ¬ (false = true) by decide)] at H
                              have H' := Aside0.mk H
                              clear H
                              go_wp2
                              go_meet
                              case rel => exact ⟨_, H', ⟨by have := HJ13.out; have := HK2.out; have := HJ67.out; have := HJ78.out; first | omega | exact Nat.le_refl _⟩, ⟨k63_⟩, ⟨k49_⟩⟩
                            case rest =>
                             as_aux_lemma =>
                              clear HC81
                              skip
                              obtain ⟨kq, HA, HJ80, HO_5, HB⟩ := hcut
                              cases kq with
                              | zero => exact absurd HA.out (by simp [laws_FnGapsTold.j4])
                              | succ kj80 =>
                               have H := HA.out
                               clear HA
                               simp only [laws_FnGapsTold.j4] at H
                               have H' := Aside0.mk H
                               clear H
                               go_wp2
                               go_loopg [40] kj80 (fun kq v40 w' => ∃ (x40_6 : Int), v40 = .int .i64 x40_6 ∧ Aside0 (laws_FnGapsTold.l1 kq l1 t102 x40_6 = some true) ∧ Aside0 (kq ≤ kj80) ∧ Aside0 (Kd.R kRule 38 w' w.heap.size (fun _ => True) (.slice Ao16 t102.length co16) t102) ∧ Aside0 (Below w.heap.size w w'))
                               case atStart => exact ⟨(1), k69_, H', ⟨Nat.le_refl _⟩, ⟨k63_⟩, ⟨k49_⟩⟩
                               case round =>
                                clear H'
                                skip
                                obtain ⟨x40_6, rfl, HA, HK6, HO_5, HB⟩ := hrel
                                cases gk with
                                | zero => exact absurd HA.out (by simp [laws_FnGapsTold.l1])
                                | succ k6 =>
                                 have H := HA.out
                                 clear HA
                                 simp only [laws_FnGapsTold.l1] at H
                                 by_cases c91 : x40_6 ≤ 6
                                 ·rw [if_pos c91] at H
                                  have c91b0 : decide (x40_6 ≤ 6) = true := decide_eq_true c91
                                  clear c91
                                  obtain ⟨⟨t145, t146⟩, A92, H⟩ := obnd_ H
                                  (try dsimp only at H)
                                  obtain ⟨⟨t147, t148⟩, A93, H⟩ := obnd_ H
                                  (try dsimp only at H)
                                  by_cases c94 : t146 = true
                                  ·subst c94
                                   rw [if_pos rfl] at H
                                   by_cases c95 : t148 = true
                                   ·subst c95
                                    rw [if_pos rfl] at H
                                    by_cases c96 : t145 > t147
                                    ·rw [if_pos c96] at H
                                     have c96b0 : decide (t147 < t145) = true := decide_eq_true c96
                                     clear c96
                                     exact absurd H (by simp)
                                    ·rw [if_neg c96] at H
                                     have c96b0 : decide (t147 < t145) = false := decide_eq_false c96
                                     clear c96
                                     have H' := Aside0.mk H
                                     clear H
                                     go_wp2_with (first | ((with_reducible refine gate_callee (f := 34) rfl ?_); refine goesL_ (some 343) rfl rfl Try.func34 (by kernel_rfl) rfl #[.slice Ao16 t102.length co16, .int .i64 x40_6] rfl k35_ ?_; (with_reducible refine (impl_CountGaps.calls k6 _ _ t102 x40_6 t145 true _ ?side1 ?side2 A92.out).mono ?_); (case side1 => exact k26_); (case side2 => exact (Kd.R_reads' HO_5.out).2.1); rintro e w97 ⟨rfl, hb⟩; refine ⟨_, rfl, ?_⟩; replace HO_5 := HO_5.mw hb; replace HB := HB.mw hb; (try clear hb)) | ((with_reducible refine gate_callee (f := 38) rfl ?_); refine goesL_ (some 349) rfl rfl Try.func38 (by kernel_rfl) rfl #[.slice Ao16 t102.length co16, .int .i64 x40_6] rfl k35_ ?_; (with_reducible refine (impl_PairsInPeriod.calls k6 _ _ t102 x40_6 t147 true _ ?side1 ?side2 A93.out).mono ?_); (case side1 => exact k26_); (case side2 => exact (Kd.R_reads' HO_5.out).2.1); rintro e w98 ⟨rfl, hb⟩; refine ⟨_, rfl, ?_⟩; replace HO_5 := HO_5.mw hb; replace HB := HB.mw hb; (try clear hb)))
                                     go_roundg k6
                                     case measure => have := HJ13.out; have := HK2.out; have := HJ67.out; have := HJ78.out; have := HJ80.out; have := HK6.out; omega
                                     case rel => exact ⟨(wrap64 (x40_6 + 1)), k69_, H', ⟨by have := HJ13.out; have := HK2.out; have := HJ67.out; have := HJ78.out; have := HJ80.out; have := HK6.out; omega⟩, ⟨k63_⟩, ⟨k49_⟩⟩
                                   ·replace c95 := Bool.eq_false_iff.mpr c95
                                    subst c95
                                    rw [if_neg (show ¬ (false = true) by decide)] at H
                                    exact absurd H (by simp)
                                  ·replace c94 := Bool.eq_false_iff.mpr c94
                                   subst c94
                                   rw [if_neg (show ¬ (false = true) by decide)] at H
                                   exact absurd H (by simp)
                                 ·rw [if_neg c91] at H
                                  have c91b0 : decide (x40_6 ≤ 6) = false := decide_eq_false c91
                                  clear c91
                                  have H' := Aside0.mk H
                                  clear H
                                  go_wp2
                                  go_meet
                                  case rel => exact ⟨_, H', ⟨by have := HJ13.out; have := HK2.out; have := HJ67.out; have := HJ78.out; have := HJ80.out; have := HK6.out; first | omega | exact Nat.le_refl _⟩, ⟨k49_⟩⟩
                   ·replace c65 := Bool.eq_false_iff.mpr c65
                    subst c65
                    rw [if_neg (show ¬ (false = true) by decide)] at H
                    exact absurd H (by simp)
                 ·replace c62 := Bool.eq_false_iff.mpr c62
                  subst c62
                  rw [if_neg (show ¬ (false = true) by decide)] at H
                  exact absurd H (by simp)
             ·rw [if_neg c52] at H
              have c52b0 : (t119 == (wrap64 (t113 - 1))) = false := beq_eq_false_iff_ne.mpr c52
              have c52b1 : (t119 != (wrap64 (t113 - 1))) = true := bne_iff_ne.mpr c52
              exact absurd H (by simp)
            ·rw [if_neg c51] at H
             have c51b0 : (t132 == t128) = false := beq_eq_false_iff_ne.mpr c51
             have c51b1 : (t132 != t128) = true := bne_iff_ne.mpr c51
             exact absurd H (by simp)
           ·rw [if_neg c49] at H
            have c49b0 : ((t105.length : Int) == t130) = false := beq_eq_false_iff_ne.mpr c49
            have c49b1 : ((t105.length : Int) != t130) = true := bne_iff_ne.mpr c49
            (first | rw [c49b0] | rw [c49b1] | (simp only [i64_w, i32_w]; rw [c49b0]) | skip)
            exact absurd H (by simp)
          ·replace c48 := Bool.eq_false_iff.mpr c48
           subst c48
           rw [if_neg (show ¬ (false = true) by decide)] at H
           exact absurd H (by simp)
         ·replace c47 := Bool.eq_false_iff.mpr c47
          subst c47
          rw [if_neg (show ¬ (false = true) by decide)] at H
          exact absurd H (by simp)
        ·replace c44 := Bool.eq_false_iff.mpr c44
         subst c44
         rw [if_neg (show ¬ (false = true) by decide)] at H
         have H' := Aside0.mk H
         clear H
         go_wp2
         go_meet
         case rel => exact ⟨_, H', ⟨by have := HJ13.out; first | omega | exact Nat.le_refl _⟩, ⟨k49_⟩⟩
      case rest =>
       as_aux_lemma =>
        clear HC43
        skip
        obtain ⟨kq, HA, HJ42, HB⟩ := hcut
        cases kq with
        | zero => exact absurd HA.out (by simp [laws_FnGapsTold.j6])
        | succ kj42 =>
         have H := HA.out
         clear HA
         simp only [laws_FnGapsTold.j6] at H
         obtain ⟨⟨t149, t150⟩, A99, H⟩ := obnd_ H
         (try dsimp only at H)
         obtain ⟨⟨t153, t154⟩, A100, H⟩ := obnd_ H
         (try dsimp only at H)
         obtain ⟨⟨t157, t158⟩, A101, H⟩ := obnd_ H
         (try dsimp only at H)
         obtain ⟨⟨t161, t162⟩, A102, H⟩ := obnd_ H
         (try dsimp only at H)
         obtain ⟨⟨t165, t166⟩, A103, H⟩ := obnd_ H
         (try dsimp only at H)
         by_cases c104 : (t154 != t158) = true
         ·rw [if_pos c104] at H
          have c104b0 : (t154 != t158) = true := c104
          (try (have c104b1 : decide (t154 = t158) = false := by simpa using c104))
          (try (have c104b2 : (t154 == t158) = false := by simpa using c104))
          (try (have c104b3 : ¬ (t154 = t158) := by simpa using c104))
          clear c104
          exact absurd H (by simp)
         ·rw [if_neg c104] at H
          have c104b0 : (t154 != t158) = false := by simpa using c104
          (try (have c104b1 : decide (t154 = t158) = true := by simpa using c104))
          (try (have c104b2 : (t154 == t158) = true := by simpa using c104))
          clear c104
          obtain ⟨t169, A105, H⟩ := obnd_ H
          (try dsimp only at H)
          by_cases c106 : t169 = true
          ·subst c106
           rw [if_pos rfl] at H
           by_cases c107 : (t162 != t166) = true
           ·rw [if_pos c107] at H
            have c107b0 : (t162 != t166) = true := c107
            (try (have c107b1 : decide (t162 = t166) = false := by simpa using c107))
            (try (have c107b2 : (t162 == t166) = false := by simpa using c107))
            (try (have c107b3 : ¬ (t162 = t166) := by simpa using c107))
            clear c107
            exact absurd H (by simp)
           ·rw [if_neg c107] at H
            have c107b0 : (t162 != t166) = false := by simpa using c107
            (try (have c107b1 : decide (t162 = t166) = true := by simpa using c107))
            (try (have c107b2 : (t162 == t166) = true := by simpa using c107))
            clear c107
            obtain ⟨t170, A108, H⟩ := obnd_ H
            (try dsimp only at H)
            by_cases c109 : t170 = true
            ·subst c109
             rw [if_pos rfl] at H
             by_cases c110 : (t162 != t154) = true
             ·rw [if_pos c110] at H
              have c110b0 : (t162 != t154) = true := c110
              (try (have c110b1 : decide (t162 = t154) = false := by simpa using c110))
              (try (have c110b2 : (t162 == t154) = false := by simpa using c110))
              (try (have c110b3 : ¬ (t162 = t154) := by simpa using c110))
              clear c110
              exact absurd H (by simp)
             ·rw [if_neg c110] at H
              have c110b0 : (t162 != t154) = false := by simpa using c110
              (try (have c110b1 : decide (t162 = t154) = true := by simpa using c110))
              (try (have c110b2 : (t162 == t154) = true := by simpa using c110))
              clear c110
              have HC111 := Aside0.mk H
              clear H
              go_upto_if 417 with (first | ((with_reducible refine gate_callee (f := 39) rfl ?_); refine goesL_ (some 365) rfl rfl Try.func39 (by kernel_rfl) rfl #[.slice A1 l1.length c1] rfl k35_ ?_; (with_reducible refine (spec_DrawGapsUpTo.calls kj42 _ _ l1 t149 t150 _ ?side1 ?side2 A99.out).mono ?_); (case side1 => exact k16_); (case side2 => exact HC1.out); rintro e w112 ⟨v151, rfl, ho0, hb⟩; refine ⟨_, rfl, ?_⟩; have HO152 := Aside0.mk (Kd.R_lower ho0 (below_size k49_)); replace HB := HB.mw hb; (try clear hb ho0); obtain ⟨Ao113, co113, eo113⟩ := Kd.R_slice HO152.out; subst eo113) | ((with_reducible refine gate_callee (f := 40) rfl ?_); refine goesL_ (some 371) rfl rfl Try.func40 (by kernel_rfl) rfl #[.slice Ao113 t149.length co113, .int .i64 t150] rfl k35_ ?_; (with_reducible refine (impl_GapsUpTo.calls kj42 _ _ t149 t150 t153 t154 _ ?side1 ?side2 A100.out).mono ?_); (case side1 => exact k20_); (case side2 => exact (Kd.R_reads' HO152.out).2.1); rintro e w114 ⟨v155, rfl, ho0, hb⟩; refine ⟨_, rfl, ?_⟩; replace HO152 := HO152.mw hb; have HO156 := Aside0.mk (Kd.R_lower ho0 (below_size k49_)); replace HB := HB.mw hb; (try clear hb ho0)) | ((with_reducible refine gate_callee (f := 41) rfl ?_); refine goesL_ (some 377) rfl rfl Try.func41 (by kernel_rfl) rfl #[.slice Ao113 t149.length co113, .int .i64 t150] rfl k35_ ?_; (with_reducible refine (spec_GapsUpTo.calls kj42 _ _ t149 t150 t157 t158 _ ?side1 ?side2 A101.out).mono ?_); (case side1 => exact k20_); (case side2 => exact (Kd.R_reads' HO152.out).2.1); rintro e w115 ⟨v159, rfl, ho0, hb⟩; refine ⟨_, rfl, ?_⟩; replace HO152 := HO152.mw hb; have HO160 := Aside0.mk (Kd.R_lower (Kd.R_new' ho0 (Kd.R_lt (by apply_rules only [HO156.out, Kd.R_alloc, Kd.R_drewN, Kd.R_drew]))) (below_size k49_)); replace HO156 := Aside0.mk (Kd.R_elder' (by apply_rules only [HO156.out, Kd.R_alloc, Kd.R_drewN, Kd.R_drew]) (Kd.R_base ho0) hb); replace HB := HB.mw hb; (try clear hb ho0)) | ((with_reducible refine gate_callee (f := 42) rfl ?_); refine goesL_ (some 383) rfl rfl Try.func42 (by kernel_rfl) rfl #[.slice Ao113 t149.length co113, .int .i64 t150] rfl k35_ ?_; (with_reducible refine (impl_RecordGaps.calls kj42 _ _ t149 t150 t161 t162 _ ?side1 ?side2 A102.out).mono ?_); (case side1 => exact k20_); (case side2 => exact (Kd.R_reads' HO152.out).2.1); rintro e w116 ⟨v163, rfl, ho0, hb⟩; refine ⟨_, rfl, ?_⟩; replace HO152 := HO152.mw hb; have HO164 := Aside0.mk (Kd.S_lower (Kd.S_new' (Kd.S_new' ho0 (Kd.R_lt (by apply_rules only [HO156.out, Kd.R_alloc, Kd.R_drewN, Kd.R_drew]))) (Kd.R_lt (by apply_rules only [HO160.out, Kd.R_alloc, Kd.R_drewN, Kd.R_drew]))) (below_size k49_)); replace HO156 := HO156.mw hb; replace HO160 := HO160.mw hb; replace HB := HB.mw hb; (try clear hb ho0)) | ((with_reducible refine gate_callee (f := 43) rfl ?_); refine goesL_ (some 389) rfl rfl Try.func43 (by kernel_rfl) rfl #[.slice Ao113 t149.length co113, .int .i64 t150] rfl k35_ ?_; (with_reducible refine (spec_RecordGaps.calls kj42 _ _ t149 t150 t165 t166 _ ?side1 ?side2 A103.out).mono ?_); (case side1 => exact k20_); (case side2 => exact (Kd.R_reads' HO152.out).2.1); rintro e w117 ⟨v167, rfl, ho0, hb⟩; refine ⟨_, rfl, ?_⟩; replace HO152 := HO152.mw hb; have HO168 := Aside0.mk (Kd.S_lower (Kd.S_new' (Kd.S_new' (Kd.S_new' ho0 (Kd.R_lt (by apply_rules only [HO156.out, Kd.R_alloc, Kd.R_drewN, Kd.R_drew]))) (Kd.R_lt (by apply_rules only [HO160.out, Kd.R_alloc, Kd.R_drewN, Kd.R_drew]))) (Kd.S_lt (by apply_rules only [HO164.out, Kd.S_alloc, Kd.S_drewN, Kd.S_drew]))) (below_size k49_)); replace HO156 := HO156.mw hb; replace HO160 := HO160.mw hb; replace HO164 := Aside0.mk (Kd.S_elder' (by apply_rules only [HO164.out, Kd.S_alloc, Kd.S_drewN, Kd.S_drew]) (Kd.S_base ho0) hb); replace HB := HB.mw hb; (try clear hb ho0); obtain ⟨Ao118, co118, eo118⟩ := Kd.R_slice HO156.out; subst eo118; obtain ⟨Ao119, co119, eo119⟩ := Kd.R_slice HO160.out; subst eo119) | (go_at_call 30; (with_reducible refine (laws_tSame.calls kj42 _ _ t153 _ _ t157 true _ ?side1 ?side2 ?side3 ?side4 A105.out).mono ?_); (case side1 => repeat (first | exact (Kd.R_reads' HO156.out).2.2 | (with_reducible refine Kd.C_alloc ?_ _) | (with_reducible refine Kd.C_drewN ?_ _) | (with_reducible refine Kd.C_drew ?_))); (case side2 => exact (Kd.R_reads' HO156.out).2.1); (case side3 => repeat (first | exact (Kd.R_reads' HO160.out).2.2 | (with_reducible refine Kd.C_alloc ?_ _) | (with_reducible refine Kd.C_drewN ?_ _) | (with_reducible refine Kd.C_drew ?_))); (case side4 => exact (Kd.R_reads' HO160.out).2.1); rintro e w' ⟨rfl, ⟨nd, rfl⟩⟩; obtain ⟨Ao120, co120, eo120⟩ := Kd.S_slice HO164.out; subst eo120; obtain ⟨Ao121, co121, eo121⟩ := Kd.S_slice HO168.out; subst eo121) | (go_at_call 44; (with_reducible refine (laws_tRows.calls kj42 _ _ t161 _ _ t165 true _ ?side1 ?side2 ?side3 ?side4 A108.out).mono ?_); (case side1 => repeat (first | exact (Kd.S_reads' HO164.out).2.2 | (with_reducible refine Kd.C_alloc ?_ _) | (with_reducible refine Kd.C_drewN ?_ _) | (with_reducible refine Kd.C_drew ?_))); (case side2 => exact (Kd.S_reads' HO164.out).2.1); (case side3 => repeat (first | exact (Kd.S_reads' HO168.out).2.2 | (with_reducible refine Kd.C_alloc ?_ _) | (with_reducible refine Kd.C_drewN ?_ _) | (with_reducible refine Kd.C_drew ?_))); (case side4 => exact (Kd.S_reads' HO168.out).2.1); rintro e w' ⟨rfl, ⟨nd, rfl⟩⟩))
              (try simp only [Act.put, List.setIfInBounds_toArray, List.set_cons_zero, List.set_cons_succ])
              go_cut [] from 363 to 417 (fun wc => ∃ (kq : Nat), Aside0 (laws_FnGapsTold.j10 kq l1 = some true) ∧ Aside0 (kq ≤ kj42) ∧ Aside0 (Below w.heap.size w wc))
              case first =>
               as_aux_lemma =>
                have H := HC111.out
                clear HC111
                by_cases c122 : t154 = true
                ·subst c122
                 rw [if_pos rfl] at H
                 obtain ⟨⟨t171, t172⟩, A123, H⟩ := obnd_ H
                 (try dsimp only at H)
                 have HC124 := Aside0.mk H
                 clear H
                 go_upto_region 54 with (first | ((with_reducible refine gate_callee (f := 45) rfl ?_); refine goesL_ (some 421) rfl rfl Try.func45 (by kernel_rfl) rfl #[.slice Ao113 t149.length co113, .int .i64 t150] rfl k35_ ?_; (with_reducible refine (impl_LeftUpTo.calls kj42 _ _ t149 t150 t171 t172 _ ?side1 ?side2 A123.out).mono ?_); (case side1 => exact k20_); (case side2 => exact (Kd.R_reads' HO152.out).2.1); rintro e w125 ⟨v173, rfl, ho0, hb⟩; refine ⟨_, rfl, ?_⟩; replace HO152 := HO152.mw hb; replace HO164 := Aside0.mk (Kd.S_elder' (by apply_rules only [HO164.out, Kd.S_alloc, Kd.S_drewN, Kd.S_drew]) (Kd.R_base ho0) hb); replace HO168 := Aside0.mk (Kd.S_elder' (by apply_rules only [HO168.out, Kd.S_alloc, Kd.S_drewN, Kd.S_drew]) (Kd.R_base ho0) hb); have HO174 := Aside0.mk (Kd.R_lower (Kd.R_new' (Kd.R_new' ho0 (Kd.R_lt (by apply_rules only [HO156.out, Kd.R_alloc, Kd.R_drewN, Kd.R_drew]))) (Kd.R_lt (by apply_rules only [HO160.out, Kd.R_alloc, Kd.R_drewN, Kd.R_drew]))) (below_size k49_)); replace HO156 := Aside0.mk (Kd.R_elder' (by apply_rules only [HO156.out, Kd.R_alloc, Kd.R_drewN, Kd.R_drew]) (Kd.R_base ho0) hb); replace HO160 := Aside0.mk (Kd.R_elder' (by apply_rules only [HO160.out, Kd.R_alloc, Kd.R_drewN, Kd.R_drew]) (Kd.R_base ho0) hb); replace HB := HB.mw hb; (try clear hb ho0)))
                 (try simp only [Act.put, List.setIfInBounds_toArray, List.set_cons_zero, List.set_cons_succ])
                 go_cut [453] from 418 to 453 (fun v453 wc => ∃ (kq : Nat) (x453_123 : Bool), v453 = .bool x453_123 ∧ Aside0 (laws_FnGapsTold.j7 kq l1 t149 t153 t161 t171 x453_123 = some true) ∧ Aside0 (kq ≤ kj42) ∧ Aside0 (Kd.R kRule 38 wc w.heap.size (fun _ => True) (.slice Ao113 t149.length co113) t149) ∧ Aside0 (Kd.R (Kd.int .i64) 3 wc w.heap.size (fun k_ => some k_ ≠ (v173 : Value).ownBlock) (.slice Ao118 t153.length co118) t153) ∧ Aside0 (Kd.S (Kd.slice 3 (Kd.int .i64)) 24 wc w.heap.size (fun k_ => some k_ ≠ ((.slice Ao118 t153.length co118) : Value).ownBlock ∧ some k_ ≠ (v173 : Value).ownBlock) (.slice Ao120 t161.length co120) t161) ∧ Aside0 (Kd.R (Kd.int .i64) 3 wc w.heap.size (fun k_ => some k_ ≠ ((.slice Ao118 t153.length co118) : Value).ownBlock) v173 t171) ∧ Aside0 (Below w.heap.size w wc))
                 case first =>
                  have H := HC124.out
                  clear HC124
                  by_cases c126 : t172 = true
                  ·subst c126
                   rw [if_pos rfl] at H
                   by_cases c127 : (t171.length : Int) > 0
                   ·rw [if_pos c127] at H
                    have c127b0 : decide (0 < (t171.length : Int)) = true := decide_eq_true c127
                    have c127b1 : decide (0 < t171.length) = true := decide_eq_true (by omega)
                    clear c127
                    (first | rw [c127b0] | rw [c127b1] | (simp only [i64_w, i32_w]; rw [c127b0]) | skip)
                    by_cases c128 : (t153.length : Int) = (wrap64 ((t171.length : Int) - 1))
                    ·rw [if_pos c128] at H
                     have c128b0 : ((t153.length : Int) == (wrap64 ((t171.length : Int) - 1))) = true := beq_iff_eq.mpr c128
                     have c128b1 : ((t153.length : Int) != (wrap64 ((t171.length : Int) - 1))) = false := bne_eq_false_iff_eq.mpr c128
                     clear c128
                     obtain ⟨t175, A129, H⟩ := obnd_ H
                     (try dsimp only at H)
                     obtain ⟨ji130, hji130⟩ : ∃ j_ : Int, (wrap64 ((t171.length : Int) - 1)) = j_ := ⟨_, rfl⟩
                     replace H : (if 0 ≤ (ji130) then (if (ji130) < (t171.length : Int) then (if 0 < (t171.length : Int) then (laws_FnGapsTold.j7 kj42 l1 t149 t153 t161 t171 (t175 != (wrap64 ((rd t171 (ji130)) - (rd t171 0))))) else (none)) else (none)) else (none)) = some true := by first | (rw [hji130] at H; exact H) | (simp only [hji130] at H ⊢; exact H)
                     (try rw [hji130] at c128b0)
                     (try rw [hji130] at c128b1)
                     (try rw [hji130] at A129)
                     have hji130w : (IntKind.i64.wrap ((t171.length : Int) - 1)) = ji130 := (i64_w _).trans hji130
                     by_cases c131 : 0 ≤ (ji130)
                     ·rw [if_pos c131] at H
                      have c131b0 : decide (0 ≤ (ji130)) = true := decide_eq_true c131
                      clear c131
                      by_cases c132 : (ji130) < (t171.length : Int)
                      ·rw [if_pos c132] at H
                       have c132b0 : decide ((ji130) < (t171.length : Int)) = true := decide_eq_true c132
                       clear c132
                       by_cases c133 : 0 < (t171.length : Int)
                       ·rw [if_pos c133] at H
                        have c133b0 : decide (0 < (t171.length : Int)) = true := decide_eq_true c133
                        have c133b1 : decide (0 < t171.length) = true := decide_eq_true (by omega)
                        clear c133
                        have H' := Aside0.mk H
                        clear H
                        try go_wp2
                        have n0_ := Aside0.mk (Kd.R_drew HO152.out)
                        have n1_ := Aside0.mk (Kd.R_drew HO156.out)
                        have n2_ := Aside0.mk (Kd.R_drew HO160.out)
                        have n3_ := Aside0.mk (Kd.S_drew HO164.out)
                        have n4_ := Aside0.mk (Kd.S_drew HO168.out)
                        have n5_ := Aside0.mk (Kd.R_drew HO174.out)
                        have n6_ := Aside0.mk (below_drew1 HB.out)
                        clear HO152
                        clear HO156
                        clear HO160
                        clear HO164
                        clear HO168
                        clear HO174
                        clear HB
                        have HO152 := n0_
                        have HO156 := n1_
                        have HO160 := n2_
                        have HO164 := n3_
                        have HO168 := n4_
                        have HO174 := n5_
                        have HB := n6_
                        clear n0_ n1_ n2_ n3_ n4_ n5_ n6_
                        obtain ⟨Ao135, co135, eo135⟩ := Kd.R_slice HO174.out
                        (first | subst eo135 | (injection eo135 with f1_ f2_ f3_; have f4_ := f1_.symm; have f5_ := f3_.symm; clear f1_ f2_ f3_; subst f4_; subst f5_))
                        have p176 : 0 ≤ ((ji130) : Int) := of_decide_eq_true k68_
                        have q176 : (ji130) < (t171.length : Int) := of_decide_eq_true k68_
                        obtain ⟨ad176, e176, hx176_0⟩ := Kd.at_int (Kd.R_reads' HO174.out).2.2 (ji130) p176 q176
                        cases e176
                        replace p176 := eq_true p176
                        replace q176 := eq_true q176
                        have p177 : 0 ≤ (0 : Int) := (by omega)
                        have q177 : 0 < (t171.length : Int) := of_decide_eq_true k68_
                        obtain ⟨ad177, e177, hx177_0⟩ := Kd.at_int (Kd.R_reads' HO174.out).2.2 0 p177 q177
                        obtain rfl : ad176 = ad177 := (by injection e177)
                        have qi177 : (0 < t171.length) = True := eq_true (by omega)
                        (try rw [show ((0 : Int)).toNat = 0 from rfl] at hx177_0)
                        (try rw [Addr.add_zero'] at hx177_0)
                        replace p177 := eq_true p177
                        replace q177 := eq_true q177
                        refine start_ (n := 30) (S := fun w' => w'.cell? (ad176.add ((ji130)).toNat) = some (.int .i64 (rd t171 (ji130))) ∧ w'.cell? ad176 = some (.int .i64 (rd t171 0))) (ds := []) #[false, false, false, false, false, false, false, false, false, false, false, false, false, false, false, false, false, false, false, false, false, false, false, false, false, false, false, false, false, false] (by kernel_rfl) rfl rfl ⟨hx176_0, hx177_0⟩ (fun hHeld => ?_); refine with_tabW laws_FnGapsTold.tab54 laws_FnGapsTold.bits54 (fun HT_ HW_ => ?_)
                        generalize w125.drew = w134 at HO152 HO156 HO160 HO164 HO168 HO174 HB hx176_0 hx177_0 hHeld ⊢
                        refine pure_ (i := 0) (N := some 424) (v := ?_) (a' := ?_) #[true, false, false, false, false, false, false, false, false, false, false, false, false, false, false, false, false, false, false, false, false, false, false, false, false, false, false, false, false, false] rfl rfl (any_of HT_.out (by kernel_rfl)) (fun _ _ _ h => h) (Or.inl ⟨by rfl, ?_⟩) ?_ ?_
                        rotate_left
                        ·intro w'
                         go_simp
                         with_reducible rfl
                        rotate_left
                        ·simp only [Act.put, List.setIfInBounds_toArray, List.set_cons_zero, List.set_cons_succ, i64_w, i32_w]
                         rfl
                        refine pure_ (i := 1) (N := some 425) (v := ?_) (a' := ?_) #[true, true, false, false, false, false, false, false, false, false, false, false, false, false, false, false, false, false, false, false, false, false, false, false, false, false, false, false, false, false] rfl rfl (any_of HT_.out (by kernel_rfl)) (fun _ _ _ h => h) (Or.inl ⟨by rfl, ?_⟩) ?_ ?_
                        rotate_left
                        ·intro w'
                         go_simp
                         with_reducible rfl
                        rotate_left
                        ·simp only [Act.put, List.setIfInBounds_toArray, List.set_cons_zero, List.set_cons_succ, i64_w, i32_w]
                         rfl
                        refine pure_ (i := 2) (N := some 426) (v := ?_) (a' := ?_) #[true, true, true, false, false, false, false, false, false, false, false, false, false, false, false, false, false, false, false, false, false, false, false, false, false, false, false, false, false, false] rfl rfl (any_of HT_.out (by kernel_rfl)) (fun _ _ _ h => h) (Or.inl ⟨by rfl, ?_⟩) ?_ ?_
                        rotate_left
                        ·intro w'
                         go_simp
                         with_reducible rfl
                        rotate_left
                        ·simp only [Act.put, List.setIfInBounds_toArray, List.set_cons_zero, List.set_cons_succ, i64_w, i32_w]
                         rfl
                        refine pure_ (i := 3) (N := some 427) (v := ?_) (a' := ?_) #[true, true, true, true, false, false, false, false, false, false, false, false, false, false, false, false, false, false, false, false, false, false, false, false, false, false, false, false, false, false] rfl rfl (any_of HT_.out (by kernel_rfl)) (fun _ _ _ h => h) (Or.inl ⟨by rfl, ?_⟩) ?_ ?_
                        rotate_left
                        ·intro w'
                         go_simp
                         with_reducible rfl
                        rotate_left
                        ·simp only [Act.put, List.setIfInBounds_toArray, List.set_cons_zero, List.set_cons_succ, i64_w, i32_w]
                         rfl
                        refine pure_ (i := 4) (N := some 428) (v := ?_) (a' := ?_) #[true, true, true, true, true, false, false, false, false, false, false, false, false, false, false, false, false, false, false, false, false, false, false, false, false, false, false, false, false, false] rfl rfl (any_of HT_.out (by kernel_rfl)) (fun _ _ _ h => h) (Or.inl ⟨by rfl, ?_⟩) ?_ ?_
                        rotate_left
                        ·intro w'
                         go_simp
                         with_reducible rfl
                        rotate_left
                        ·simp only [Act.put, List.setIfInBounds_toArray, List.set_cons_zero, List.set_cons_succ, i64_w, i32_w]
                         rfl
                        refine pure_ (i := 5) (N := some 429) (v := ?_) (a' := ?_) #[true, true, true, true, true, true, false, false, false, false, false, false, false, false, false, false, false, false, false, false, false, false, false, false, false, false, false, false, false, false] rfl rfl (any_of HT_.out (by kernel_rfl)) (fun _ _ _ h => h) (Or.inl ⟨by rfl, ?_⟩) ?_ ?_
                        rotate_left
                        ·intro w'
                         go_simp
                         with_reducible rfl
                        rotate_left
                        ·simp only [Act.put, List.setIfInBounds_toArray, List.set_cons_zero, List.set_cons_succ, i64_w, i32_w]
                         rfl
                        refine pure_ (i := 6) (N := some 430) (v := ?_) (a' := ?_) #[true, true, true, true, true, true, true, false, false, false, false, false, false, false, false, false, false, false, false, false, false, false, false, false, false, false, false, false, false, false] rfl rfl (any_of HT_.out (by kernel_rfl)) (fun _ _ _ h => h) (Or.inl ⟨by rfl, ?_⟩) ?_ ?_
                        rotate_left
                        ·intro w'
                         go_simp
                         with_reducible rfl
                        rotate_left
                        ·simp only [Act.put, List.setIfInBounds_toArray, List.set_cons_zero, List.set_cons_succ, i64_w, i32_w]
                         rfl
                        refine pure_ (i := 7) (N := some 431) (v := ?_) (a' := ?_) #[true, true, true, true, true, true, true, true, false, false, false, false, false, false, false, false, false, false, false, false, false, false, false, false, false, false, false, false, false, false] rfl rfl (any_of HT_.out (by kernel_rfl)) (fun _ _ _ h => h) (Or.inl ⟨by rfl, ?_⟩) ?_ ?_
                        rotate_left
                        ·intro w'
                         go_simp
                         with_reducible rfl
                        rotate_left
                        ·simp only [Act.put, List.setIfInBounds_toArray, List.set_cons_zero, List.set_cons_succ, i64_w, i32_w]
                         rfl
                        refine pure_ (i := 8) (N := some 432) (v := ?_) (a' := ?_) #[true, true, true, true, true, true, true, true, true, false, false, false, false, false, false, false, false, false, false, false, false, false, false, false, false, false, false, false, false, false] rfl rfl (any_of HT_.out (by kernel_rfl)) (fun _ _ _ h => h) (Or.inl ⟨by rfl, ?_⟩) ?_ ?_
                        rotate_left
                        ·intro w'
                         go_simp
                         with_reducible rfl
                        rotate_left
                        ·simp only [Act.put, List.setIfInBounds_toArray, List.set_cons_zero, List.set_cons_succ, i64_w, i32_w]
                         rfl
                        refine pure_ (i := 9) (N := some 433) (v := ?_) (a' := ?_) #[true, true, true, true, true, true, true, true, true, true, false, false, false, false, false, false, false, false, false, false, false, false, false, false, false, false, false, false, false, false] rfl rfl (any_of HT_.out (by kernel_rfl)) (fun _ _ _ h => h) (Or.inl ⟨by rfl, ?_⟩) ?_ ?_
                        rotate_left
                        ·intro w'
                         go_simp
                         with_reducible rfl
                        rotate_left
                        ·simp only [Act.put, List.setIfInBounds_toArray, List.set_cons_zero, List.set_cons_succ, i64_w, i32_w]
                         rfl
                        refine pure_ (i := 10) (N := some 434) (v := ?_) (a' := ?_) #[true, true, true, true, true, true, true, true, true, true, true, false, false, false, false, false, false, false, false, false, false, false, false, false, false, false, false, false, false, false] rfl rfl (any_of HT_.out (by kernel_rfl)) (fun _ _ _ h => h) (Or.inl ⟨by rfl, ?_⟩) ?_ ?_
                        rotate_left
                        ·intro w'
                         go_simp
                         with_reducible rfl
                        rotate_left
                        ·simp only [Act.put, List.setIfInBounds_toArray, List.set_cons_zero, List.set_cons_succ, i64_w, i32_w]
                         rfl
                        refine pure_ (i := 11) (N := some 435) (v := ?_) (a' := ?_) #[true, true, true, true, true, true, true, true, true, true, true, true, false, false, false, false, false, false, false, false, false, false, false, false, false, false, false, false, false, false] rfl rfl (any_of HT_.out (by kernel_rfl)) (fun _ _ _ h => h) (Or.inl ⟨by rfl, ?_⟩) ?_ ?_
                        rotate_left
                        ·intro w'
                         go_simp
                         with_reducible rfl
                        rotate_left
                        ·simp only [Act.put, List.setIfInBounds_toArray, List.set_cons_zero, List.set_cons_succ, i64_w, i32_w]
                         rfl
                        refine pure_ (i := 12) (N := some 436) (v := ?_) (a' := ?_) #[true, true, true, true, true, true, true, true, true, true, true, true, true, false, false, false, false, false, false, false, false, false, false, false, false, false, false, false, false, false] rfl rfl (any_of HT_.out (by kernel_rfl)) (fun _ _ _ h => h) (Or.inl ⟨by rfl, ?_⟩) ?_ ?_
                        rotate_left
                        ·intro w'
                         go_simp
                         with_reducible rfl
                        rotate_left
                        ·simp only [Act.put, List.setIfInBounds_toArray, List.set_cons_zero, List.set_cons_succ, i64_w, i32_w]
                         rfl
                        refine pure_ (i := 13) (N := some 437) (v := ?_) (a' := ?_) #[true, true, true, true, true, true, true, true, true, true, true, true, true, true, false, false, false, false, false, false, false, false, false, false, false, false, false, false, false, false] rfl rfl (any_of HT_.out (by kernel_rfl)) (fun _ _ _ h => h) (Or.inl ⟨by rfl, ?_⟩) ?_ ?_
                        rotate_left
                        ·intro w'
                         go_simp
                         with_reducible rfl
                        rotate_left
                        ·simp only [Act.put, List.setIfInBounds_toArray, List.set_cons_zero, List.set_cons_succ, i64_w, i32_w]
                         rfl
                        refine pure_ (i := 14) (N := some 438) (v := ?_) (a' := ?_) #[true, true, true, true, true, true, true, true, true, true, true, true, true, true, true, false, false, false, false, false, false, false, false, false, false, false, false, false, false, false] rfl rfl (any_of HT_.out (by kernel_rfl)) (fun _ _ _ h => h) (Or.inl ⟨by rfl, ?_⟩) ?_ ?_
                        rotate_left
                        ·intro w'
                         go_simp
                         with_reducible rfl
                        rotate_left
                        ·simp only [Act.put, List.setIfInBounds_toArray, List.set_cons_zero, List.set_cons_succ, i64_w, i32_w]
                         rfl
                        refine pure_ (i := 16) (N := some 440) (v := ?_) (a' := ?_) #[true, true, true, true, true, true, true, true, true, true, true, true, true, true, true, false, true, false, false, false, false, false, false, false, false, false, false, false, false, false] rfl rfl (any_of HT_.out (by kernel_rfl)) (fun _ _ _ h => h) (Or.inl ⟨by rfl, ?_⟩) ?_ ?_
                        rotate_left
                        ·intro w'
                         go_simp
                         with_reducible rfl
                        rotate_left
                        ·simp only [Act.put, List.setIfInBounds_toArray, List.set_cons_zero, List.set_cons_succ, i64_w, i32_w]
                         rfl
                        refine pure_ (i := 17) (N := some 441) (v := ?_) (a' := ?_) #[true, true, true, true, true, true, true, true, true, true, true, true, true, true, true, false, true, true, false, false, false, false, false, false, false, false, false, false, false, false] rfl rfl (any_of HT_.out (by kernel_rfl)) (fun _ _ _ h => h) (Or.inl ⟨by rfl, ?_⟩) ?_ ?_
                        rotate_left
                        ·intro w'
                         go_simp
                         with_reducible rfl
                        rotate_left
                        ·simp only [Act.put, List.setIfInBounds_toArray, List.set_cons_zero, List.set_cons_succ, i64_w, i32_w]
                         rfl
                        refine pure_ (i := 18) (N := some 442) (v := ?_) (a' := ?_) #[true, true, true, true, true, true, true, true, true, true, true, true, true, true, true, false, true, true, true, false, false, false, false, false, false, false, false, false, false, false] rfl rfl (any_of HT_.out (by kernel_rfl)) (fun _ _ _ h => h) (Or.inl ⟨by rfl, ?_⟩) ?_ ?_
                        rotate_left
                        ·intro w'
                         go_simp
                         with_reducible rfl
                        rotate_left
                        ·simp only [Act.put, List.setIfInBounds_toArray, List.set_cons_zero, List.set_cons_succ, i64_w, i32_w]
                         rfl
                        refine pure_ (i := 19) (N := some 443) (v := ?_) (a' := ?_) #[true, true, true, true, true, true, true, true, true, true, true, true, true, true, true, false, true, true, true, true, false, false, false, false, false, false, false, false, false, false] rfl rfl (any_of HT_.out (by kernel_rfl)) (fun _ _ _ h => h) (Or.inl ⟨by rfl, ?_⟩) ?_ ?_
                        rotate_left
                        ·intro w'
                         go_simp
                         with_reducible rfl
                        rotate_left
                        ·simp only [Act.put, List.setIfInBounds_toArray, List.set_cons_zero, List.set_cons_succ, i64_w, i32_w]
                         rfl
                        refine pure_ (i := 20) (N := some 444) (v := ?_) (a' := ?_) #[true, true, true, true, true, true, true, true, true, true, true, true, true, true, true, false, true, true, true, true, true, false, false, false, false, false, false, false, false, false] rfl rfl (any_of HT_.out (by kernel_rfl)) (fun _ _ _ h => h) (Or.inl ⟨by rfl, ?_⟩) ?_ ?_
                        rotate_left
                        ·intro w'
                         go_simp
                         with_reducible rfl
                        rotate_left
                        ·simp only [Act.put, List.setIfInBounds_toArray, List.set_cons_zero, List.set_cons_succ, i64_w, i32_w]
                         rfl
                        refine pure_ (i := 22) (N := some 446) (v := ?_) (a' := ?_) #[true, true, true, true, true, true, true, true, true, true, true, true, true, true, true, false, true, true, true, true, true, false, true, false, false, false, false, false, false, false] rfl rfl (any_of HT_.out (by kernel_rfl)) (fun _ _ _ h => h) (Or.inl ⟨by rfl, ?_⟩) ?_ ?_
                        rotate_left
                        ·intro w'
                         go_simp
                         with_reducible rfl
                        rotate_left
                        ·simp only [Act.put, List.setIfInBounds_toArray, List.set_cons_zero, List.set_cons_succ, i64_w, i32_w]
                         rfl
                        refine pure_ (i := 23) (N := some 447) (v := ?_) (a' := ?_) #[true, true, true, true, true, true, true, true, true, true, true, true, true, true, true, false, true, true, true, true, true, false, true, true, false, false, false, false, false, false] rfl rfl (any_of HT_.out (by kernel_rfl)) (fun _ _ _ h => h) (Or.inl ⟨by rfl, ?_⟩) ?_ ?_
                        rotate_left
                        ·intro w'
                         go_simp
                         with_reducible rfl
                        rotate_left
                        ·simp only [Act.put, List.setIfInBounds_toArray, List.set_cons_zero, List.set_cons_succ, i64_w, i32_w]
                         rfl
                        refine take_ (i := 21) (N := some 445) (v := ?_) (a' := ?_) #[true, true, true, true, true, true, true, true, true, true, true, true, true, true, true, false, true, true, true, true, true, true, true, true, false, false, false, false, false, false] rfl rfl (take_ofW HT_.out HW_.out (by kernel_rfl)) (fun _ _ _ h => h) (Or.inl ⟨by rfl, ?_⟩) hHeld ?_ ?_
                        rotate_left
                        ·rintro w' ⟨s0, s1⟩
                         go_simp
                         with_reducible rfl
                        rotate_left
                        ·simp only [Act.put, List.setIfInBounds_toArray, List.set_cons_zero, List.set_cons_succ, i64_w, i32_w]
                         rfl
                        refine take_ (i := 24) (N := some 448) (v := ?_) (a' := ?_) #[true, true, true, true, true, true, true, true, true, true, true, true, true, true, true, false, true, true, true, true, true, true, true, true, true, false, false, false, false, false] rfl rfl (take_ofW HT_.out HW_.out (by kernel_rfl)) (fun _ _ _ h => h) (Or.inl ⟨by rfl, ?_⟩) hHeld ?_ ?_
                        rotate_left
                        ·rintro w' ⟨s0, s1⟩
                         go_simp
                         with_reducible rfl
                        rotate_left
                        ·simp only [Act.put, List.setIfInBounds_toArray, List.set_cons_zero, List.set_cons_succ, i64_w, i32_w]
                         rfl
                        refine pure_ (i := 25) (N := some 449) (v := ?_) (a' := ?_) #[true, true, true, true, true, true, true, true, true, true, true, true, true, true, true, false, true, true, true, true, true, true, true, true, true, true, false, false, false, false] rfl rfl (any_of HT_.out (by kernel_rfl)) (fun _ _ _ h => h) (Or.inl ⟨by rfl, ?_⟩) ?_ ?_
                        rotate_left
                        ·intro w'
                         go_simp
                         with_reducible rfl
                        rotate_left
                        ·simp only [Act.put, List.setIfInBounds_toArray, List.set_cons_zero, List.set_cons_succ, i64_w, i32_w]
                         rfl
                        refine one_ (i := 15) (N := some 439) #[true, true, true, true, true, true, true, true, true, true, true, true, true, true, true, true, true, true, true, true, true, true, true, true, true, true, false, false, false, false] rfl rfl (one_of HT_.out (by kernel_rfl)) (by decide) (fun K hK => ?_)
                        refine goes_ Try.func33 (by kernel_rfl) rfl #[.slice Ao118 t153.length co118] (by rfl) rfl rfl k35_ ?_
                        with_reducible refine (laws_tSum.calls kj42 _ _ t153 t175 _ ?side1 ?side2 A129.out).mono ?_
                        (case side1 => repeat (first | exact (Kd.R_reads' HO156.out).2.2 | (with_reducible refine Kd.C_alloc ?_ _) | (with_reducible refine Kd.C_drewN ?_ _) | (with_reducible refine Kd.C_drew ?_)))
                        (case side2 => exact (Kd.R_reads' HO156.out).2.1)
                        rintro e w' ⟨rfl, ⟨nd, rfl⟩⟩
                        refine ⟨_, rfl, ?_⟩
                        refine hK.out _ _ ⟨hHeld.1, hHeld.2⟩ (fun hHeld => ?_)
                        clear hK K
                        refine norm_ (a' := ?_) ?_ ?_
                        rotate_left
                        ·show Act.put _ (some 439) _ = _
                         simp only [Act.put, List.setIfInBounds_toArray, List.set_cons_zero, List.set_cons_succ, i64_w, i32_w]
                         rfl
                        refine pure_ (i := 26) (N := some 450) (v := ?_) (a' := ?_) #[true, true, true, true, true, true, true, true, true, true, true, true, true, true, true, true, true, true, true, true, true, true, true, true, true, true, true, false, false, false] rfl rfl (any_of HT_.out (by kernel_rfl)) (fun _ _ _ h => h) (Or.inl ⟨by rfl, ?_⟩) ?_ ?_
                        rotate_left
                        ·intro w'
                         go_simp
                         with_reducible rfl
                        rotate_left
                        ·simp only [Act.put, List.setIfInBounds_toArray, List.set_cons_zero, List.set_cons_succ, i64_w, i32_w]
                         rfl
                        refine pure_ (i := 27) (N := some 451) (v := ?_) (a' := ?_) #[true, true, true, true, true, true, true, true, true, true, true, true, true, true, true, true, true, true, true, true, true, true, true, true, true, true, true, true, false, false] rfl rfl (any_of HT_.out (by kernel_rfl)) (fun _ _ _ h => h) (Or.inl ⟨by rfl, ?_⟩) ?_ ?_
                        rotate_left
                        ·intro w'
                         go_simp
                         with_reducible rfl
                        rotate_left
                        ·simp only [Act.put, List.setIfInBounds_toArray, List.set_cons_zero, List.set_cons_succ, i64_w, i32_w]
                         rfl
                        refine pure_ (i := 28) (N := some 452) (v := ?_) (a' := ?_) #[true, true, true, true, true, true, true, true, true, true, true, true, true, true, true, true, true, true, true, true, true, true, true, true, true, true, true, true, true, false] rfl rfl (any_of HT_.out (by kernel_rfl)) (fun _ _ _ h => h) (Or.inl ⟨by rfl, ?_⟩) ?_ ?_
                        rotate_left
                        ·intro w'
                         go_simp
                         with_reducible rfl
                        rotate_left
                        ·simp only [Act.put, List.setIfInBounds_toArray, List.set_cons_zero, List.set_cons_succ, i64_w, i32_w]
                         rfl
                        refine pure_ (i := 29) (N := some 453) (v := ?_) (a' := ?_) #[true, true, true, true, true, true, true, true, true, true, true, true, true, true, true, true, true, true, true, true, true, true, true, true, true, true, true, true, true, true] rfl rfl (any_of HT_.out (by kernel_rfl)) (fun _ _ _ h => h) (Or.inl ⟨by rfl, ?_⟩) ?_ ?_
                        rotate_left
                        ·intro w'
                         go_simp
                         with_reducible rfl
                        rotate_left
                        ·simp only [Act.put, List.setIfInBounds_toArray, List.set_cons_zero, List.set_cons_succ, i64_w, i32_w]
                         rfl
                        refine done_ (done_of HT_.out (by kernel_rfl)) ?_
                        try go_wp2
                        go_meet
                        case rel => exact ⟨_, ((t175 != (wrap64 ((rd t171 (ji130)) - (rd t171 0))))), (by first | rfl | (simp; done) | (simp only [← hji130] <;> (first | rfl | simp)) | (simp [*]; done)), H', ⟨by have := HJ13.out; have := HJ42.out; first | omega | exact Nat.le_refl _⟩, ⟨by apply_rules only [HO152.out, Kd.R_alloc, Kd.R_drewN, Kd.R_drew]⟩, ⟨by (with_reducible repeat (first | apply Kd.R_alloc | apply Kd.R_drewN | apply Kd.R_drew)); exact Kd.R_mono HO156.out (fun _ hk => hk.2)⟩, ⟨by (with_reducible repeat (first | apply Kd.S_alloc | apply Kd.S_drewN | apply Kd.S_drew)); exact Kd.S_mono HO164.out (fun _ hk => ⟨hk.1.1.1.2, hk.2⟩)⟩, ⟨by (with_reducible repeat (first | apply Kd.R_alloc | apply Kd.R_drewN | apply Kd.R_drew)); exact Kd.R_mono HO174.out (fun _ hk => hk.1.2)⟩, ⟨k49_⟩⟩
                       ·rw [if_neg c133] at H
                        exact absurd H (by simp)
                      ·rw [if_neg c132] at H
                       exact absurd H (by simp)
                     ·rw [if_neg c131] at H
                      exact absurd H (by simp)
                    ·rw [if_neg c128] at H
                     have c128b0 : ((t153.length : Int) == (wrap64 ((t171.length : Int) - 1))) = false := beq_eq_false_iff_ne.mpr c128
                     have c128b1 : ((t153.length : Int) != (wrap64 ((t171.length : Int) - 1))) = true := bne_iff_ne.mpr c128
                     exact absurd H (by simp)
                   ·rw [if_neg c127] at H
                    have c127b0 : decide (0 < (t171.length : Int)) = false := decide_eq_false c127
                    have c127b1 : decide (0 < t171.length) = false := decide_eq_false (by omega)
                    clear c127
                    (first | rw [c127b0] | rw [c127b1] | (simp only [i64_w, i32_w]; rw [c127b0]) | skip)
                    have H' := Aside0.mk H
                    clear H
                    try go_wp2
                    have n0_ := Aside0.mk (Kd.R_drew HO152.out)
                    have n1_ := Aside0.mk (Kd.R_drew HO156.out)
                    have n2_ := Aside0.mk (Kd.R_drew HO160.out)
                    have n3_ := Aside0.mk (Kd.S_drew HO164.out)
                    have n4_ := Aside0.mk (Kd.S_drew HO168.out)
                    have n5_ := Aside0.mk (Kd.R_drew HO174.out)
                    have n6_ := Aside0.mk (below_drew1 HB.out)
                    clear HO152
                    clear HO156
                    clear HO160
                    clear HO164
                    clear HO168
                    clear HO174
                    clear HB
                    have HO152 := n0_
                    have HO156 := n1_
                    have HO160 := n2_
                    have HO164 := n3_
                    have HO168 := n4_
                    have HO174 := n5_
                    have HB := n6_
                    clear n0_ n1_ n2_ n3_ n4_ n5_ n6_
                    obtain ⟨Ao137, co137, eo137⟩ := Kd.R_slice HO174.out
                    (first | subst eo137 | (injection eo137 with f1_ f2_ f3_; have f4_ := f1_.symm; have f5_ := f3_.symm; clear f1_ f2_ f3_; subst f4_; subst f5_))
                    refine start_ (n := 30) (S := fun w' => True) (ds := []) #[false, false, false, false, false, false, false, false, false, false, false, false, false, false, false, false, false, false, false, false, false, false, false, false, false, false, false, false, false, false] (by kernel_rfl) rfl rfl trivial (fun hHeld => ?_); refine with_tabW laws_FnGapsTold.tab54 laws_FnGapsTold.bits54 (fun HT_ HW_ => ?_)
                    generalize w125.drew = w136 at HO152 HO156 HO160 HO164 HO168 HO174 HB hHeld ⊢
                    refine pure_ (i := 0) (N := some 424) (v := ?_) (a' := ?_) #[true, false, false, false, false, false, false, false, false, false, false, false, false, false, false, false, false, false, false, false, false, false, false, false, false, false, false, false, false, false] rfl rfl (any_of HT_.out (by kernel_rfl)) (fun _ _ _ h => h) (Or.inl ⟨by rfl, ?_⟩) ?_ ?_
                    rotate_left
                    ·intro w'
                     go_simp
                     with_reducible rfl
                    rotate_left
                    ·simp only [Act.put, List.setIfInBounds_toArray, List.set_cons_zero, List.set_cons_succ, i64_w, i32_w]
                     rfl
                    refine pure_ (i := 1) (N := some 425) (v := ?_) (a' := ?_) #[true, true, false, false, false, false, false, false, false, false, false, false, false, false, false, false, false, false, false, false, false, false, false, false, false, false, false, false, false, false] rfl rfl (any_of HT_.out (by kernel_rfl)) (fun _ _ _ h => h) (Or.inl ⟨by rfl, ?_⟩) ?_ ?_
                    rotate_left
                    ·intro w'
                     go_simp
                     with_reducible rfl
                    rotate_left
                    ·simp only [Act.put, List.setIfInBounds_toArray, List.set_cons_zero, List.set_cons_succ, i64_w, i32_w]
                     rfl
                    refine pure_ (i := 2) (N := some 426) (v := ?_) (a' := ?_) #[true, true, true, false, false, false, false, false, false, false, false, false, false, false, false, false, false, false, false, false, false, false, false, false, false, false, false, false, false, false] rfl rfl (any_of HT_.out (by kernel_rfl)) (fun _ _ _ h => h) (Or.inl ⟨by rfl, ?_⟩) ?_ ?_
                    rotate_left
                    ·intro w'
                     go_simp
                     with_reducible rfl
                    rotate_left
                    ·simp only [Act.put, List.setIfInBounds_toArray, List.set_cons_zero, List.set_cons_succ, i64_w, i32_w]
                     rfl
                    refine pure_ (i := 3) (N := some 427) (v := ?_) (a' := ?_) #[true, true, true, true, false, false, false, false, false, false, false, false, false, false, false, false, false, false, false, false, false, false, false, false, false, false, false, false, false, false] rfl rfl (any_of HT_.out (by kernel_rfl)) (fun _ _ _ h => h) (Or.inl ⟨by rfl, ?_⟩) ?_ ?_
                    rotate_left
                    ·intro w'
                     go_simp
                     with_reducible rfl
                    rotate_left
                    ·simp only [Act.put, List.setIfInBounds_toArray, List.set_cons_zero, List.set_cons_succ, i64_w, i32_w]
                     rfl
                    refine pure_ (i := 4) (N := some 428) (v := ?_) (a' := ?_) #[true, true, true, true, true, false, false, false, false, false, false, false, false, false, false, false, false, false, false, false, false, false, false, false, false, false, false, false, false, false] rfl rfl (any_of HT_.out (by kernel_rfl)) (fun _ _ _ h => h) (Or.inl ⟨by rfl, ?_⟩) ?_ ?_
                    rotate_left
                    ·intro w'
                     go_simp
                     with_reducible rfl
                    rotate_left
                    ·simp only [Act.put, List.setIfInBounds_toArray, List.set_cons_zero, List.set_cons_succ, i64_w, i32_w]
                     rfl
                    refine pure_ (i := 5) (N := some 429) (v := ?_) (a' := ?_) #[true, true, true, true, true, true, false, false, false, false, false, false, false, false, false, false, false, false, false, false, false, false, false, false, false, false, false, false, false, false] rfl rfl (any_of HT_.out (by kernel_rfl)) (fun _ _ _ h => h) (Or.inl ⟨by rfl, ?_⟩) ?_ ?_
                    rotate_left
                    ·intro w'
                     go_simp
                     with_reducible rfl
                    rotate_left
                    ·simp only [Act.put, List.setIfInBounds_toArray, List.set_cons_zero, List.set_cons_succ, i64_w, i32_w]
                     rfl
                    refine pure_ (i := 6) (N := some 430) (v := ?_) (a' := ?_) #[true, true, true, true, true, true, true, false, false, false, false, false, false, false, false, false, false, false, false, false, false, false, false, false, false, false, false, false, false, false] rfl rfl (any_of HT_.out (by kernel_rfl)) (fun _ _ _ h => h) (Or.inl ⟨by rfl, ?_⟩) ?_ ?_
                    rotate_left
                    ·intro w'
                     go_simp
                     with_reducible rfl
                    rotate_left
                    ·simp only [Act.put, List.setIfInBounds_toArray, List.set_cons_zero, List.set_cons_succ, i64_w, i32_w]
                     rfl
                    refine pure_ (i := 7) (N := some 431) (v := undef) (a' := ?_) #[true, true, true, true, true, true, true, true, false, false, false, false, false, false, false, false, false, false, false, false, false, false, false, false, false, false, false, false, false, false] rfl rfl (any_of HT_.out (by kernel_rfl)) (fun _ _ _ h => h) (Or.inr ⟨by rfl, rfl⟩) ?_ ?_
                    rotate_left
                    ·simp only [Act.put, List.setIfInBounds_toArray, List.set_cons_zero, List.set_cons_succ, i64_w, i32_w]
                     rfl
                    refine pure_ (i := 8) (N := some 432) (v := undef) (a' := ?_) #[true, true, true, true, true, true, true, true, true, false, false, false, false, false, false, false, false, false, false, false, false, false, false, false, false, false, false, false, false, false] rfl rfl (any_of HT_.out (by kernel_rfl)) (fun _ _ _ h => h) (Or.inr ⟨by rfl, rfl⟩) ?_ ?_
                    rotate_left
                    ·simp only [Act.put, List.setIfInBounds_toArray, List.set_cons_zero, List.set_cons_succ, i64_w, i32_w]
                     rfl
                    refine pure_ (i := 9) (N := some 433) (v := undef) (a' := ?_) #[true, true, true, true, true, true, true, true, true, true, false, false, false, false, false, false, false, false, false, false, false, false, false, false, false, false, false, false, false, false] rfl rfl (any_of HT_.out (by kernel_rfl)) (fun _ _ _ h => h) (Or.inr ⟨by rfl, rfl⟩) ?_ ?_
                    rotate_left
                    ·simp only [Act.put, List.setIfInBounds_toArray, List.set_cons_zero, List.set_cons_succ, i64_w, i32_w]
                     rfl
                    refine pure_ (i := 10) (N := some 434) (v := undef) (a' := ?_) #[true, true, true, true, true, true, true, true, true, true, true, false, false, false, false, false, false, false, false, false, false, false, false, false, false, false, false, false, false, false] rfl rfl (any_of HT_.out (by kernel_rfl)) (fun _ _ _ h => h) (Or.inr ⟨by rfl, rfl⟩) ?_ ?_
                    rotate_left
                    ·simp only [Act.put, List.setIfInBounds_toArray, List.set_cons_zero, List.set_cons_succ, i64_w, i32_w]
                     rfl
                    refine pure_ (i := 11) (N := some 435) (v := undef) (a' := ?_) #[true, true, true, true, true, true, true, true, true, true, true, true, false, false, false, false, false, false, false, false, false, false, false, false, false, false, false, false, false, false] rfl rfl (any_of HT_.out (by kernel_rfl)) (fun _ _ _ h => h) (Or.inr ⟨by rfl, rfl⟩) ?_ ?_
                    rotate_left
                    ·simp only [Act.put, List.setIfInBounds_toArray, List.set_cons_zero, List.set_cons_succ, i64_w, i32_w]
                     rfl
                    refine pure_ (i := 12) (N := some 436) (v := undef) (a' := ?_) #[true, true, true, true, true, true, true, true, true, true, true, true, true, false, false, false, false, false, false, false, false, false, false, false, false, false, false, false, false, false] rfl rfl (any_of HT_.out (by kernel_rfl)) (fun _ _ _ h => h) (Or.inr ⟨by rfl, rfl⟩) ?_ ?_
                    rotate_left
                    ·simp only [Act.put, List.setIfInBounds_toArray, List.set_cons_zero, List.set_cons_succ, i64_w, i32_w]
                     rfl
                    refine pure_ (i := 13) (N := some 437) (v := undef) (a' := ?_) #[true, true, true, true, true, true, true, true, true, true, true, true, true, true, false, false, false, false, false, false, false, false, false, false, false, false, false, false, false, false] rfl rfl (any_of HT_.out (by kernel_rfl)) (fun _ _ _ h => h) (Or.inr ⟨by rfl, rfl⟩) ?_ ?_
                    rotate_left
                    ·simp only [Act.put, List.setIfInBounds_toArray, List.set_cons_zero, List.set_cons_succ, i64_w, i32_w]
                     rfl
                    refine pure_ (i := 14) (N := some 438) (v := undef) (a' := ?_) #[true, true, true, true, true, true, true, true, true, true, true, true, true, true, true, false, false, false, false, false, false, false, false, false, false, false, false, false, false, false] rfl rfl (any_of HT_.out (by kernel_rfl)) (fun _ _ _ h => h) (Or.inr ⟨by rfl, rfl⟩) ?_ ?_
                    rotate_left
                    ·simp only [Act.put, List.setIfInBounds_toArray, List.set_cons_zero, List.set_cons_succ, i64_w, i32_w]
                     rfl
                    refine pure_ (i := 15) (N := some 439) (v := undef) (a' := ?_) #[true, true, true, true, true, true, true, true, true, true, true, true, true, true, true, true, false, false, false, false, false, false, false, false, false, false, false, false, false, false] rfl rfl (any_of HT_.out (by kernel_rfl)) (fun _ _ _ h => h) (Or.inr ⟨by rfl, rfl⟩) ?_ ?_
                    rotate_left
                    ·simp only [Act.put, List.setIfInBounds_toArray, List.set_cons_zero, List.set_cons_succ, i64_w, i32_w]
                     rfl
                    refine pure_ (i := 16) (N := some 440) (v := undef) (a' := ?_) #[true, true, true, true, true, true, true, true, true, true, true, true, true, true, true, true, true, false, false, false, false, false, false, false, false, false, false, false, false, false] rfl rfl (any_of HT_.out (by kernel_rfl)) (fun _ _ _ h => h) (Or.inr ⟨by rfl, rfl⟩) ?_ ?_
                    rotate_left
                    ·simp only [Act.put, List.setIfInBounds_toArray, List.set_cons_zero, List.set_cons_succ, i64_w, i32_w]
                     rfl
                    refine pure_ (i := 17) (N := some 441) (v := undef) (a' := ?_) #[true, true, true, true, true, true, true, true, true, true, true, true, true, true, true, true, true, true, false, false, false, false, false, false, false, false, false, false, false, false] rfl rfl (any_of HT_.out (by kernel_rfl)) (fun _ _ _ h => h) (Or.inr ⟨by rfl, rfl⟩) ?_ ?_
                    rotate_left
                    ·simp only [Act.put, List.setIfInBounds_toArray, List.set_cons_zero, List.set_cons_succ, i64_w, i32_w]
                     rfl
                    refine pure_ (i := 18) (N := some 442) (v := undef) (a' := ?_) #[true, true, true, true, true, true, true, true, true, true, true, true, true, true, true, true, true, true, true, false, false, false, false, false, false, false, false, false, false, false] rfl rfl (any_of HT_.out (by kernel_rfl)) (fun _ _ _ h => h) (Or.inr ⟨by rfl, rfl⟩) ?_ ?_
                    rotate_left
                    ·simp only [Act.put, List.setIfInBounds_toArray, List.set_cons_zero, List.set_cons_succ, i64_w, i32_w]
                     rfl
                    refine pure_ (i := 19) (N := some 443) (v := undef) (a' := ?_) #[true, true, true, true, true, true, true, true, true, true, true, true, true, true, true, true, true, true, true, true, false, false, false, false, false, false, false, false, false, false] rfl rfl (any_of HT_.out (by kernel_rfl)) (fun _ _ _ h => h) (Or.inr ⟨by rfl, rfl⟩) ?_ ?_
                    rotate_left
                    ·simp only [Act.put, List.setIfInBounds_toArray, List.set_cons_zero, List.set_cons_succ, i64_w, i32_w]
                     rfl
                    refine pure_ (i := 20) (N := some 444) (v := undef) (a' := ?_) #[true, true, true, true, true, true, true, true, true, true, true, true, true, true, true, true, true, true, true, true, true, false, false, false, false, false, false, false, false, false] rfl rfl (any_of HT_.out (by kernel_rfl)) (fun _ _ _ h => h) (Or.inr ⟨by rfl, rfl⟩) ?_ ?_
                    rotate_left
                    ·simp only [Act.put, List.setIfInBounds_toArray, List.set_cons_zero, List.set_cons_succ, i64_w, i32_w]
                     rfl
                    refine pure_ (i := 21) (N := some 445) (v := undef) (a' := ?_) #[true, true, true, true, true, true, true, true, true, true, true, true, true, true, true, true, true, true, true, true, true, true, false, false, false, false, false, false, false, false] rfl rfl (any_of HT_.out (by kernel_rfl)) (fun _ _ _ h => h) (Or.inr ⟨by rfl, rfl⟩) ?_ ?_
                    rotate_left
                    ·simp only [Act.put, List.setIfInBounds_toArray, List.set_cons_zero, List.set_cons_succ, i64_w, i32_w]
                     rfl
                    refine pure_ (i := 22) (N := some 446) (v := undef) (a' := ?_) #[true, true, true, true, true, true, true, true, true, true, true, true, true, true, true, true, true, true, true, true, true, true, true, false, false, false, false, false, false, false] rfl rfl (any_of HT_.out (by kernel_rfl)) (fun _ _ _ h => h) (Or.inr ⟨by rfl, rfl⟩) ?_ ?_
                    rotate_left
                    ·simp only [Act.put, List.setIfInBounds_toArray, List.set_cons_zero, List.set_cons_succ, i64_w, i32_w]
                     rfl
                    refine pure_ (i := 23) (N := some 447) (v := undef) (a' := ?_) #[true, true, true, true, true, true, true, true, true, true, true, true, true, true, true, true, true, true, true, true, true, true, true, true, false, false, false, false, false, false] rfl rfl (any_of HT_.out (by kernel_rfl)) (fun _ _ _ h => h) (Or.inr ⟨by rfl, rfl⟩) ?_ ?_
                    rotate_left
                    ·simp only [Act.put, List.setIfInBounds_toArray, List.set_cons_zero, List.set_cons_succ, i64_w, i32_w]
                     rfl
                    refine pure_ (i := 24) (N := some 448) (v := undef) (a' := ?_) #[true, true, true, true, true, true, true, true, true, true, true, true, true, true, true, true, true, true, true, true, true, true, true, true, true, false, false, false, false, false] rfl rfl (any_of HT_.out (by kernel_rfl)) (fun _ _ _ h => h) (Or.inr ⟨by rfl, rfl⟩) ?_ ?_
                    rotate_left
                    ·simp only [Act.put, List.setIfInBounds_toArray, List.set_cons_zero, List.set_cons_succ, i64_w, i32_w]
                     rfl
                    refine pure_ (i := 25) (N := some 449) (v := undef) (a' := ?_) #[true, true, true, true, true, true, true, true, true, true, true, true, true, true, true, true, true, true, true, true, true, true, true, true, true, true, false, false, false, false] rfl rfl (any_of HT_.out (by kernel_rfl)) (fun _ _ _ h => h) (Or.inr ⟨by rfl, rfl⟩) ?_ ?_
                    rotate_left
                    ·simp only [Act.put, List.setIfInBounds_toArray, List.set_cons_zero, List.set_cons_succ, i64_w, i32_w]
                     rfl
                    refine pure_ (i := 26) (N := some 450) (v := undef) (a' := ?_) #[true, true, true, true, true, true, true, true, true, true, true, true, true, true, true, true, true, true, true, true, true, true, true, true, true, true, true, false, false, false] rfl rfl (any_of HT_.out (by kernel_rfl)) (fun _ _ _ h => h) (Or.inr ⟨by rfl, rfl⟩) ?_ ?_
                    rotate_left
                    ·simp only [Act.put, List.setIfInBounds_toArray, List.set_cons_zero, List.set_cons_succ, i64_w, i32_w]
                     rfl
                    refine pure_ (i := 27) (N := some 451) (v := undef) (a' := ?_) #[true, true, true, true, true, true, true, true, true, true, true, true, true, true, true, true, true, true, true, true, true, true, true, true, true, true, true, true, false, false] rfl rfl (any_of HT_.out (by kernel_rfl)) (fun _ _ _ h => h) (Or.inr ⟨by rfl, rfl⟩) ?_ ?_
                    rotate_left
                    ·simp only [Act.put, List.setIfInBounds_toArray, List.set_cons_zero, List.set_cons_succ, i64_w, i32_w]
                     rfl
                    refine pure_ (i := 28) (N := some 452) (v := ?_) (a' := ?_) #[true, true, true, true, true, true, true, true, true, true, true, true, true, true, true, true, true, true, true, true, true, true, true, true, true, true, true, true, true, false] rfl rfl (any_of HT_.out (by kernel_rfl)) (fun _ _ _ h => h) (Or.inl ⟨by rfl, ?_⟩) ?_ ?_
                    rotate_left
                    ·intro w'
                     go_simp
                     with_reducible rfl
                    rotate_left
                    ·simp only [Act.put, List.setIfInBounds_toArray, List.set_cons_zero, List.set_cons_succ, i64_w, i32_w]
                     rfl
                    refine pure_ (i := 29) (N := some 453) (v := ?_) (a' := ?_) #[true, true, true, true, true, true, true, true, true, true, true, true, true, true, true, true, true, true, true, true, true, true, true, true, true, true, true, true, true, true] rfl rfl (any_of HT_.out (by kernel_rfl)) (fun _ _ _ h => h) (Or.inl ⟨by rfl, ?_⟩) ?_ ?_
                    rotate_left
                    ·intro w'
                     go_simp
                     with_reducible rfl
                    rotate_left
                    ·simp only [Act.put, List.setIfInBounds_toArray, List.set_cons_zero, List.set_cons_succ, i64_w, i32_w]
                     rfl
                    refine done_ (done_of HT_.out (by kernel_rfl)) ?_
                    try go_wp2
                    go_meet
                    case rel => exact ⟨_, (false), k69_, H', ⟨by have := HJ13.out; have := HJ42.out; first | omega | exact Nat.le_refl _⟩, ⟨by apply_rules only [HO152.out, Kd.R_alloc, Kd.R_drewN, Kd.R_drew]⟩, ⟨by (with_reducible repeat (first | apply Kd.R_alloc | apply Kd.R_drewN | apply Kd.R_drew)); exact Kd.R_mono HO156.out (fun _ hk => hk.2)⟩, ⟨by (with_reducible repeat (first | apply Kd.S_alloc | apply Kd.S_drewN | apply Kd.S_drew)); exact Kd.S_mono HO164.out (fun _ hk => ⟨hk.1.1.1.2, hk.2⟩)⟩, ⟨by (with_reducible repeat (first | apply Kd.R_alloc | apply Kd.R_drewN | apply Kd.R_drew)); exact Kd.R_mono HO174.out (fun _ hk => hk.1.2)⟩, ⟨k49_⟩⟩
                  ·replace c126 := Bool.eq_false_iff.mpr c126
                   subst c126
                   rw [if_neg (show ¬ (false = true) by decide)] at H
                   exact absurd H (by simp)
                 case rest =>
                  as_aux_lemma =>
                   clear HC124
                   (try clear c1); (try clear c4); (try clear c42); (try clear c107); (try clear c109); (try clear c110); (try clear c110b0); (try clear c110b1); (try clear c110b2); (try clear c122)
                   obtain ⟨kq, x453_123, rfl, HA, HJ123, HO_45, HO_47, HO_51, HO_55, HB⟩ := hcut
                   cases kq with
                   | zero => exact absurd HA.out (by simp [laws_FnGapsTold.j7])
                   | succ kj123 =>
                    have H := HA.out
                    clear HA
                    simp only [laws_FnGapsTold.j7] at H
                    by_cases c138 : x453_123 = true
                    ·subst c138
                     rw [if_pos rfl] at H
                     exact absurd H (by simp)
                    ·replace c138 := Bool.eq_false_iff.mpr c138
                     subst c138
                     rw [if_neg (show ¬ (false = true) by decide)] at H
                     have H' := Aside0.mk H
                     clear H
                     go_wp2
                     go_loopg [57, 456] kj123 (fun kq v57 v456 w' => ∃ (x57_4 : Int) (x456_4 : Int), v57 = .int .i64 x57_4 ∧ v456 = .int .i64 x456_4 ∧ Aside0 (laws_FnGapsTold.l2 kq l1 t149 t153 t171 x57_4 t161 (t161.length : Int) x456_4 = some true) ∧ Aside0 (kq ≤ kj123) ∧ Aside0 (Kd.R kRule 38 w' w.heap.size (fun _ => True) (.slice Ao113 t149.length co113) t149) ∧ Aside0 (Kd.R (Kd.int .i64) 3 w' w.heap.size (fun k_ => some k_ ≠ (v173 : Value).ownBlock) (.slice Ao118 t153.length co118) t153) ∧ Aside0 (Kd.R (Kd.int .i64) 3 w' w.heap.size (fun k_ => some k_ ≠ ((.slice Ao118 t153.length co118) : Value).ownBlock) v173 t171) ∧ Aside0 (Kd.S (Kd.slice 3 (Kd.int .i64)) 24 w' w.heap.size (fun k_ => some k_ ≠ ((.slice Ao118 t153.length co118) : Value).ownBlock ∧ some k_ ≠ (v173 : Value).ownBlock) (.slice Ao120 t161.length co120) t161) ∧ Aside0 (Below w.heap.size w w'))
                     case atStart => exact ⟨(0), (0), k69_, k69_, H', ⟨Nat.le_refl _⟩, ⟨by apply_rules only [HO_45.out, Kd.R_alloc, Kd.R_drewN, Kd.R_drew]⟩, ⟨by apply_rules only [HO_47.out, Kd.R_alloc, Kd.R_drewN, Kd.R_drew]⟩, ⟨by apply_rules only [HO_55.out, Kd.R_alloc, Kd.R_drewN, Kd.R_drew]⟩, ⟨by apply_rules only [HO_51.out, Kd.S_alloc, Kd.S_drewN, Kd.S_drew]⟩, ⟨k49_⟩⟩
                     case round =>
                      clear H'
                      (try clear c1); (try clear c4); (try clear c42); (try clear c107); (try clear c109); (try clear c110); (try clear c110b0); (try clear c110b1); (try clear c110b2); (try clear c122); (try clear c138)
                      obtain ⟨x57_4, x456_4, rfl, rfl, HA, HK4, HO_45, HO_47, HO_55, HO_454, HB⟩ := hrel
                      cases gk with
                      | zero => exact absurd HA.out (by simp [laws_FnGapsTold.l2])
                      | succ k4 =>
                       have H := HA.out
                       clear HA
                       simp only [laws_FnGapsTold.l2] at H
                       by_cases c139 : x456_4 < (t161.length : Int)
                       ·rw [if_pos c139] at H
                        have c139b0 : decide (x456_4 < (t161.length : Int)) = true := decide_eq_true c139
                        clear c139
                        by_cases c140 : 0 ≤ x456_4
                        ·rw [if_pos c140] at H
                         have c140b0 : decide (0 ≤ x456_4) = true := decide_eq_true c140
                         clear c140
                         by_cases c141 : x456_4 < (t161.length : Int)
                         ·rw [if_pos c141] at H
                          have c141b0 : decide (x456_4 < (t161.length : Int)) = true := decide_eq_true c141
                          clear c141
                          by_cases c142 : 0 < ((rd_Ints t161 x456_4).length : Int)
                          ·rw [if_pos c142] at H
                           have c142b0 : decide (0 < ((rd_Ints t161 x456_4).length : Int)) = true := decide_eq_true c142
                           have c142b1 : decide (0 < (rd_Ints t161 x456_4).length) = true := decide_eq_true (by omega)
                           clear c142
                           obtain ⟨⟨t180, t181⟩, A143, H⟩ := obnd_ H
                           (try dsimp only at H)
                           obtain ⟨t183, A144, H⟩ := obnd_ H
                           (try dsimp only at H)
                           by_cases c145 : t183 = true
                           ·subst c145
                            rw [if_pos rfl] at H
                            by_cases c146 : 1 < ((rd_Ints t161 x456_4).length : Int)
                            ·rw [if_pos c146] at H
                             have c146b0 : decide (1 < ((rd_Ints t161 x456_4).length : Int)) = true := decide_eq_true c146
                             have c146b1 : decide (1 < (rd_Ints t161 x456_4).length) = true := decide_eq_true (by omega)
                             clear c146
                             by_cases c147 : (rd (rd_Ints t161 x456_4) 1) ≤ x57_4
                             ·rw [if_pos c147] at H
                              have c147b0 : decide ((rd (rd_Ints t161 x456_4) 1) ≤ x57_4) = true := decide_eq_true c147
                              clear c147
                              exact absurd H (by simp)
                             ·rw [if_neg c147] at H
                              have c147b0 : decide ((rd (rd_Ints t161 x456_4) 1) ≤ x57_4) = false := decide_eq_false c147
                              clear c147
                              obtain ⟨t186, A148, H⟩ := obnd_ H
                              (try dsimp only at H)
                              by_cases c149 : t186 = true
                              ·subst c149
                               rw [if_pos rfl] at H
                               by_cases c150 : t181 = true
                               ·subst c150
                                rw [if_pos rfl] at H
                                by_cases c151 : t180 = (wrap64 ((rd (rd_Ints t161 x456_4) 0) + (rd (rd_Ints t161 x456_4) 1)))
                                ·rw [if_pos c151] at H
                                 have c151b0 : (t180 == (wrap64 ((rd (rd_Ints t161 x456_4) 0) + (rd (rd_Ints t161 x456_4) 1)))) = true := beq_iff_eq.mpr c151
                                 have c151b1 : (t180 != (wrap64 ((rd (rd_Ints t161 x456_4) 0) + (rd (rd_Ints t161 x456_4) 1)))) = false := bne_eq_false_iff_eq.mpr c151
                                 clear c151
                                 have H' := Aside0.mk H
                                 clear H
                                 have p178 : 0 ≤ (x456_4 : Int) := of_decide_eq_true k68_
                                 have q178 : x456_4 < (t161.length : Int) := of_decide_eq_true k68_
                                 obtain ⟨ad178, A178_0, c178_0, e178, hx178_0, hl178_0, hi178_0⟩ := at_Ints (Kd.S_reads' HO_454.out).2.2 x456_4 p178 q178
                                 cases e178
                                 obtain ⟨ce178, hce178, hMe178, hcc178⟩ := Kd.S_get HO_454.out [] x456_4 p178 (by first | exact q178 | exact of_decide_eq_true k68_ | (have e_ := (Kd.S_reads' HO_454.out).1; omega))
                                 obtain ⟨ve178_0, rfl, ge178_0⟩ := hMe178
                                 have hv178_0 := hcc178 0 _ rfl
                                 rw [Nat.add_zero, show ((Kd.slice 3 (Kd.int .i64))).sz = 1 from rfl, Nat.mul_one] at hv178_0
                                 replace hv178_0 := Option.some.inj (hv178_0.symm.trans hx178_0)
                                 rw [hv178_0] at ge178_0
                                 have HL178_0 := Aside0.mk (show Kd.R (Kd.int .i64) 3 _ _ _ _ (rd_Ints t161 x456_4) from ge178_0)
                                 clear hv178_0 ge178_0
                                 clear hcc178 hce178
                                 have HR178_0 := Aside0.mk hi178_0
                                 have HC178_0 := Aside0.mk hl178_0
                                 clear hi178_0 hl178_0
                                 replace p178 := eq_true p178
                                 replace q178 := eq_true q178
                                 have p179 : 0 ≤ (0 : Int) := (by omega)
                                 have q179 : 0 < ((rd_Ints t161 x456_4).length : Int) := of_decide_eq_true k68_
                                 obtain ⟨ad179, e179, hx179_0⟩ := Kd.at_int k5_ 0 p179 q179
                                 cases e179
                                 have qi179 : (0 < (rd_Ints t161 x456_4).length) = True := eq_true (by omega)
                                 (try rw [show ((0 : Int)).toNat = 0 from rfl] at hx179_0)
                                 (try rw [Addr.add_zero'] at hx179_0)
                                 replace p179 := eq_true p179
                                 replace q179 := eq_true q179
                                 try go_wp2_with (first | ((with_reducible refine gate_callee (f := 46) rfl ?_); refine goesL_ (some 465) rfl rfl Try.func46 (by kernel_rfl) rfl #[.slice Ao113 t149.length co113, .int .i64 (rd (rd_Ints t161 x456_4) 0)] rfl k35_ ?_; (with_reducible refine (impl_NextLeft.calls k4 _ _ t149 (rd (rd_Ints t161 x456_4) 0) t180 true _ ?side1 ?side2 A143.out).mono ?_); (case side1 => repeat (first | exact (Kd.R_reads' HO_45.out).2.2 | (with_reducible refine Kd.C_alloc ?_ _) | (with_reducible refine Kd.C_drewN ?_ _) | (with_reducible refine Kd.C_drew ?_))); (case side2 => exact (Kd.R_reads' HO_45.out).2.1); rintro e w152 ⟨rfl, hb⟩; refine ⟨_, rfl, ?_⟩; replace HO_45 := HO_45.mw hb; replace HO_47 := HO_47.mw hb; replace HO_55 := HO_55.mw hb; replace HO_454 := HO_454.mw hb; replace HL178_0 := HL178_0.mw hb; replace HR178_0 := Aside0.mk (Kd.C_below k5_ hb); replace HB := HB.mw hb; (try clear hb)))
                                 have n0_ := Aside0.mk (Kd.R_drew HO_45.out)
                                 have n1_ := Aside0.mk (Kd.R_drew HO_47.out)
                                 have n2_ := Aside0.mk (Kd.R_drew HO_55.out)
                                 have n3_ := Aside0.mk (Kd.S_drew HO_454.out)
                                 have n4_ := Aside0.mk (Kd.R_drew HL178_0.out)
                                 have n5_ := Aside0.mk (Kd.C_drew HR178_0.out)
                                 have n6_ := Aside0.mk (below_drew1 HB.out)
                                 clear HO_45
                                 clear HO_47
                                 clear HO_55
                                 clear HO_454
                                 clear HL178_0
                                 clear HR178_0
                                 clear HB
                                 have HO_45 := n0_
                                 have HO_47 := n1_
                                 have HO_55 := n2_
                                 have HO_454 := n3_
                                 have HL178_0 := n4_
                                 have HR178_0 := n5_
                                 have HB := n6_
                                 clear n0_ n1_ n2_ n3_ n4_ n5_ n6_
                                 have p182 : 0 ≤ (0 : Int) := (by omega)
                                 have q182 : 0 < ((rd_Ints t161 x456_4).length : Int) := of_decide_eq_true k68_
                                 obtain ⟨ad182, e182, hx182_0⟩ := Kd.at_int k5_ 0 p182 q182
                                 obtain rfl : ad179 = ad182 := (by injection e182)
                                 have qi182 : (0 < (rd_Ints t161 x456_4).length) = True := eq_true (by omega)
                                 (try rw [show ((0 : Int)).toNat = 0 from rfl] at hx182_0)
                                 (try rw [Addr.add_zero'] at hx182_0)
                                 replace p182 := eq_true p182
                                 replace q182 := eq_true q182
                                 obtain ⟨Ao154, co154, eo154⟩ := Kd.R_slice HO_55.out
                                 (first | subst eo154 | (injection eo154 with f1_ f2_ f3_; have f4_ := f1_.symm; have f5_ := f3_.symm; clear f1_ f2_ f3_; subst f4_; subst f5_))
                                 have p184 : 0 ≤ (1 : Int) := (by omega)
                                 have q184 : 1 < ((rd_Ints t161 x456_4).length : Int) := of_decide_eq_true k68_
                                 obtain ⟨ad184, e184, hx184_0⟩ := Kd.at_int k5_ 1 p184 q184
                                 obtain rfl : ad179 = ad184 := (by injection e184)
                                 (try simp only [show (1 : Int).toNat = 1 from rfl, Nat.reduceMul, Nat.reduceEqDiff, Go.Addr.add, ↓reduceIte] at hx184_0)
                                 have qi184 : (1 < (rd_Ints t161 x456_4).length) = True := eq_true (by omega)
                                 (try rw [show ((1 : Int)).toNat = 1 from rfl] at hx184_0)
                                 have p185 : 0 ≤ (1 : Int) := (by omega)
                                 have q185 : 1 < ((rd_Ints t161 x456_4).length : Int) := of_decide_eq_true k68_
                                 obtain ⟨ad185, e185, hx185_0⟩ := Kd.at_int k5_ 1 p185 q185
                                 obtain rfl : ad179 = ad185 := (by injection e185)
                                 (try simp only [show (1 : Int).toNat = 1 from rfl, Nat.reduceMul, Nat.reduceEqDiff, Go.Addr.add, ↓reduceIte] at hx185_0)
                                 have qi185 : (1 < (rd_Ints t161 x456_4).length) = True := eq_true (by omega)
                                 (try rw [show ((1 : Int)).toNat = 1 from rfl] at hx185_0)
                                 have p187 : 0 ≤ (0 : Int) := (by omega)
                                 have q187 : 0 < ((rd_Ints t161 x456_4).length : Int) := of_decide_eq_true k68_
                                 obtain ⟨ad187, e187, hx187_0⟩ := Kd.at_int k5_ 0 p187 q187
                                 obtain rfl : ad179 = ad187 := (by injection e187)
                                 have qi187 : (0 < (rd_Ints t161 x456_4).length) = True := eq_true (by omega)
                                 (try rw [show ((0 : Int)).toNat = 0 from rfl] at hx187_0)
                                 (try rw [Addr.add_zero'] at hx187_0)
                                 have p188 : 0 ≤ (1 : Int) := (by omega)
                                 have q188 : 1 < ((rd_Ints t161 x456_4).length : Int) := of_decide_eq_true k68_
                                 obtain ⟨ad188, e188, hx188_0⟩ := Kd.at_int k5_ 1 p188 q188
                                 obtain rfl : ad179 = ad188 := (by injection e188)
                                 (try simp only [show (1 : Int).toNat = 1 from rfl, Nat.reduceMul, Nat.reduceEqDiff, Go.Addr.add, ↓reduceIte] at hx188_0)
                                 have qi188 : (1 < (rd_Ints t161 x456_4).length) = True := eq_true (by omega)
                                 (try rw [show ((1 : Int)).toNat = 1 from rfl] at hx188_0)
                                 refine start_ (n := 36) (S := fun w' => w'.cell? ad179 = some (.int .i64 (rd (rd_Ints t161 x456_4) 0)) ∧ w'.cell? ⟨ad179.block, ad179.off + 1, none⟩ = some (.int .i64 (rd (rd_Ints t161 x456_4) 1)) ∧ w'.cell? ⟨ad179.block, ad179.off + 1, none⟩ = some (.int .i64 (rd (rd_Ints t161 x456_4) 1)) ∧ w'.cell? ad179 = some (.int .i64 (rd (rd_Ints t161 x456_4) 0)) ∧ w'.cell? ⟨ad179.block, ad179.off + 1, none⟩ = some (.int .i64 (rd (rd_Ints t161 x456_4) 1))) (ds := []) #[false, false, false, false, false, false, false, false, false, false, false, false, false, false, false, false, false, false, false, false, false, false, false, false, false, false, false, false, false, false, false, false, false, false, false, false] (by kernel_rfl) rfl rfl ⟨hx182_0, hx184_0, hx185_0, hx187_0, hx188_0⟩ (fun hHeld => ?_); refine with_tabW laws_FnGapsTold.tab61 laws_FnGapsTold.bits61 (fun HT_ HW_ => ?_)
                                 generalize w152.drew = w153 at HO_45 HO_47 HO_55 HO_454 HL178_0 HR178_0 HB hx182_0 hHeld ⊢
                                 refine pure_ (i := 0) (N := some 468) (v := ?_) (a' := ?_) #[true, false, false, false, false, false, false, false, false, false, false, false, false, false, false, false, false, false, false, false, false, false, false, false, false, false, false, false, false, false, false, false, false, false, false, false] rfl rfl (any_of HT_.out (by kernel_rfl)) (fun _ _ _ h => h) (Or.inl ⟨by rfl, ?_⟩) ?_ ?_
                                 rotate_left
                                 ·intro w'
                                  go_simp
                                  with_reducible rfl
                                 rotate_left
                                 ·simp only [Act.put, List.setIfInBounds_toArray, List.set_cons_zero, List.set_cons_succ, i64_w, i32_w]
                                  rfl
                                 refine pure_ (i := 1) (N := some 469) (v := ?_) (a' := ?_) #[true, true, false, false, false, false, false, false, false, false, false, false, false, false, false, false, false, false, false, false, false, false, false, false, false, false, false, false, false, false, false, false, false, false, false, false] rfl rfl (any_of HT_.out (by kernel_rfl)) (fun _ _ _ h => h) (Or.inl ⟨by rfl, ?_⟩) ?_ ?_
                                 rotate_left
                                 ·intro w'
                                  go_simp
                                  with_reducible rfl
                                 rotate_left
                                 ·simp only [Act.put, List.setIfInBounds_toArray, List.set_cons_zero, List.set_cons_succ, i64_w, i32_w]
                                  rfl
                                 refine pure_ (i := 2) (N := some 470) (v := ?_) (a' := ?_) #[true, true, true, false, false, false, false, false, false, false, false, false, false, false, false, false, false, false, false, false, false, false, false, false, false, false, false, false, false, false, false, false, false, false, false, false] rfl rfl (any_of HT_.out (by kernel_rfl)) (fun _ _ _ h => h) (Or.inl ⟨by rfl, ?_⟩) ?_ ?_
                                 rotate_left
                                 ·intro w'
                                  go_simp
                                  with_reducible rfl
                                 rotate_left
                                 ·simp only [Act.put, List.setIfInBounds_toArray, List.set_cons_zero, List.set_cons_succ, i64_w, i32_w]
                                  rfl
                                 refine take_ (i := 3) (N := some 471) (v := ?_) (a' := ?_) #[true, true, true, true, false, false, false, false, false, false, false, false, false, false, false, false, false, false, false, false, false, false, false, false, false, false, false, false, false, false, false, false, false, false, false, false] rfl rfl (take_ofW HT_.out HW_.out (by kernel_rfl)) (fun _ _ _ h => h) (Or.inl ⟨by rfl, ?_⟩) hHeld ?_ ?_
                                 rotate_left
                                 ·rintro w' ⟨s0, s1, s2, s3, s4⟩
                                  go_simp
                                  with_reducible rfl
                                 rotate_left
                                 ·simp only [Act.put, List.setIfInBounds_toArray, List.set_cons_zero, List.set_cons_succ, i64_w, i32_w]
                                  rfl
                                 refine one_ (i := 4) (N := some 472) #[true, true, true, true, true, false, false, false, false, false, false, false, false, false, false, false, false, false, false, false, false, false, false, false, false, false, false, false, false, false, false, false, false, false, false, false] rfl rfl (one_of HT_.out (by kernel_rfl)) (by decide) (fun K hK => ?_)
                                 refine goes_ Try.func35 (by kernel_rfl) rfl #[.slice Ao154 t171.length co154, .int .i64 (rd (rd_Ints t161 x456_4) 0)] (by rfl) rfl rfl k35_ ?_
                                 with_reducible refine (laws_tHas.calls k4 _ _ t171 (rd (rd_Ints t161 x456_4) 0) true _ ?side1 ?side2 A144.out).mono ?_
                                 (case side1 => repeat (first | exact (Kd.R_reads' HO_55.out).2.2 | (with_reducible refine Kd.C_alloc ?_ _) | (with_reducible refine Kd.C_drewN ?_ _) | (with_reducible refine Kd.C_drew ?_)))
                                 (case side2 => exact (Kd.R_reads' HO_55.out).2.1)
                                 rintro e w' ⟨rfl, ⟨nd, rfl⟩⟩
                                 refine ⟨_, rfl, ?_⟩
                                 have p184 : 0 ≤ (1 : Int) := (by omega)
                                 have q184 : 1 < ((rd_Ints t161 x456_4).length : Int) := of_decide_eq_true k68_
                                 obtain ⟨ad184, e184, hx184_0⟩ := Kd.at_int k5_ 1 p184 q184
                                 obtain rfl : ad179 = ad184 := (by injection e184)
                                 (try simp only [show (1 : Int).toNat = 1 from rfl, Nat.reduceMul, Nat.reduceEqDiff, Go.Addr.add, ↓reduceIte] at hx184_0)
                                 have qi184 : (1 < (rd_Ints t161 x456_4).length) = True := eq_true (by omega)
                                 (try rw [show ((1 : Int)).toNat = 1 from rfl] at hx184_0)
                                 replace p184 := eq_true p184
                                 replace q184 := eq_true q184
                                 have p185 : 0 ≤ (1 : Int) := (by omega)
                                 have q185 : 1 < ((rd_Ints t161 x456_4).length : Int) := of_decide_eq_true k68_
                                 obtain ⟨ad185, e185, hx185_0⟩ := Kd.at_int k5_ 1 p185 q185
                                 obtain rfl : ad179 = ad185 := (by injection e185)
                                 (try simp only [show (1 : Int).toNat = 1 from rfl, Nat.reduceMul, Nat.reduceEqDiff, Go.Addr.add, ↓reduceIte] at hx185_0)
                                 have qi185 : (1 < (rd_Ints t161 x456_4).length) = True := eq_true (by omega)
                                 (try rw [show ((1 : Int)).toNat = 1 from rfl] at hx185_0)
                                 replace p185 := eq_true p185
                                 replace q185 := eq_true q185
                                 refine hK.out _ _ ⟨hHeld.1, hHeld.2.1, hHeld.2.2.1, hHeld.2.2.2.1, hHeld.2.2.2.2⟩ (fun hHeld => ?_)
                                 clear hK K
                                 refine norm_ (a' := ?_) ?_ ?_
                                 rotate_left
                                 ·show Act.put _ (some 472) _ = _
                                  simp only [Act.put, List.setIfInBounds_toArray, List.set_cons_zero, List.set_cons_succ, i64_w, i32_w]
                                  rfl
                                 refine pure_ (i := 5) (N := some 473) (v := ?_) (a' := ?_) #[true, true, true, true, true, true, false, false, false, false, false, false, false, false, false, false, false, false, false, false, false, false, false, false, false, false, false, false, false, false, false, false, false, false, false, false] rfl rfl (any_of HT_.out (by kernel_rfl)) (fun _ _ _ h => h) (Or.inl ⟨by rfl, ?_⟩) ?_ ?_
                                 rotate_left
                                 ·intro w'
                                  go_simp
                                  with_reducible rfl
                                 rotate_left
                                 ·simp only [Act.put, List.setIfInBounds_toArray, List.set_cons_zero, List.set_cons_succ, i64_w, i32_w]
                                  rfl
                                 refine pure_ (i := 6) (N := some 474) (v := ?_) (a' := ?_) #[true, true, true, true, true, true, true, false, false, false, false, false, false, false, false, false, false, false, false, false, false, false, false, false, false, false, false, false, false, false, false, false, false, false, false, false] rfl rfl (any_of HT_.out (by kernel_rfl)) (fun _ _ _ h => h) (Or.inl ⟨by rfl, ?_⟩) ?_ ?_
                                 rotate_left
                                 ·intro w'
                                  go_simp
                                  with_reducible rfl
                                 rotate_left
                                 ·simp only [Act.put, List.setIfInBounds_toArray, List.set_cons_zero, List.set_cons_succ, i64_w, i32_w]
                                  rfl
                                 refine pure_ (i := 7) (N := some 475) (v := ?_) (a' := ?_) #[true, true, true, true, true, true, true, true, false, false, false, false, false, false, false, false, false, false, false, false, false, false, false, false, false, false, false, false, false, false, false, false, false, false, false, false] rfl rfl (any_of HT_.out (by kernel_rfl)) (fun _ _ _ h => h) (Or.inl ⟨by rfl, ?_⟩) ?_ ?_
                                 rotate_left
                                 ·intro w'
                                  go_simp
                                  with_reducible rfl
                                 rotate_left
                                 ·simp only [Act.put, List.setIfInBounds_toArray, List.set_cons_zero, List.set_cons_succ, i64_w, i32_w]
                                  rfl
                                 refine pure_ (i := 8) (N := some 476) (v := ?_) (a' := ?_) #[true, true, true, true, true, true, true, true, true, false, false, false, false, false, false, false, false, false, false, false, false, false, false, false, false, false, false, false, false, false, false, false, false, false, false, false] rfl rfl (any_of HT_.out (by kernel_rfl)) (fun _ _ _ h => h) (Or.inl ⟨by rfl, ?_⟩) ?_ ?_
                                 rotate_left
                                 ·intro w'
                                  go_simp
                                  with_reducible rfl
                                 rotate_left
                                 ·simp only [Act.put, List.setIfInBounds_toArray, List.set_cons_zero, List.set_cons_succ, i64_w, i32_w]
                                  rfl
                                 refine pure_ (i := 10) (N := some 478) (v := ?_) (a' := ?_) #[true, true, true, true, true, true, true, true, true, false, true, false, false, false, false, false, false, false, false, false, false, false, false, false, false, false, false, false, false, false, false, false, false, false, false, false] rfl rfl (any_of HT_.out (by kernel_rfl)) (fun _ _ _ h => h) (Or.inl ⟨by rfl, ?_⟩) ?_ ?_
                                 rotate_left
                                 ·intro w'
                                  go_simp
                                  with_reducible rfl
                                 rotate_left
                                 ·simp only [Act.put, List.setIfInBounds_toArray, List.set_cons_zero, List.set_cons_succ, i64_w, i32_w]
                                  rfl
                                 refine take_ (i := 9) (N := some 477) (v := ?_) (a' := ?_) #[true, true, true, true, true, true, true, true, true, true, true, false, false, false, false, false, false, false, false, false, false, false, false, false, false, false, false, false, false, false, false, false, false, false, false, false] rfl rfl (take_ofW HT_.out HW_.out (by kernel_rfl)) (fun _ _ _ h => h) (Or.inl ⟨by rfl, ?_⟩) hHeld ?_ ?_
                                 rotate_left
                                 ·rintro w' ⟨s0, s1, s2, s3, s4⟩
                                  go_simp
                                  with_reducible rfl
                                 rotate_left
                                 ·simp only [Act.put, List.setIfInBounds_toArray, List.set_cons_zero, List.set_cons_succ, i64_w, i32_w]
                                  rfl
                                 refine pure_ (i := 11) (N := some 479) (v := ?_) (a' := ?_) #[true, true, true, true, true, true, true, true, true, true, true, true, false, false, false, false, false, false, false, false, false, false, false, false, false, false, false, false, false, false, false, false, false, false, false, false] rfl rfl (any_of HT_.out (by kernel_rfl)) (fun _ _ _ h => h) (Or.inl ⟨by rfl, ?_⟩) ?_ ?_
                                 rotate_left
                                 ·intro w'
                                  go_simp
                                  with_reducible rfl
                                 rotate_left
                                 ·simp only [Act.put, List.setIfInBounds_toArray, List.set_cons_zero, List.set_cons_succ, i64_w, i32_w]
                                  rfl
                                 refine pure_ (i := 12) (N := some 480) (v := ?_) (a' := ?_) #[true, true, true, true, true, true, true, true, true, true, true, true, true, false, false, false, false, false, false, false, false, false, false, false, false, false, false, false, false, false, false, false, false, false, false, false] rfl rfl (any_of HT_.out (by kernel_rfl)) (fun _ _ _ h => h) (Or.inl ⟨by rfl, ?_⟩) ?_ ?_
                                 rotate_left
                                 ·intro w'
                                  go_simp
                                  with_reducible rfl
                                 rotate_left
                                 ·simp only [Act.put, List.setIfInBounds_toArray, List.set_cons_zero, List.set_cons_succ, i64_w, i32_w]
                                  rfl
                                 refine pure_ (i := 13) (N := some 481) (v := ?_) (a' := ?_) #[true, true, true, true, true, true, true, true, true, true, true, true, true, true, false, false, false, false, false, false, false, false, false, false, false, false, false, false, false, false, false, false, false, false, false, false] rfl rfl (any_of HT_.out (by kernel_rfl)) (fun _ _ _ h => h) (Or.inl ⟨by rfl, ?_⟩) ?_ ?_
                                 rotate_left
                                 ·intro w'
                                  go_simp
                                  with_reducible rfl
                                 rotate_left
                                 ·simp only [Act.put, List.setIfInBounds_toArray, List.set_cons_zero, List.set_cons_succ, i64_w, i32_w]
                                  rfl
                                 refine pure_ (i := 14) (N := some 482) (v := ?_) (a' := ?_) #[true, true, true, true, true, true, true, true, true, true, true, true, true, true, true, false, false, false, false, false, false, false, false, false, false, false, false, false, false, false, false, false, false, false, false, false] rfl rfl (any_of HT_.out (by kernel_rfl)) (fun _ _ _ h => h) (Or.inl ⟨by rfl, ?_⟩) ?_ ?_
                                 rotate_left
                                 ·intro w'
                                  go_simp
                                  with_reducible rfl
                                 rotate_left
                                 ·simp only [Act.put, List.setIfInBounds_toArray, List.set_cons_zero, List.set_cons_succ, i64_w, i32_w]
                                  rfl
                                 refine pure_ (i := 15) (N := some 483) (v := ?_) (a' := ?_) #[true, true, true, true, true, true, true, true, true, true, true, true, true, true, true, true, false, false, false, false, false, false, false, false, false, false, false, false, false, false, false, false, false, false, false, false] rfl rfl (any_of HT_.out (by kernel_rfl)) (fun _ _ _ h => h) (Or.inl ⟨by rfl, ?_⟩) ?_ ?_
                                 rotate_left
                                 ·intro w'
                                  go_simp
                                  with_reducible rfl
                                 rotate_left
                                 ·simp only [Act.put, List.setIfInBounds_toArray, List.set_cons_zero, List.set_cons_succ, i64_w, i32_w]
                                  rfl
                                 refine pure_ (i := 16) (N := some 484) (v := ?_) (a' := ?_) #[true, true, true, true, true, true, true, true, true, true, true, true, true, true, true, true, true, false, false, false, false, false, false, false, false, false, false, false, false, false, false, false, false, false, false, false] rfl rfl (any_of HT_.out (by kernel_rfl)) (fun _ _ _ h => h) (Or.inl ⟨by rfl, ?_⟩) ?_ ?_
                                 rotate_left
                                 ·intro w'
                                  go_simp
                                  with_reducible rfl
                                 rotate_left
                                 ·simp only [Act.put, List.setIfInBounds_toArray, List.set_cons_zero, List.set_cons_succ, i64_w, i32_w]
                                  rfl
                                 refine take_ (i := 17) (N := some 485) (v := ?_) (a' := ?_) #[true, true, true, true, true, true, true, true, true, true, true, true, true, true, true, true, true, true, false, false, false, false, false, false, false, false, false, false, false, false, false, false, false, false, false, false] rfl rfl (take_ofW HT_.out HW_.out (by kernel_rfl)) (fun _ _ _ h => h) (Or.inl ⟨by rfl, ?_⟩) hHeld ?_ ?_
                                 rotate_left
                                 ·rintro w' ⟨s0, s1, s2, s3, s4⟩
                                  go_simp
                                  with_reducible rfl
                                 rotate_left
                                 ·simp only [Act.put, List.setIfInBounds_toArray, List.set_cons_zero, List.set_cons_succ, i64_w, i32_w]
                                  rfl
                                 refine one_ (i := 18) (N := some 486) #[true, true, true, true, true, true, true, true, true, true, true, true, true, true, true, true, true, true, true, false, false, false, false, false, false, false, false, false, false, false, false, false, false, false, false, false] rfl rfl (one_of HT_.out (by kernel_rfl)) (by decide) (fun K hK => ?_)
                                 refine goes_ Try.func35 (by kernel_rfl) rfl #[.slice Ao118 t153.length co118, .int .i64 (rd (rd_Ints t161 x456_4) 1)] (by rfl) rfl rfl k35_ ?_
                                 with_reducible refine (laws_tHas.calls k4 _ _ t153 (rd (rd_Ints t161 x456_4) 1) true _ ?side1 ?side2 A148.out).mono ?_
                                 (case side1 => repeat (first | exact (Kd.R_reads' HO_47.out).2.2 | (with_reducible refine Kd.C_alloc ?_ _) | (with_reducible refine Kd.C_drewN ?_ _) | (with_reducible refine Kd.C_drew ?_)))
                                 (case side2 => exact (Kd.R_reads' HO_47.out).2.1)
                                 rintro e w' ⟨rfl, ⟨nd, rfl⟩⟩
                                 refine ⟨_, rfl, ?_⟩
                                 have p187 : 0 ≤ (0 : Int) := (by omega)
                                 have q187 : 0 < ((rd_Ints t161 x456_4).length : Int) := of_decide_eq_true k68_
                                 obtain ⟨ad187, e187, hx187_0⟩ := Kd.at_int k5_ 0 p187 q187
                                 obtain rfl : ad179 = ad187 := (by injection e187)
                                 have qi187 : (0 < (rd_Ints t161 x456_4).length) = True := eq_true (by omega)
                                 (try rw [show ((0 : Int)).toNat = 0 from rfl] at hx187_0)
                                 (try rw [Addr.add_zero'] at hx187_0)
                                 replace p187 := eq_true p187
                                 replace q187 := eq_true q187
                                 have p188 : 0 ≤ (1 : Int) := (by omega)
                                 have q188 : 1 < ((rd_Ints t161 x456_4).length : Int) := of_decide_eq_true k68_
                                 obtain ⟨ad188, e188, hx188_0⟩ := Kd.at_int k5_ 1 p188 q188
                                 obtain rfl : ad179 = ad188 := (by injection e188)
                                 (try simp only [show (1 : Int).toNat = 1 from rfl, Nat.reduceMul, Nat.reduceEqDiff, Go.Addr.add, ↓reduceIte] at hx188_0)
                                 have qi188 : (1 < (rd_Ints t161 x456_4).length) = True := eq_true (by omega)
                                 (try rw [show ((1 : Int)).toNat = 1 from rfl] at hx188_0)
                                 replace p188 := eq_true p188
                                 replace q188 := eq_true q188
                                 refine hK.out _ _ ⟨hHeld.1, hHeld.2.1, hHeld.2.2.1, hHeld.2.2.2.1, hHeld.2.2.2.2⟩ (fun hHeld => ?_)
                                 clear hK K
                                 refine norm_ (a' := ?_) ?_ ?_
                                 rotate_left
                                 ·show Act.put _ (some 486) _ = _
                                  simp only [Act.put, List.setIfInBounds_toArray, List.set_cons_zero, List.set_cons_succ, i64_w, i32_w]
                                  rfl
                                 refine pure_ (i := 19) (N := some 487) (v := ?_) (a' := ?_) #[true, true, true, true, true, true, true, true, true, true, true, true, true, true, true, true, true, true, true, true, false, false, false, false, false, false, false, false, false, false, false, false, false, false, false, false] rfl rfl (any_of HT_.out (by kernel_rfl)) (fun _ _ _ h => h) (Or.inl ⟨by rfl, ?_⟩) ?_ ?_
                                 rotate_left
                                 ·intro w'
                                  go_simp
                                  with_reducible rfl
                                 rotate_left
                                 ·simp only [Act.put, List.setIfInBounds_toArray, List.set_cons_zero, List.set_cons_succ, i64_w, i32_w]
                                  rfl
                                 refine pure_ (i := 20) (N := some 488) (v := ?_) (a' := ?_) #[true, true, true, true, true, true, true, true, true, true, true, true, true, true, true, true, true, true, true, true, true, false, false, false, false, false, false, false, false, false, false, false, false, false, false, false] rfl rfl (any_of HT_.out (by kernel_rfl)) (fun _ _ _ h => h) (Or.inl ⟨by rfl, ?_⟩) ?_ ?_
                                 rotate_left
                                 ·intro w'
                                  go_simp
                                  with_reducible rfl
                                 rotate_left
                                 ·simp only [Act.put, List.setIfInBounds_toArray, List.set_cons_zero, List.set_cons_succ, i64_w, i32_w]
                                  rfl
                                 refine pure_ (i := 21) (N := some 489) (v := ?_) (a' := ?_) #[true, true, true, true, true, true, true, true, true, true, true, true, true, true, true, true, true, true, true, true, true, true, false, false, false, false, false, false, false, false, false, false, false, false, false, false] rfl rfl (any_of HT_.out (by kernel_rfl)) (fun _ _ _ h => h) (Or.inl ⟨by rfl, ?_⟩) ?_ ?_
                                 rotate_left
                                 ·intro w'
                                  go_simp
                                  with_reducible rfl
                                 rotate_left
                                 ·simp only [Act.put, List.setIfInBounds_toArray, List.set_cons_zero, List.set_cons_succ, i64_w, i32_w]
                                  rfl
                                 refine pure_ (i := 22) (N := some 490) (v := ?_) (a' := ?_) #[true, true, true, true, true, true, true, true, true, true, true, true, true, true, true, true, true, true, true, true, true, true, true, false, false, false, false, false, false, false, false, false, false, false, false, false] rfl rfl (any_of HT_.out (by kernel_rfl)) (fun _ _ _ h => h) (Or.inl ⟨by rfl, ?_⟩) ?_ ?_
                                 rotate_left
                                 ·intro w'
                                  go_simp
                                  with_reducible rfl
                                 rotate_left
                                 ·simp only [Act.put, List.setIfInBounds_toArray, List.set_cons_zero, List.set_cons_succ, i64_w, i32_w]
                                  rfl
                                 refine pure_ (i := 23) (N := some 491) (v := ?_) (a' := ?_) #[true, true, true, true, true, true, true, true, true, true, true, true, true, true, true, true, true, true, true, true, true, true, true, true, false, false, false, false, false, false, false, false, false, false, false, false] rfl rfl (any_of HT_.out (by kernel_rfl)) (fun _ _ _ h => h) (Or.inl ⟨by rfl, ?_⟩) ?_ ?_
                                 rotate_left
                                 ·intro w'
                                  go_simp
                                  with_reducible rfl
                                 rotate_left
                                 ·simp only [Act.put, List.setIfInBounds_toArray, List.set_cons_zero, List.set_cons_succ, i64_w, i32_w]
                                  rfl
                                 refine pure_ (i := 24) (N := some 492) (v := ?_) (a' := ?_) #[true, true, true, true, true, true, true, true, true, true, true, true, true, true, true, true, true, true, true, true, true, true, true, true, true, false, false, false, false, false, false, false, false, false, false, false] rfl rfl (any_of HT_.out (by kernel_rfl)) (fun _ _ _ h => h) (Or.inl ⟨by rfl, ?_⟩) ?_ ?_
                                 rotate_left
                                 ·intro w'
                                  go_simp
                                  with_reducible rfl
                                 rotate_left
                                 ·simp only [Act.put, List.setIfInBounds_toArray, List.set_cons_zero, List.set_cons_succ, i64_w, i32_w]
                                  rfl
                                 refine pure_ (i := 25) (N := some 493) (v := ?_) (a' := ?_) #[true, true, true, true, true, true, true, true, true, true, true, true, true, true, true, true, true, true, true, true, true, true, true, true, true, true, false, false, false, false, false, false, false, false, false, false] rfl rfl (any_of HT_.out (by kernel_rfl)) (fun _ _ _ h => h) (Or.inl ⟨by rfl, ?_⟩) ?_ ?_
                                 rotate_left
                                 ·intro w'
                                  go_simp
                                  with_reducible rfl
                                 rotate_left
                                 ·simp only [Act.put, List.setIfInBounds_toArray, List.set_cons_zero, List.set_cons_succ, i64_w, i32_w]
                                  rfl
                                 refine pure_ (i := 26) (N := some 494) (v := ?_) (a' := ?_) #[true, true, true, true, true, true, true, true, true, true, true, true, true, true, true, true, true, true, true, true, true, true, true, true, true, true, true, false, false, false, false, false, false, false, false, false] rfl rfl (any_of HT_.out (by kernel_rfl)) (fun _ _ _ h => h) (Or.inl ⟨by rfl, ?_⟩) ?_ ?_
                                 rotate_left
                                 ·intro w'
                                  go_simp
                                  with_reducible rfl
                                 rotate_left
                                 ·simp only [Act.put, List.setIfInBounds_toArray, List.set_cons_zero, List.set_cons_succ, i64_w, i32_w]
                                  rfl
                                 refine pure_ (i := 27) (N := some 495) (v := ?_) (a' := ?_) #[true, true, true, true, true, true, true, true, true, true, true, true, true, true, true, true, true, true, true, true, true, true, true, true, true, true, true, true, false, false, false, false, false, false, false, false] rfl rfl (any_of HT_.out (by kernel_rfl)) (fun _ _ _ h => h) (Or.inl ⟨by rfl, ?_⟩) ?_ ?_
                                 rotate_left
                                 ·intro w'
                                  go_simp
                                  with_reducible rfl
                                 rotate_left
                                 ·simp only [Act.put, List.setIfInBounds_toArray, List.set_cons_zero, List.set_cons_succ, i64_w, i32_w]
                                  rfl
                                 refine pure_ (i := 28) (N := some 496) (v := ?_) (a' := ?_) #[true, true, true, true, true, true, true, true, true, true, true, true, true, true, true, true, true, true, true, true, true, true, true, true, true, true, true, true, true, false, false, false, false, false, false, false] rfl rfl (any_of HT_.out (by kernel_rfl)) (fun _ _ _ h => h) (Or.inl ⟨by rfl, ?_⟩) ?_ ?_
                                 rotate_left
                                 ·intro w'
                                  go_simp
                                  with_reducible rfl
                                 rotate_left
                                 ·simp only [Act.put, List.setIfInBounds_toArray, List.set_cons_zero, List.set_cons_succ, i64_w, i32_w]
                                  rfl
                                 refine pure_ (i := 30) (N := some 498) (v := ?_) (a' := ?_) #[true, true, true, true, true, true, true, true, true, true, true, true, true, true, true, true, true, true, true, true, true, true, true, true, true, true, true, true, true, false, true, false, false, false, false, false] rfl rfl (any_of HT_.out (by kernel_rfl)) (fun _ _ _ h => h) (Or.inl ⟨by rfl, ?_⟩) ?_ ?_
                                 rotate_left
                                 ·intro w'
                                  go_simp
                                  with_reducible rfl
                                 rotate_left
                                 ·simp only [Act.put, List.setIfInBounds_toArray, List.set_cons_zero, List.set_cons_succ, i64_w, i32_w]
                                  rfl
                                 refine pure_ (i := 31) (N := some 499) (v := ?_) (a' := ?_) #[true, true, true, true, true, true, true, true, true, true, true, true, true, true, true, true, true, true, true, true, true, true, true, true, true, true, true, true, true, false, true, true, false, false, false, false] rfl rfl (any_of HT_.out (by kernel_rfl)) (fun _ _ _ h => h) (Or.inl ⟨by rfl, ?_⟩) ?_ ?_
                                 rotate_left
                                 ·intro w'
                                  go_simp
                                  with_reducible rfl
                                 rotate_left
                                 ·simp only [Act.put, List.setIfInBounds_toArray, List.set_cons_zero, List.set_cons_succ, i64_w, i32_w]
                                  rfl
                                 refine take_ (i := 29) (N := some 497) (v := ?_) (a' := ?_) #[true, true, true, true, true, true, true, true, true, true, true, true, true, true, true, true, true, true, true, true, true, true, true, true, true, true, true, true, true, true, true, true, false, false, false, false] rfl rfl (take_ofW HT_.out HW_.out (by kernel_rfl)) (fun _ _ _ h => h) (Or.inl ⟨by rfl, ?_⟩) hHeld ?_ ?_
                                 rotate_left
                                 ·rintro w' ⟨s0, s1, s2, s3, s4⟩
                                  go_simp
                                  with_reducible rfl
                                 rotate_left
                                 ·simp only [Act.put, List.setIfInBounds_toArray, List.set_cons_zero, List.set_cons_succ, i64_w, i32_w]
                                  rfl
                                 refine take_ (i := 32) (N := some 500) (v := ?_) (a' := ?_) #[true, true, true, true, true, true, true, true, true, true, true, true, true, true, true, true, true, true, true, true, true, true, true, true, true, true, true, true, true, true, true, true, true, false, false, false] rfl rfl (take_ofW HT_.out HW_.out (by kernel_rfl)) (fun _ _ _ h => h) (Or.inl ⟨by rfl, ?_⟩) hHeld ?_ ?_
                                 rotate_left
                                 ·rintro w' ⟨s0, s1, s2, s3, s4⟩
                                  go_simp
                                  with_reducible rfl
                                 rotate_left
                                 ·simp only [Act.put, List.setIfInBounds_toArray, List.set_cons_zero, List.set_cons_succ, i64_w, i32_w]
                                  rfl
                                 refine pure_ (i := 33) (N := some 501) (v := ?_) (a' := ?_) #[true, true, true, true, true, true, true, true, true, true, true, true, true, true, true, true, true, true, true, true, true, true, true, true, true, true, true, true, true, true, true, true, true, true, false, false] rfl rfl (any_of HT_.out (by kernel_rfl)) (fun _ _ _ h => h) (Or.inl ⟨by rfl, ?_⟩) ?_ ?_
                                 rotate_left
                                 ·intro w'
                                  go_simp
                                  with_reducible rfl
                                 rotate_left
                                 ·simp only [Act.put, List.setIfInBounds_toArray, List.set_cons_zero, List.set_cons_succ, i64_w, i32_w]
                                  rfl
                                 refine pure_ (i := 34) (N := some 502) (v := ?_) (a' := ?_) #[true, true, true, true, true, true, true, true, true, true, true, true, true, true, true, true, true, true, true, true, true, true, true, true, true, true, true, true, true, true, true, true, true, true, true, false] rfl rfl (any_of HT_.out (by kernel_rfl)) (fun _ _ _ h => h) (Or.inl ⟨by rfl, ?_⟩) ?_ ?_
                                 rotate_left
                                 ·intro w'
                                  go_simp
                                  with_reducible rfl
                                 rotate_left
                                 ·simp only [Act.put, List.setIfInBounds_toArray, List.set_cons_zero, List.set_cons_succ, i64_w, i32_w]
                                  rfl
                                 refine pure_ (i := 35) (N := some 503) (v := ?_) (a' := ?_) #[true, true, true, true, true, true, true, true, true, true, true, true, true, true, true, true, true, true, true, true, true, true, true, true, true, true, true, true, true, true, true, true, true, true, true, true] rfl rfl (any_of HT_.out (by kernel_rfl)) (fun _ _ _ h => h) (Or.inl ⟨by rfl, ?_⟩) ?_ ?_
                                 rotate_left
                                 ·intro w'
                                  go_simp
                                  with_reducible rfl
                                 rotate_left
                                 ·simp only [Act.put, List.setIfInBounds_toArray, List.set_cons_zero, List.set_cons_succ, i64_w, i32_w]
                                  rfl
                                 refine done_ (done_of HT_.out (by kernel_rfl)) ?_
                                 have p189 : 0 ≤ (1 : Int) := (by omega)
                                 have q189 : 1 < ((rd_Ints t161 x456_4).length : Int) := of_decide_eq_true k68_
                                 obtain ⟨ad189, e189, hx189_0⟩ := Kd.at_int k5_ 1 p189 q189
                                 obtain rfl : ad179 = ad189 := (by injection e189)
                                 (try simp only [show (1 : Int).toNat = 1 from rfl, Nat.reduceMul, Nat.reduceEqDiff, Go.Addr.add, ↓reduceIte] at hx189_0)
                                 have qi189 : (1 < (rd_Ints t161 x456_4).length) = True := eq_true (by omega)
                                 (try rw [show ((1 : Int)).toNat = 1 from rfl] at hx189_0)
                                 replace p189 := eq_true p189
                                 replace q189 := eq_true q189
                                 try go_wp2
                                 go_roundg k4
                                 case measure => have := HJ13.out; have := HJ42.out; have := HJ123.out; have := HK4.out; omega
                                 case rel => exact ⟨(rd (rd_Ints t161 x456_4) 1), (wrap64 (x456_4 + 1)), k69_, k69_, H', ⟨by have := HJ13.out; have := HJ42.out; have := HJ123.out; have := HK4.out; omega⟩, ⟨by apply_rules only [HO_45.out, Kd.R_alloc, Kd.R_drewN, Kd.R_drew]⟩, ⟨by apply_rules only [HO_47.out, Kd.R_alloc, Kd.R_drewN, Kd.R_drew]⟩, ⟨by apply_rules only [HO_55.out, Kd.R_alloc, Kd.R_drewN, Kd.R_drew]⟩, ⟨by apply_rules only [HO_454.out, Kd.S_alloc, Kd.S_drewN, Kd.S_drew]⟩, ⟨k49_⟩⟩
                                ·rw [if_neg c151] at H
                                 have c151b0 : (t180 == (wrap64 ((rd (rd_Ints t161 x456_4) 0) + (rd (rd_Ints t161 x456_4) 1)))) = false := beq_eq_false_iff_ne.mpr c151
                                 have c151b1 : (t180 != (wrap64 ((rd (rd_Ints t161 x456_4) 0) + (rd (rd_Ints t161 x456_4) 1)))) = true := bne_iff_ne.mpr c151
                                 exact absurd H (by simp)
                               ·replace c150 := Bool.eq_false_iff.mpr c150
                                subst c150
                                rw [if_neg (show ¬ (false = true) by decide)] at H
                                exact absurd H (by simp)
                              ·replace c149 := Bool.eq_false_iff.mpr c149
                               subst c149
                               rw [if_neg (show ¬ (false = true) by decide)] at H
                               exact absurd H (by simp)
                            ·rw [if_neg c146] at H
                             exact absurd H (by simp)
                           ·replace c145 := Bool.eq_false_iff.mpr c145
                            subst c145
                            rw [if_neg (show ¬ (false = true) by decide)] at H
                            exact absurd H (by simp)
                          ·rw [if_neg c142] at H
                           exact absurd H (by simp)
                         ·rw [if_neg c141] at H
                          exact absurd H (by simp)
                        ·rw [if_neg c140] at H
                         exact absurd H (by simp)
                       ·rw [if_neg c139] at H
                        have c139b0 : decide (x456_4 < (t161.length : Int)) = false := decide_eq_false c139
                        clear c139
                        have H' := Aside0.mk H
                        clear H
                        go_wp2
                        go_loopg [510] k4 (fun kq v510 w' => ∃ (x510_5 : Int), v510 = .int .i64 x510_5 ∧ Aside0 (laws_FnGapsTold.l3 kq l1 x57_4 t153 (t153.length : Int) x510_5 = some true) ∧ Aside0 (kq ≤ k4) ∧ Aside0 (Kd.R (Kd.int .i64) 3 w' w.heap.size (fun _ => True) (.slice Ao118 t153.length co118) t153) ∧ Aside0 (Below w.heap.size w w'))
                        case atStart => exact ⟨(0), k69_, H', ⟨Nat.le_refl _⟩, ⟨by (with_reducible repeat (first | apply Kd.R_alloc | apply Kd.R_drewN | apply Kd.R_drew)); exact Kd.R_mono HO_47.out (fun _ hk => trivial)⟩, ⟨k49_⟩⟩
                        case round =>
                         clear H'
                         (try clear c1); (try clear c4); (try clear c42); (try clear c107); (try clear c109); (try clear c110); (try clear c110b0); (try clear c110b1); (try clear c110b2); (try clear c122); (try clear c138); (try clear c139); (try clear c139b0)
                         obtain ⟨x510_5, rfl, HA, HK5, HO_508, HB⟩ := hrel
                         cases gk with
                         | zero => exact absurd HA.out (by simp [laws_FnGapsTold.l3])
                         | succ k5 =>
                          have H := HA.out
                          clear HA
                          simp only [laws_FnGapsTold.l3] at H
                          by_cases c155 : x510_5 < (t153.length : Int)
                          ·rw [if_pos c155] at H
                           have c155b0 : decide (x510_5 < (t153.length : Int)) = true := decide_eq_true c155
                           clear c155
                           by_cases c156 : 0 ≤ x510_5
                           ·rw [if_pos c156] at H
                            have c156b0 : decide (0 ≤ x510_5) = true := decide_eq_true c156
                            clear c156
                            by_cases c157 : x510_5 < (t153.length : Int)
                            ·rw [if_pos c157] at H
                             have c157b0 : decide (x510_5 < (t153.length : Int)) = true := decide_eq_true c157
                             clear c157
                             by_cases c158 : (rd t153 x510_5) > x57_4
                             ·rw [if_pos c158] at H
                              have c158b0 : decide (x57_4 < (rd t153 x510_5)) = true := decide_eq_true c158
                              clear c158
                              exact absurd H (by simp)
                             ·rw [if_neg c158] at H
                              have c158b0 : decide (x57_4 < (rd t153 x510_5)) = false := decide_eq_false c158
                              clear c158
                              have H' := Aside0.mk H
                              clear H
                              have p190 : 0 ≤ (x510_5 : Int) := of_decide_eq_true k68_
                              have q190 : x510_5 < (t153.length : Int) := of_decide_eq_true k68_
                              obtain ⟨ad190, e190, hx190_0⟩ := Kd.at_int (Kd.R_reads' HO_508.out).2.2 x510_5 p190 q190
                              cases e190
                              replace p190 := eq_true p190
                              replace q190 := eq_true q190
                              go_wp2
                              go_roundg k5
                              case measure => have := HJ13.out; have := HJ42.out; have := HJ123.out; have := HK4.out; have := HK5.out; omega
                              case rel => exact ⟨(wrap64 (x510_5 + 1)), k69_, H', ⟨by have := HJ13.out; have := HJ42.out; have := HJ123.out; have := HK4.out; have := HK5.out; omega⟩, ⟨by apply_rules only [HO_508.out, Kd.R_alloc, Kd.R_drewN, Kd.R_drew]⟩, ⟨k49_⟩⟩
                            ·rw [if_neg c157] at H
                             exact absurd H (by simp)
                           ·rw [if_neg c156] at H
                            exact absurd H (by simp)
                          ·rw [if_neg c155] at H
                           have c155b0 : decide (x510_5 < (t153.length : Int)) = false := decide_eq_false c155
                           clear c155
                           have H' := Aside0.mk H
                           clear H
                           go_wp2
                           go_meet
                           case rel => exact ⟨_, H', ⟨by have := HJ13.out; have := HJ42.out; have := HJ123.out; have := HK4.out; have := HK5.out; first | omega | exact Nat.le_refl _⟩, ⟨k49_⟩⟩
                ·replace c122 := Bool.eq_false_iff.mpr c122
                 subst c122
                 rw [if_neg (show ¬ (false = true) by decide)] at H
                 have H' := Aside0.mk H
                 clear H
                 go_wp2
                 go_meet
                 case rel => exact ⟨_, H', ⟨by have := HJ13.out; have := HJ42.out; first | omega | exact Nat.le_refl _⟩, ⟨k49_⟩⟩
              case rest =>
               as_aux_lemma =>
                clear HC111
                (try clear c1); (try clear c4); (try clear c42); (try clear c107); (try clear c109); (try clear c110); (try clear c110b0); (try clear c110b1); (try clear c110b2)
                obtain ⟨kq, HA, HJ110, HB⟩ := hcut
                cases kq with
                | zero => exact absurd HA.out (by simp [laws_FnGapsTold.j10])
                | succ kj110 =>
                 have H := HA.out
                 clear HA
                 simp only [laws_FnGapsTold.j10] at H
                 obtain ⟨⟨t191, t192⟩, A159, H⟩ := obnd_ H
                 (try dsimp only at H)
                 obtain ⟨⟨t195, t196⟩, A160, H⟩ := obnd_ H
                 (try dsimp only at H)
                 obtain ⟨⟨t197, t198⟩, A161, H⟩ := obnd_ H
                 (try dsimp only at H)
                 obtain ⟨⟨t199, t200⟩, A162, H⟩ := obnd_ H
                 (try dsimp only at H)
                 obtain ⟨⟨t201, t202⟩, A163, H⟩ := obnd_ H
                 (try dsimp only at H)
                 obtain ⟨⟨t203, t204⟩, A164, H⟩ := obnd_ H
                 (try dsimp only at H)
                 obtain ⟨⟨t207, t208⟩, A165, H⟩ := obnd_ H
                 (try dsimp only at H)
                 obtain ⟨⟨t209, t210⟩, A166, H⟩ := obnd_ H
                 (try dsimp only at H)
                 obtain ⟨⟨t211, t212⟩, A167, H⟩ := obnd_ H
                 (try dsimp only at H)
                 obtain ⟨⟨t215, t216⟩, A168, H⟩ := obnd_ H
                 (try dsimp only at H)
                 obtain ⟨⟨t217, t218⟩, A169, H⟩ := obnd_ H
                 (try dsimp only at H)
                 by_cases c170 : (t196 == t198) = true
                 ·rw [if_pos c170] at H
                  have c170b0 : (t196 == t198) = true := c170
                  (try (have c170b1 : decide (t196 = t198) = true := by simpa using c170))
                  (try (have c170b2 : (t196 == t198) = true := by simpa using c170))
                  clear c170
                  by_cases c171 : t195 = t197
                  ·rw [if_pos c171] at H
                   have c171b0 : (t195 == t197) = true := beq_iff_eq.mpr c171
                   have c171b1 : (t195 != t197) = false := bne_eq_false_iff_eq.mpr c171
                   clear c171
                   by_cases c172 : (t200 == t202) = true
                   ·rw [if_pos c172] at H
                    have c172b0 : (t200 == t202) = true := c172
                    (try (have c172b1 : decide (t200 = t202) = true := by simpa using c172))
                    (try (have c172b2 : (t200 == t202) = true := by simpa using c172))
                    clear c172
                    by_cases c173 : t199 = t201
                    ·rw [if_pos c173] at H
                     have c173b0 : (t199 == t201) = true := beq_iff_eq.mpr c173
                     have c173b1 : (t199 != t201) = false := bne_eq_false_iff_eq.mpr c173
                     clear c173
                     by_cases c174 : (t196 == t200) = true
                     ·rw [if_pos c174] at H
                      have c174b0 : (t196 == t200) = true := c174
                      (try (have c174b1 : decide (t196 = t200) = true := by simpa using c174))
                      (try (have c174b2 : (t196 == t200) = true := by simpa using c174))
                      clear c174
                      by_cases c175 : t195 ≥ t199
                      ·rw [if_pos c175] at H
                       have c175b0 : decide (t199 ≤ t195) = true := decide_eq_true c175
                       clear c175
                       by_cases c176 : (t208 == t210) = true
                       ·rw [if_pos c176] at H
                        have c176b0 : (t208 == t210) = true := c176
                        (try (have c176b1 : decide (t208 = t210) = true := by simpa using c176))
                        (try (have c176b2 : (t208 == t210) = true := by simpa using c176))
                        clear c176
                        by_cases c177 : t207 = t209
                        ·rw [if_pos c177] at H
                         have c177b0 : (t207 == t209) = true := beq_iff_eq.mpr c177
                         have c177b1 : (t207 != t209) = false := bne_eq_false_iff_eq.mpr c177
                         clear c177
                         by_cases c178 : (t216 == t218) = true
                         ·rw [if_pos c178] at H
                          have c178b0 : (t216 == t218) = true := c178
                          (try (have c178b1 : decide (t216 = t218) = true := by simpa using c178))
                          (try (have c178b2 : (t216 == t218) = true := by simpa using c178))
                          clear c178
                          have HV_ := Option.some.inj H
                          try subst HV_
                          go_wp2_with (first | ((with_reducible refine gate_callee (f := 47) rfl ?_); refine goesL_ (some 520) rfl rfl Try.func47 (by kernel_rfl) rfl #[.slice A1 l1.length c1] rfl k35_ ?_; (with_reducible refine (spec_DrawMostInWindow.calls kj110 _ _ l1 t191 t192 _ ?side1 ?side2 A159.out).mono ?_); (case side1 => exact k16_); (case side2 => exact HC1.out); rintro e w179 ⟨v193, rfl, ho0, hb⟩; refine ⟨_, rfl, ?_⟩; have HO194 := Aside0.mk (Kd.R_lower ho0 (below_size k49_)); replace HB := HB.mw hb; (try clear hb ho0); obtain ⟨Ao180, co180, eo180⟩ := Kd.R_slice HO194.out; subst eo180) | ((with_reducible refine gate_callee (f := 37) rfl ?_); refine goesL_ (some 526) rfl rfl Try.func37 (by kernel_rfl) rfl #[.slice Ao180 t191.length co180, .int .i64 t192] rfl k35_ ?_; (with_reducible refine (impl_MostInWindow.calls kj110 _ _ t191 t192 t195 t196 _ ?side1 ?side2 A160.out).mono ?_); (case side1 => exact k11_); (case side2 => exact (Kd.R_reads' HO194.out).2.1); rintro e w181 ⟨rfl, hb⟩; refine ⟨_, rfl, ?_⟩; replace HO194 := HO194.mw hb; replace HB := HB.mw hb; (try clear hb)) | ((with_reducible refine gate_callee (f := 48) rfl ?_); refine goesL_ (some 532) rfl rfl Try.func48 (by kernel_rfl) rfl #[.slice Ao180 t191.length co180, .int .i64 t192] rfl k35_ ?_; (with_reducible refine (spec_MostInWindow.calls kj110 _ _ t191 t192 t197 t198 _ ?side1 ?side2 A161.out).mono ?_); (case side1 => exact k11_); (case side2 => exact (Kd.R_reads' HO194.out).2.1); rintro e w182 ⟨rfl, hb⟩; refine ⟨_, rfl, ?_⟩; replace HO194 := HO194.mw hb; replace HB := HB.mw hb; (try clear hb)) | ((with_reducible refine gate_callee (f := 36) rfl ?_); refine goesL_ (some 538) rfl rfl Try.func36 (by kernel_rfl) rfl #[.slice Ao180 t191.length co180, .int .i64 t192] rfl k35_ ?_; (with_reducible refine (impl_LeastInWindow.calls kj110 _ _ t191 t192 t199 t200 _ ?side1 ?side2 A162.out).mono ?_); (case side1 => exact k11_); (case side2 => exact (Kd.R_reads' HO194.out).2.1); rintro e w183 ⟨rfl, hb⟩; refine ⟨_, rfl, ?_⟩; replace HO194 := HO194.mw hb; replace HB := HB.mw hb; (try clear hb)) | ((with_reducible refine gate_callee (f := 49) rfl ?_); refine goesL_ (some 544) rfl rfl Try.func49 (by kernel_rfl) rfl #[.slice Ao180 t191.length co180, .int .i64 t192] rfl k35_ ?_; (with_reducible refine (spec_LeastInWindow.calls kj110 _ _ t191 t192 t201 t202 _ ?side1 ?side2 A163.out).mono ?_); (case side1 => exact k11_); (case side2 => exact (Kd.R_reads' HO194.out).2.1); rintro e w184 ⟨rfl, hb⟩; refine ⟨_, rfl, ?_⟩; replace HO194 := HO194.mw hb; replace HB := HB.mw hb; (try clear hb)) | ((with_reducible refine gate_callee (f := 50) rfl ?_); refine goesL_ (some 549) rfl rfl Try.func50 (by kernel_rfl) rfl #[.slice A1 l1.length c1] rfl k35_ ?_; (with_reducible refine (spec_DrawPairsInPeriod.calls kj110 _ _ l1 t203 t204 _ ?side1 ?side2 A164.out).mono ?_); (case side1 => exact k16_); (case side2 => exact HC1.out); rintro e w185 ⟨v205, rfl, ho0, hb⟩; refine ⟨_, rfl, ?_⟩; have HO206 := Aside0.mk (Kd.R_lower (Kd.R_new' ho0 (Kd.R_lt (by apply_rules only [HO194.out, Kd.R_alloc, Kd.R_drewN, Kd.R_drew]))) (below_size k49_)); replace HO194 := Aside0.mk (Kd.R_elder' (by apply_rules only [HO194.out, Kd.R_alloc, Kd.R_drewN, Kd.R_drew]) (Kd.R_base ho0) hb); replace HB := HB.mw hb; (try clear hb ho0); obtain ⟨Ao186, co186, eo186⟩ := Kd.R_slice HO206.out; subst eo186) | ((with_reducible refine gate_callee (f := 38) rfl ?_); refine goesL_ (some 555) rfl rfl Try.func38 (by kernel_rfl) rfl #[.slice Ao186 t203.length co186, .int .i64 t204] rfl k35_ ?_; (with_reducible refine (impl_PairsInPeriod.calls kj110 _ _ t203 t204 t207 t208 _ ?side1 ?side2 A165.out).mono ?_); (case side1 => repeat (first | exact (Kd.R_reads' HO206.out).2.2 | (with_reducible refine Kd.C_alloc ?_ _) | (with_reducible refine Kd.C_drewN ?_ _) | (with_reducible refine Kd.C_drew ?_))); (case side2 => exact (Kd.R_reads' HO206.out).2.1); rintro e w187 ⟨rfl, hb⟩; refine ⟨_, rfl, ?_⟩; replace HO194 := HO194.mw hb; replace HO206 := HO206.mw hb; replace HB := HB.mw hb; (try clear hb)) | ((with_reducible refine gate_callee (f := 51) rfl ?_); refine goesL_ (some 561) rfl rfl Try.func51 (by kernel_rfl) rfl #[.slice Ao186 t203.length co186, .int .i64 t204] rfl k35_ ?_; (with_reducible refine (spec_PairsInPeriod.calls kj110 _ _ t203 t204 t209 t210 _ ?side1 ?side2 A166.out).mono ?_); (case side1 => repeat (first | exact (Kd.R_reads' HO206.out).2.2 | (with_reducible refine Kd.C_alloc ?_ _) | (with_reducible refine Kd.C_drewN ?_ _) | (with_reducible refine Kd.C_drew ?_))); (case side2 => exact (Kd.R_reads' HO206.out).2.1); rintro e w188 ⟨rfl, hb⟩; refine ⟨_, rfl, ?_⟩; replace HO194 := HO194.mw hb; replace HO206 := HO206.mw hb; replace HB := HB.mw hb; (try clear hb)) | ((with_reducible refine gate_callee (f := 52) rfl ?_); refine goesL_ (some 566) rfl rfl Try.func52 (by kernel_rfl) rfl #[.slice A1 l1.length c1] rfl k35_ ?_; (with_reducible refine (spec_DrawCountGaps.calls kj110 _ _ l1 t211 t212 _ ?side1 ?side2 A167.out).mono ?_); (case side1 => exact k16_); (case side2 => exact HC1.out); rintro e w189 ⟨v213, rfl, ho0, hb⟩; refine ⟨_, rfl, ?_⟩; have HO214 := Aside0.mk (Kd.R_lower (Kd.R_new' (Kd.R_new' ho0 (Kd.R_lt (by apply_rules only [HO194.out, Kd.R_alloc, Kd.R_drewN, Kd.R_drew]))) (Kd.R_lt (by apply_rules only [HO206.out, Kd.R_alloc, Kd.R_drewN, Kd.R_drew]))) (below_size k49_)); replace HO194 := Aside0.mk (Kd.R_elder' (by apply_rules only [HO194.out, Kd.R_alloc, Kd.R_drewN, Kd.R_drew]) (Kd.R_base ho0) hb); replace HO206 := Aside0.mk (Kd.R_elder' (by apply_rules only [HO206.out, Kd.R_alloc, Kd.R_drewN, Kd.R_drew]) (Kd.R_base ho0) hb); replace HB := HB.mw hb; (try clear hb ho0); obtain ⟨Ao190, co190, eo190⟩ := Kd.R_slice HO214.out; subst eo190) | ((with_reducible refine gate_callee (f := 34) rfl ?_); refine goesL_ (some 572) rfl rfl Try.func34 (by kernel_rfl) rfl #[.slice Ao190 t211.length co190, .int .i64 t212] rfl k35_ ?_; (with_reducible refine (impl_CountGaps.calls kj110 _ _ t211 t212 t215 t216 _ ?side1 ?side2 A168.out).mono ?_); (case side1 => repeat (first | exact (Kd.R_reads' HO214.out).2.2 | (with_reducible refine Kd.C_alloc ?_ _) | (with_reducible refine Kd.C_drewN ?_ _) | (with_reducible refine Kd.C_drew ?_))); (case side2 => exact (Kd.R_reads' HO214.out).2.1); rintro e w191 ⟨rfl, hb⟩; refine ⟨_, rfl, ?_⟩; replace HO194 := HO194.mw hb; replace HO206 := HO206.mw hb; replace HO214 := HO214.mw hb; replace HB := HB.mw hb; (try clear hb)) | ((with_reducible refine gate_callee (f := 53) rfl ?_); refine goesL_ (some 578) rfl rfl Try.func53 (by kernel_rfl) rfl #[.slice Ao190 t211.length co190, .int .i64 t212] rfl k35_ ?_; (with_reducible refine (spec_CountGaps.calls kj110 _ _ t211 t212 t217 t218 _ ?side1 ?side2 A169.out).mono ?_); (case side1 => repeat (first | exact (Kd.R_reads' HO214.out).2.2 | (with_reducible refine Kd.C_alloc ?_ _) | (with_reducible refine Kd.C_drewN ?_ _) | (with_reducible refine Kd.C_drew ?_))); (case side2 => exact (Kd.R_reads' HO214.out).2.1); rintro e w192 ⟨rfl, hb⟩; refine ⟨_, rfl, ?_⟩; replace HO194 := HO194.mw hb; replace HO206 := HO206.mw hb; replace HO214 := HO214.mw hb; replace HB := HB.mw hb; (try clear hb)))
                          go_ret
                          exact ⟨k46_, k49_⟩
                         ·rw [if_neg c178] at H
                          have c178b0 : (t216 == t218) = false := by simpa using c178
                          (try (have c178b1 : decide (t216 = t218) = false := by simpa using c178))
                          (try (have c178b2 : (t216 == t218) = false := by simpa using c178))
                          (try (have c178b3 : ¬ (t216 = t218) := by simpa using c178))
                          clear c178
                          exact absurd H (by simp)
                        ·rw [if_neg c177] at H
                         have c177b0 : (t207 == t209) = false := beq_eq_false_iff_ne.mpr c177
                         have c177b1 : (t207 != t209) = true := bne_iff_ne.mpr c177
                         exact absurd H (by simp)
                       ·rw [if_neg c176] at H
                        have c176b0 : (t208 == t210) = false := by simpa using c176
                        (try (have c176b1 : decide (t208 = t210) = false := by simpa using c176))
                        (try (have c176b2 : (t208 == t210) = false := by simpa using c176))
                        (try (have c176b3 : ¬ (t208 = t210) := by simpa using c176))
                        clear c176
                        exact absurd H (by simp)
                      ·rw [if_neg c175] at H
                       have c175b0 : decide (t199 ≤ t195) = false := decide_eq_false c175
                       clear c175
                       exact absurd H (by simp)
                     ·rw [if_neg c174] at H
                      have c174b0 : (t196 == t200) = false := by simpa using c174
                      (try (have c174b1 : decide (t196 = t200) = false := by simpa using c174))
                      (try (have c174b2 : (t196 == t200) = false := by simpa using c174))
                      (try (have c174b3 : ¬ (t196 = t200) := by simpa using c174))
                      clear c174
                      exact absurd H (by simp)
                    ·rw [if_neg c173] at H
                     have c173b0 : (t199 == t201) = false := beq_eq_false_iff_ne.mpr c173
                     have c173b1 : (t199 != t201) = true := bne_iff_ne.mpr c173
                     exact absurd H (by simp)
                   ·rw [if_neg c172] at H
                    have c172b0 : (t200 == t202) = false := by simpa using c172
                    (try (have c172b1 : decide (t200 = t202) = false := by simpa using c172))
                    (try (have c172b2 : (t200 == t202) = false := by simpa using c172))
                    (try (have c172b3 : ¬ (t200 = t202) := by simpa using c172))
                    clear c172
                    exact absurd H (by simp)
                  ·rw [if_neg c171] at H
                   have c171b0 : (t195 == t197) = false := beq_eq_false_iff_ne.mpr c171
                   have c171b1 : (t195 != t197) = true := bne_iff_ne.mpr c171
                   exact absurd H (by simp)
                 ·rw [if_neg c170] at H
                  have c170b0 : (t196 == t198) = false := by simpa using c170
                  (try (have c170b1 : decide (t196 = t198) = false := by simpa using c170))
                  (try (have c170b2 : (t196 == t198) = false := by simpa using c170))
                  (try (have c170b3 : ¬ (t196 = t198) := by simpa using c170))
                  clear c170
                  exact absurd H (by simp)
            ·replace c109 := Bool.eq_false_iff.mpr c109
             subst c109
             rw [if_neg (show ¬ (false = true) by decide)] at H
             exact absurd H (by simp)
          ·replace c106 := Bool.eq_false_iff.mpr c106
           subst c106
           rw [if_neg (show ¬ (false = true) by decide)] at H
           exact absurd H (by simp)
def laws_FnGapsTold.Pure : Prop := ∀ (l0 : List Int) (l1 : List Int), l0.length ≤ 9223372036854775807 → (∀ z_ ∈ l0, (Lit.int .u8 z_).wf = true) → l1.length ≤ 9223372036854775807 → (∀ z_ ∈ l1, (Lit.int .u8 z_).wf = true) → ∃ k, laws_FnGapsTold.f k l0 l1 = some true
end Go.Proofs.Ytdcijdeiaefjpaa.P
namespace Go.Proofs.Ytdcijdeiaefjpaa.P
open Go.RowKit Go.Proofs.YtdcijdeiaefjpaaW.PrintWords Go.Proofs.YtdcijdeiaefjpaaW.PrintLast Go.Proofs.YtdcijdeiaefjpaaW.PrintMore
attribute [local go_sem] max2_int min2_int max_two min_two max_three min_three max_four min_four
set_option linter.unusedVariables false
set_option linter.unusedSimpArgs false
set_option maxHeartbeats 8000000 in
set_option maxRecDepth 100000 in
theorem ixfS_calls (p : List SRule → Bool) (g : Nat) (lb : Array Value) (eg : ∀ args w, (callFunc g args).run Try.prog w = .ok (.enter g args) w)
    (A0 : Option Addr) (c0 : Nat) (zs : List (List Value × List SRule)) (w : World) (hp : ∀ (W : World) (z : List Value × List SRule), z ∈ zs → Below w.heap.size w W → ∃ A' c', z.1 = [.slice A' z.2.length c'] ∧ Calls Try.prog g (#[.slice A' z.2.length c'] ++ lb) W fun e w' => e = .returned (.bool (p z.2)) ∧ Below w.heap.size w w') (hr0 : Kd.C (kRaw (List SRule)) w A0 zs.length zs) :
    Calls Try.prog 108 #[.slice A0 zs.length c0, .func (.func g) #[] lb] w fun e w' => e = .returned (.int .i64 (fIx (fun z : List Value × List SRule => p z.2) zs 0)) ∧ Below w.heap.size w w' := by
  have hm : zs.length ≤ 9223372036854775807 := Kd.C_max hr0
  have HR0 := Aside0.mk hr0
  have HP := Aside0.mk hp
  clear hr0 hp
  have HB := Aside0.mk (Below.refl w.heap.size w)
  have H0 := Aside0.mk (show fIx (fun z : List Value × List SRule => p z.2) zs 0 = fIx (fun z : List Value × List SRule => p z.2) (zs.drop 0) ((0 : Nat) : Int) from rfl)
  go_enter Try.func108, Try.ntmps108
  go_wp2
  go_loopg [5, 8] zs.length (fun gg _ s8 wr => ∃ kk : Nat, kk ≤ zs.length ∧ zs.length - kk ≤ gg ∧ s8 = .int .i64 kk ∧ Aside0 (Below w.heap.size w wr) ∧ Aside0 (fIx (fun z : List Value × List SRule => p z.2) zs 0 = fIx (fun z : List Value × List SRule => p z.2) (zs.drop kk) kk))
  case atStart => exact ⟨0, Nat.zero_le _, by omega, rfl, HB, H0⟩
  case round =>
    clear HB H0
    obtain ⟨kk, hkk, hg, rfl, HB, HI⟩ := hrel
    by_cases hlt : kk < zs.length
    · have hltz : (kk : Int) < (zs.length : Int) := by omega
      obtain ⟨z, hz⟩ : ∃ z, zs[kk]? = some z := ⟨zs[kk], List.getElem?_eq_getElem hlt⟩
      have hdz : zs.drop kk = z :: zs.drop (kk + 1) := by
        rw [List.drop_eq_getElem_cons hlt]
        rw [List.getElem?_eq_getElem hlt] at hz
        injection hz with hz
        rw [hz]
      obtain ⟨A', c', ez, hcall⟩ := HP.out wr z (List.mem_of_getElem? hz) HB.out
      obtain ⟨ad, ce, e_, hcl, hK, hcc⟩ := Kd.C_get HR0.out z (kk : Int) (by omega) hltz
      have ey : zs.getD (kk : Int).toNat z = z := by simp [List.getD, hz]
      rw [ey] at hK
      obtain ⟨rfl, -, -⟩ := hK
      subst e_
      have hx0 : w.cell? (ad.add ((kk : Int).toNat * 1 + 0)) = some (.slice A' z.2.length c') := hcc 0 _ (by rw [ez]; rfl)
      simp only [Int.toNat_natCast, Nat.mul_one, Nat.add_zero] at hx0
      replace hx0 := (HB.out.cell (World.block_lt_of_cell? w _ hx0)).trans hx0
      have HDZ := Aside0.mk hdz
      clear hcl hcc hz ez ey hdz
      cases hq : p z.2 with
      | true =>
        rw [hq] at hcall
        have HQ := Aside0.mk hq
        clear hq
        go_wp2_with (go_at_fn g; refine hcall.mono ?_; rintro e w' ⟨rfl, hb'⟩)
        go_ret
        exact ⟨by rw [HI.out, HDZ.out, fIx, if_pos HQ.out]; rfl, hb'⟩
      | false =>
        rw [hq] at hcall
        have HQ := Aside0.mk hq
        clear hq
        go_wp2_with (go_at_fn g; refine hcall.mono ?_; rintro e w' ⟨rfl, hb'⟩)
        go_roundg (zs.length - (kk + 1))
        case measure => omega
        case rel => exact ⟨kk + 1, by omega, by omega, by go_num, ⟨hb'⟩, ⟨by rw [HI.out, HDZ.out, fIx, if_neg (by rw [HQ.out]; decide)]; rfl⟩⟩
    · have hltz : ¬ (kk : Int) < (zs.length : Int) := by omega
      have HDZ := Aside0.mk (List.drop_eq_nil_of_le (by omega : zs.length ≤ kk))
      go_wp2
      go_ret
      exact ⟨by rw [HI.out, HDZ.out]; rfl, HB.out⟩
end Go.Proofs.Ytdcijdeiaefjpaa.P
namespace Go.Proofs.Ytdcijdeiaefjpaa.P
open Go.RowKit Go.Proofs.YtdcijdeiaefjpaaW.PrintWords Go.Proofs.YtdcijdeiaefjpaaW.PrintLast Go.Proofs.YtdcijdeiaefjpaaW.PrintMore
attribute [local go_sem] max2_int min2_int max_two min_two max_three min_three max_four min_four
set_option linter.unusedVariables false
set_option linter.unusedSimpArgs false
theorem infoS_RuleD : (Try.prog.info? 28).map (fun i => (i.zero, i.size, i.bytes)) = some (some (.slice none 0 0), 1, 24) := by kernel_rfl
set_option maxHeartbeats 8000000 in
set_option maxRecDepth 100000 in
theorem delS_calls (p : List SRule → Bool) (g : Nat) (lb : Array Value) (eg : ∀ args w, (callFunc g args).run Try.prog w = .ok (.enter g args) w)
    (A : Option Addr) (c base : Nat) (ok : Nat → Prop) (xs : List (List SRule)) (w : World) (hbase : base ≤ w.heap.size) (hS : Kd.S (Kd.slice 38 kRule) 28 w base ok (.slice A xs.length c) xs)
    (hp : ∀ (W : World) (x : List SRule) (A' : Option Addr) (c' : Nat), x ∈ xs → w.grownBy W (Value.slice A xs.length c).ownBlock → Kd.C kRule W A' x.length x → x.length ≤ c' → Calls Try.prog g (#[.slice A' x.length c'] ++ lb) W fun e w' => e = .returned (.bool (p x)) ∧ Below W.heap.size W w') :
    Calls Try.prog 90 #[.slice A xs.length c, .func (.func g) #[] lb] w fun e w' => e = .returned (.slice A (xs.filter fun x => !p x).length c) ∧ Kd.S (Kd.slice 38 kRule) 28 w' base ok (.slice A (xs.filter fun x => !p x).length c) (xs.filter fun x => !p x) ∧ w.grownBy w' (Value.slice A xs.length c).ownBlock := by
  obtain ⟨f, zs, hzx, hR, hM⟩ := raw_of_S hS rfl
  have hzl : zs.length = xs.length := by rw [← hzx, List.length_map]
  have hfl : (xs.filter fun x => !p x) = (zs.filter fun z => !p z.2).map Prod.snd := by rw [← hzx, List.filter_map]; rfl
  have hel : ∀ (W : World), w.grownBy W (Value.slice A xs.length c).ownBlock → ∀ z ∈ zs, ∃ A' c', z.1 = [.slice A' z.2.length c'] ∧ Calls Try.prog g (#[.slice A' z.2.length c'] ++ lb) W fun e w' => e = .returned (.bool (p z.2)) ∧ Below W.heap.size W w' := by
    intro W hg z hz
    obtain ⟨m, hm⟩ := List.getElem?_of_mem hz
    obtain ⟨v, hv, hRv⟩ := Kd.M_grown (hM m z hm) hg (fun _ hk => hk.2)
    obtain ⟨A', c', rfl⟩ := Kd.R_slice hRv
    exact ⟨A', c', hv, hp W z.2 A' c' (by rw [← hzx]; exact List.mem_map_of_mem hz) hg (Kd.R_reads' hRv).2.2 (Kd.R_reads' hRv).2.1⟩
  have hIX := ixfS_calls p g lb eg A c zs w (fun W z hz hb => by
    obtain ⟨A', c', e1, h1⟩ := hel W (grown_of_below hb _) z hz
    exact ⟨A', c', e1, h1.mono fun e w' ⟨he, hb2⟩ => ⟨he, below_step hb hb2⟩⟩) (by rw [hzl]; have h_ := (Kd.R_reads' hR).2.2; rwa [hzl] at h_)
  rw [hzl] at hIX
  rw [hfl, List.length_map]
  rcases fIx_spec (fun z : List Value × List SRule => p z.2) zs 0 with ⟨e1, e2⟩ | ⟨k0, hk0, e1, e2⟩
  · rw [e1] at hIX
    have e3 : (zs.filter fun z => !p z.2) = zs := e2
    rw [e3, hzl, hzx]
    have HX := Aside0.mk hIX
    have HS := Aside0.mk hS
    clear hIX hS hR hM hp hel e1 e2 e3 hfl hzx hzl
    go_enter Try.func90, Try.ntmps90
    go_wp2_with (go_at_call 108; refine HX.out.mono ?_; rintro e w1 ⟨rfl, hb⟩; have HB := Aside0.mk hb; clear hb)
    go_ret
    exact ⟨rfl, Kd.S_below HS.out HB.out, grown_of_below HB.out _⟩
  · rw [e1] at hIX
    obtain ⟨G, c', eG, hGb, hGl, -⟩ := Kd.S_form hS (by omega)
    obtain ⟨rfl, -, rfl⟩ := Value.slice.inj eG
    clear eG
    have HX := Aside0.mk hIX
    have HR0 := Aside0.mk hR
    have HM0 := Aside0.mk hM
    have HEL := Aside0.mk hel
    have HGB := Aside0.mk hGb
    have HK0 := Aside0.mk hk0
    have HE2 := Aside0.mk (show (zs.take (k0 + 1)).filter (fun z => !p z.2) = zs.take k0 from e2)
    have HZL := Aside0.mk hzl
    have hm : xs.length ≤ 9223372036854775807 := by have h_ := Kd.C_max (Kd.R_reads' hR).2.2; omega
    have hne : (((0 : Int) + (k0 : Int)) == -1) = false := beq_eq_false_iff_ne.2 (by omega)
    have hkx : k0 < xs.length := by omega
    clear hIX hS hR hM hp hel hGb e1 e2 hGl hfl hzx hzl
    go_enter Try.func90, Try.ntmps90
    go_wp2_with (go_at_call 108; refine HX.out.mono ?_; rintro e w1 ⟨rfl, hb⟩; have HB := Aside0.mk hb; clear hb)
    go_loopg [5, 6] xs.length (fun gg v5 v6 wx => ∃ (i j : Nat) (ys : List (List Value × List SRule)), v5 = .int .i64 i ∧ v6 = .int .i64 j ∧ j ≤ xs.length ∧ xs.length - j ≤ gg ∧ Aside0 (KI (fun z : List Value × List SRule => !p z.2) zs ys i j) ∧ Aside0 (Kd.R (kRaw (List SRule)) 28 wx base ok (.slice (some ⟨G, 0, none⟩) xs.length c) ys) ∧ Aside0 (w.grownBy wx (some G)))
    case atStart => exact ⟨k0, k0 + 1, zs, by go_num, by first | rfl | go_num, by have h1_ := HK0.out; have h2_ := HZL.out; omega, by omega, ⟨KI.start HK0.out HE2.out⟩, ⟨Kd.R_below HR0.out HB.out⟩, ⟨grown_of_below HB.out _⟩⟩
    case round =>
      obtain ⟨i, j, ys, rfl, rfl, hj, hgg, HK, HR, HG⟩ := hrel
      have hyl : ys.length = xs.length := HK.out.len.trans HZL.out
      by_cases hlt : j < xs.length
      · have hltz : (j : Int) < (xs.length : Int) := by omega
        have hjz : j < zs.length := by rw [HZL.out]; exact hlt
        obtain ⟨z, hxj⟩ : ∃ z, zs[j]? = some z := ⟨zs[j], List.getElem?_eq_getElem hjz⟩
        have hyj : ys[j]? = some z := HK.out.read.trans hxj
        have HXJ := Aside0.mk hxj
        obtain ⟨A', c', ez, -⟩ := HEL.out wr HG.out z (List.mem_of_getElem? hxj)
        obtain ⟨ce, hcl, hMj, hcc, -⟩ := Kd.R_elem HR.out z (j : Int) (by omega) hltz
        have ey : ys.getD (j : Int).toNat z = z := by simp [List.getD, hyj]
        rw [ey] at hMj
        obtain ⟨rfl, -, -⟩ := hMj
        have hx0 : wr.cell? ⟨G, (j : Int).toNat * 1, none⟩ = some (.slice A' z.2.length c') := hcc 0 _ (by rw [ez]; rfl)
        simp only [Int.toNat_natCast, Nat.mul_one] at hx0
        have HEZ := Aside0.mk ez
        clear hcl hcc hxj hjz hyj ez ey
        have hil : (i : Int) < (xs.length : Int) := by have := HK.out.lt; omega
        have hij : i < xs.length := by omega
        have HPZ := Aside0.mk (show ∀ W, w.grownBy W (some G) → Calls Try.prog g (#[.slice A' z.2.length c'] ++ lb) W fun e w' => e = .returned (.bool (p z.2)) ∧ Below W.heap.size W w' from fun W hg' => by
          obtain ⟨A2, c2, e2, h2⟩ := HEL.out W hg' z (List.mem_of_getElem? HXJ.out)
          rw [HEZ.out] at e2
          simp only [List.cons.injEq, Value.slice.injEq, and_true, true_and] at e2
          obtain ⟨rfl, rfl⟩ := e2
          exact h2)
        cases hq : p z.2 with
        | false =>
          have HPX := Aside0.mk (show ∀ W, w.grownBy W (some G) → Calls Try.prog g (#[.slice A' z.2.length c'] ++ lb) W fun e w' => e = .returned (.bool false) ∧ Below W.heap.size W w' from fun W hg' => by have h_ := HPZ.out W hg'; rw [hq] at h_; exact h_)
          have HQ := Aside0.mk hq
          clear hq
          go_wp2_with (go_at_fn g; refine (HPX.out _ HG.out).mono ?_; rintro e w30 ⟨rfl, hb⟩; have HB3 := Aside0.mk hb; have HR3 := Aside0.mk (Kd.R_below HR.out hb); obtain ⟨ci, hcl, hMi, hcc, hfr⟩ := Kd.R_elem HR3.out z (i : Int) (by omega) hil; obtain ⟨ui, rfl⟩ : ∃ u_, ci = [u_] := by { rcases ci with _ | ⟨u_, _ | ⟨_, _⟩⟩ <;> simp [kRaw, Kd.iso, Kd.raw] at hcl; exact ⟨u_, rfl⟩ }; have hy0 : w30.cell? ⟨G, (i : Int).toNat * 1, none⟩ = some ui := hcc 0 _ rfl; have hz0 : w30.frozen? ⟨G, (i : Int).toNat * 1, none⟩ = false := hfr 0; have HSG := Aside0.mk (Kd.R_seg HR3.out (i : Int) (by omega) hil (seg := [.slice A' z.2.length c']) (j := 0) hcl hcc (show 1 ≤ 1 from by decide) (x' := z) (okp := fun _ => False) (by show (kRaw (List SRule)).M _ _ _ z _; exact ⟨HEZ.out.symm, rfl, fun u hu => by simp at hu; subst hu; rfl⟩) (fun _ hk => hk.elim)); simp only [Int.toNat_natCast, Nat.mul_one] at hy0 hz0; clear hcl hMi hcc hfr hb)
          go_roundg (xs.length - (j + 1))
          case measure => omega
          case rel => exact ⟨i + 1, j + 1, ys.set i z, by go_num, by go_num, by omega, Nat.le_refl _, ⟨KI.keep HK.out (by rw [HZL.out]; exact hlt) HXJ.out (by rw [HQ.out]; rfl)⟩, ⟨by have h_ := HSG.out.1; simpa [World.setCells, show (kRaw (List SRule)).sz = 1 from rfl] using h_⟩, ⟨by have h_ := grown_trans (grown_trans HG.out (grown_of_below HB3.out (some G)) (.inl rfl)) HSG.out.2 (.inl rfl); simpa [World.setCells, show (kRaw (List SRule)).sz = 1 from rfl] using h_⟩⟩
        | true =>
          have HPX := Aside0.mk (show ∀ W, w.grownBy W (some G) → Calls Try.prog g (#[.slice A' z.2.length c'] ++ lb) W fun e w' => e = .returned (.bool true) ∧ Below W.heap.size W w' from fun W hg' => by have h_ := HPZ.out W hg'; rw [hq] at h_; exact h_)
          have HQ := Aside0.mk hq
          clear hq
          go_wp2_with (go_at_fn g; refine (HPX.out _ HG.out).mono ?_; rintro e w30 ⟨rfl, hb⟩; have HB3 := Aside0.mk hb; have HR3 := Aside0.mk (Kd.R_below HR.out hb); clear hb)
          go_roundg (xs.length - (j + 1))
          case measure => omega
          case rel => exact ⟨i, j + 1, ys, rfl, by go_num, by omega, Nat.le_refl _, ⟨KI.skip HK.out (by rw [HZL.out]; exact hlt) HXJ.out (by rw [HQ.out]; rfl)⟩, HR3, ⟨grown_trans HG.out (grown_of_below HB3.out (some G)) (.inl rfl)⟩⟩
      · obtain rfl : j = xs.length := by omega
        have hltz : ¬ (xs.length : Int) < (xs.length : Int) := by omega
        have hil : (i : Int) < (xs.length : Int) := by have := HK.out.lt; omega
        have hnc : xs.length ≤ c := (Kd.R_reads' HR0.out).2.1
        obtain ⟨i0_, hi0_, _, hsz_, _⟩ := info_parts infoS_RuleD
        have hcut : ∀ W : World, (Instr.slice 64 (.slice (some ⟨G, 0, none⟩) xs.length c) (some (.int .i64 (i : Int))) none none).run Try.prog W = .ok (.slice (some ⟨G, i, none⟩) (xs.length - i) (c - i)) W := by
          intro W
          have h := cut_from (P := Try.prog) 64 28 .i64 Try.underlying64 hi0_ 1 hsz_ (some ⟨G, 0, none⟩) xs.length c (i : Int) (by omega) (by omega) W
          rw [h, if_neg (by omega)]
          simp only [Int.toNat_natCast, Option.map_some, add_off, Nat.zero_add, Nat.mul_one]
        have hcut2 : ∀ W : World, (Instr.slice 64 (.slice (some ⟨G, 0, none⟩) xs.length c) none (some (.int .i64 (i : Int))) none).run Try.prog W = .ok (.slice (some ⟨G, 0, none⟩) i c) W := by
          intro W
          have h := cut_to (P := Try.prog) 64 28 .i64 Try.underlying64 hi0_ (some ⟨G, 0, none⟩) xs.length c (i : Int) (by omega) (by omega) hnc W
          rw [h, Int.toNat_natCast]
        have hclr : ∀ ty, (Builtin.clear_ #[64] ty #[.slice (some ⟨G, i, none⟩) (xs.length - i) (c - i)]).run Try.prog wr = .ok (.tuple #[]) (wr.setCells G i (Builtin.zeroCells (Value.slice none 0 0).cells (xs.length - i)).toList) := fun ty =>
          clear_cells (n := xs.length - i) wr 64 28 ty (.slice none 0 0) Try.underlying64 (zero_run infoS_RuleD) (by
            intro u hu
            simp [Builtin.zeroCells, Value.cells] at hu
            obtain ⟨k_, hk_, rfl⟩ := hu
            simp [Nat.mod_one]; rfl) G i (c - i) (by omega) (by decide)
            (fun j_ hj_ => (R_cells HR.out (i + j_) (by rw [hyl]; show i + j_ < xs.length * 1; have hj2_ : j_ < (xs.length - i) * 1 := hj_; omega)).1)
            (fun j_ hj_ => (R_cells HR.out (i + j_) (by rw [hyl]; show i + j_ < xs.length * 1; have hj2_ : j_ < (xs.length - i) * 1 := hj_; omega)).2)
        obtain ⟨zs_, hzs_⟩ : ∃ z_, z_ = (Builtin.zeroCells (Value.slice none 0 0).cells (xs.length - i)).toList := ⟨_, rfl⟩
        rw [← hzs_] at hclr
        have HYL := Aside0.mk hyl
        clear hzs_ hi0_ hsz_ hyl
        go_wp2
        go_ret
        have hK := HK.out
        rw [← HZL.out] at hK
        have hd := KI.done hK
        have hit : i ≤ ys.length := by have := HYL.out; omega
        have hR2 := R_clear (Kd.R_take HR.out hit) i zs_ (by rw [List.length_take, Nat.min_eq_left hit]; show i * 1 ≤ i; omega)
        rw [hd.1] at hR2
        rw [← hd.2]
        have hgf := grown_trans HG.out (grown_setCells wr G i zs_) (.inl rfl)
        exact ⟨rfl, S_of_raw rfl (fun z : List Value × List SRule => !p z.2) (fun m z hm => Kd.M_grown (HM0.out m z hm) hgf (fun _ hk => hk.2)) (fun k hk => hk) hR2, hgf⟩
end Go.Proofs.Ytdcijdeiaefjpaa.P
namespace Go.Proofs.Ytdcijdeiaefjpaa.P
open Go.RowKit Go.Proofs.YtdcijdeiaefjpaaW.PrintWords Go.Proofs.YtdcijdeiaefjpaaW.PrintLast Go.Proofs.YtdcijdeiaefjpaaW.PrintMore
attribute [local go_sem] max2_int min2_int max_two min_two max_three min_three max_four min_four
set_option linter.unusedVariables false
set_option linter.unusedSimpArgs false
def okC (ps : List Int) : Bool := decide (ps.length ≤ 5) && ps.all (fun p => decide (0 ≤ p) && decide (p ≤ 13))
def extL (L : List (List SRule)) (p : Int) : List (List SRule) := L.flatMap fun r => (List.range p.toNat).map fun (i : Nat) => r ++ [(⟨p, (i : Int)⟩ : SRule)]
def covL (ps : List Int) : List (List SRule) := ps.foldl extL [[]]
def impl_coversOf.f (k : Nat) (l0 : List Int) (a1 : Int) : Option (List (List SRule)) := if okC l0 = true ∧ (covL l0).all (fun r => (impl_leftBetween.f k r 1 a1).isSome) = true then some ((covL l0).filter fun r => !decide (0 < ((impl_leftBetween.f k r 1 a1).getD []).length)) else none
theorem extL_length (L : List (List SRule)) (p : Int) : (extL L p).length = L.length * p.toNat := by
  unfold extL
  induction L with
  | nil => simp
  | cons x t ih => rw [List.flatMap_cons, List.length_append, ih, List.length_map, List.length_range, List.length_cons, Nat.succ_mul, Nat.add_comm]
theorem covL_succ (ps : List Int) (a : Nat) (h : a < ps.length) : covL (ps.take (a + 1)) = extL (covL (ps.take a)) (rd ps a) := by
  have e : ps.take (a + 1) = ps.take a ++ [rd ps a] := by
    rw [List.take_succ_eq_append_getElem h]
    simp [rd, List.getD, h]
  unfold covL
  rw [e, List.foldl_append]; rfl
theorem okC_rd {ps : List Int} (h : okC ps = true) (a : Nat) (ha : a < ps.length) : 0 ≤ rd ps a ∧ rd ps a ≤ 13 := by
  unfold okC at h
  simp only [Bool.and_eq_true, List.all_eq_true, decide_eq_true_eq] at h
  have := h.2 (rd ps a) (by simp [rd, List.getD, ha])
  exact this
theorem okC_len {ps : List Int} (h : okC ps = true) : ps.length ≤ 5 := by
  unfold okC at h
  simp only [Bool.and_eq_true, decide_eq_true_eq] at h
  exact h.1
theorem covL_length {ps : List Int} (h : okC ps = true) : ∀ a : Nat, a ≤ ps.length → (covL (ps.take a)).length ≤ 13 ^ a
  | 0, _ => by simp [covL]
  | a + 1, ha => by
    have ih := covL_length h a (by omega)
    have hr := okC_rd h a (by omega)
    rw [covL_succ ps a (by omega), extL_length, Nat.pow_succ]
    exact Nat.mul_le_mul ih (by omega)
theorem covL_small {ps : List Int} (h : okC ps = true) (a : Nat) (ha : a ≤ ps.length) : (covL (ps.take a)).length ≤ 371293 :=
  Nat.le_trans (covL_length h a ha) (Nat.le_trans (Nat.pow_le_pow_right (by decide) (Nat.le_trans ha (okC_len h))) (by decide))
theorem extL_mem {L : List (List SRule)} {p : Int} {x : List SRule} (h : x ∈ extL L p) : ∃ r ∈ L, ∃ i : Nat, i < p.toNat ∧ x = r ++ [⟨p, (i : Int)⟩] := by
  unfold extL at h
  obtain ⟨r, hr, hx⟩ := List.mem_flatMap.1 h
  obtain ⟨i, hi, rfl⟩ := List.mem_map.1 hx
  exact ⟨r, hr, i, List.mem_range.1 hi, rfl⟩
theorem covL_row {ps : List Int} : ∀ a : Nat, a ≤ ps.length → ∀ r ∈ covL (ps.take a), r.length = a
  | 0, _, r, h => by simp [covL] at h; subst h; rfl
  | a + 1, ha, r, h => by
    rw [covL_succ ps a (by omega)] at h
    obtain ⟨r', hr, i, hi, rfl⟩ := extL_mem h
    rw [List.length_append, covL_row a (by omega) r' hr]; rfl
def nextAt (L : List (List SRule)) (p : Int) (b c : Nat) : List (List SRule) := extL (L.take b) p ++ (List.range c).map (fun (i : Nat) => rd_Rules L b ++ [(⟨p, (i : Int)⟩ : SRule)])
theorem nextAt_zero (L : List (List SRule)) (p : Int) (b : Nat) : nextAt L p b 0 = extL (L.take b) p := by simp [nextAt]
theorem nextAt_start (L : List (List SRule)) (p : Int) : nextAt L p 0 0 = [] := by simp [nextAt, extL]
theorem nextAt_succ (L : List (List SRule)) (p : Int) (b c : Nat) : nextAt L p b c ++ [rd_Rules L b ++ [(⟨p, (c : Int)⟩ : SRule)]] = nextAt L p b (c + 1) := by
  unfold nextAt
  rw [List.range_succ, List.map_append, List.append_assoc]; rfl
theorem nextAt_full (L : List (List SRule)) (p : Int) (b : Nat) (h : b < L.length) : nextAt L p b p.toNat = nextAt L p (b + 1) 0 := by
  rw [nextAt_zero]
  unfold nextAt extL
  have e : L.take (b + 1) = L.take b ++ [rd_Rules L b] := by
    rw [List.take_succ_eq_append_getElem h]
    simp [rd_Rules, List.getD, h]
  rw [e, List.flatMap_append]
  simp
theorem nextAt_length (L : List (List SRule)) (p : Int) (hp : p ≤ 13) (b c : Nat) (hc : c ≤ p.toNat) (hL : L.length ≤ 371293) : (nextAt L p b c).length ≤ 10000000 := by
  unfold nextAt
  rw [List.length_append, extL_length, List.length_map, List.length_range, List.length_take]
  have h1 : min b L.length * p.toNat ≤ 371293 * 13 := Nat.mul_le_mul (by omega) (by omega)
  omega
theorem infoS_RuleC : (Try.prog.info? 28).map (fun i => (i.zero, i.size, i.bytes)) = some (some (.slice none 0 0), 1, 24) := by kernel_rfl
set_option maxHeartbeats 8000000 in
set_option maxRecDepth 100000 in
theorem cov1_calls (k : Nat) (len : Int) (B : Nat) (x : List SRule) (A' : Option Addr) (c' : Nat) (l : List Int) (W : World) (hx : Kd.C kRule W A' x.length x) (hc : x.length ≤ c') (hn : W.cell? ⟨B, 0, none⟩ = some (.int .i64 len)) (h : impl_leftBetween.f k x 1 len = some l) :
    Calls Try.prog 91 #[.slice A' x.length c', .pointer (some ⟨B, 0, none⟩)] W fun e w' => e = .returned (.bool (decide (0 < l.length))) ∧ Below W.heap.size W w' := by
  have HX := Aside0.mk hx
  have HC := Aside0.mk hc
  have H := Aside0.mk h
  clear hx hc h
  by_cases c_ : 0 < l.length
  · have d1 : decide (0 < (l.length : Int)) = true := decide_eq_true (by omega)
    have d2 : decide (0 < l.length) = true := decide_eq_true c_
    rw [d2]
    go_enter Try.func91, Try.ntmps91
    go_wp2_with (((with_reducible refine gate_callee (f := 61) rfl ?_); refine goesL_ (some 6) rfl rfl Try.func61 (by kernel_rfl) rfl #[.slice A' x.length c', .int .i64 1, .int .i64 len] rfl (by (try simp only [List.map_toArray, List.map_cons, List.map_nil]); first | done | rfl) ?_; (with_reducible refine (impl_leftBetween.calls k _ _ x 1 len l _ ?side1 ?side2 H.out).mono ?_); (case side1 => exact HX.out); (case side2 => exact HC.out); rintro e w2 ⟨v6, rfl, ho, hb⟩; refine ⟨_, rfl, ?_⟩; obtain ⟨A6, c6, e6⟩ := Kd.R_slice ho; subst e6; have HB := Aside0.mk hb; clear ho hb))
    go_ret
    exact ⟨rfl, HB.out⟩
  · have d1 : decide (0 < (l.length : Int)) = false := decide_eq_false (by omega)
    have d2 : decide (0 < l.length) = false := decide_eq_false c_
    rw [d2]
    go_enter Try.func91, Try.ntmps91
    go_wp2_with (((with_reducible refine gate_callee (f := 61) rfl ?_); refine goesL_ (some 6) rfl rfl Try.func61 (by kernel_rfl) rfl #[.slice A' x.length c', .int .i64 1, .int .i64 len] rfl (by (try simp only [List.map_toArray, List.map_cons, List.map_nil]); first | done | rfl) ?_; (with_reducible refine (impl_leftBetween.calls k _ _ x 1 len l _ ?side1 ?side2 H.out).mono ?_); (case side1 => exact HX.out); (case side2 => exact HC.out); rintro e w2 ⟨v6, rfl, ho, hb⟩; refine ⟨_, rfl, ?_⟩; obtain ⟨A6, c6, e6⟩ := Kd.R_slice ho; subst e6; have HB := Aside0.mk hb; clear ho hb))
    go_ret
    exact ⟨rfl, HB.out⟩
set_option maxHeartbeats 8000000 in
set_option maxRecDepth 100000 in
theorem impl_coversOf.calls (k : Nat) (A0 : Option Addr) (c0 : Nat) (l0 : List Int) (a1 : Int) (r : List (List SRule)) (w : World) (hr0 : Kd.C (Kd.int .i64) w A0 l0.length l0) (hc0 : l0.length ≤ c0) (h : impl_coversOf.f k l0 a1 = some r) :
    Calls Try.prog 57 #[.slice A0 l0.length c0, .int .i64 a1] w fun e w' => ∃ v0_ : Value, e = .returned (v0_) ∧ Kd.S (Kd.slice 38 kRule) 28 w' w.heap.size (fun _ => True) v0_ r ∧ Below w.heap.size w w' := by
  have HR0 := Aside0.mk hr0
  have HC0 := Aside0.mk hc0
  clear hr0 hc0
  unfold impl_coversOf.f at h
  by_cases hok : okC l0 = true ∧ (covL l0).all (fun r => (impl_leftBetween.f k r 1 a1).isSome) = true
  · rw [if_pos hok] at h
    have HOK := Aside0.mk hok.1
    have HALL := Aside0.mk hok.2
    have HRES := Aside0.mk (Option.some.inj h)
    have hpl : l0.length ≤ 5 := okC_len hok.1
    clear hok h
    go_enter Try.func57, Try.ntmps57
    go_wp2_with (first | ((with_reducible refine gate_dst (N := 3) rfl ?_); (try (refine gate_guard (by rfl) ?_; dsimp only)); refine box_event ?hg (N := 3) ?hd (cs := #[.int .i64 a1]) (t := 3) ?hr ?_; (case hd => rfl); (case hg => rfl); (case hr => exact k70_); intro gL hg w1 hbox hb; have BL1 := Aside0.mk hbox; have HB1 := Aside0.mk hb; clear hbox hb hg) | ((with_reducible refine gate_dst (N := 12) rfl ?_); refine Kd.R_lit kRule _ 38 ?hg (N := 12) ?hd (xs := ([] : List SRule)) (inner := []) (ok := fun _ => True) (okp := fun _ => True) ?hr ?hp (fun _ hk => hk) trivial (Below.refl _ _) (Nat.le_refl _) (by simp) ?_; (case hd => rfl); (case hg => rfl); (case hr => exact k70_); (case hp => exact Reps.none _ _); intro v12 w2 ho hb hg_ hnew_; clear hg_ hnew_; have HL2 := Aside0.mk (Kd.R_lower ho HB1.out.size); have BL2 := Aside0.mk (blk_below BL1.out hb); have HB2 := Aside0.mk (below_step HB1.out hb); clear BL1 HB1; obtain ⟨A12, c12, e12⟩ := Kd.R_slice HL2.out; replace e12 : v12 = .slice A12 0 c12 := e12; subst e12; clear ho hb) | ((with_reducible refine gate_dst (N := 13) rfl ?_); refine Kd.R_lit (Kd.tag (fun _ => 0) (Kd.slice 38 kRule)) w.heap.size 28 ?hg (N := 13) ?hd (xs := ([([], 0)] : List (List SRule × Nat))) (inner := [.slice A12 0 c12]) (ok := fun _ => True) (okp := fun _ => True) ?hr ?hp (fun _ hk => hk) trivial HB2.out (below_size HB2.out) (by simp) ?_; (case hd => rfl); (case hg => rfl); (case hr => exact k70_); (case hp => exact Reps.one (show (Kd.tag (fun _ => 0) (Kd.slice 38 kRule)).M _ _ _ ([], 0) [.slice A12 0 c12] from ⟨_, rfl, Kd.R_mono HL2.out (fun _ _ => ⟨trivial, rfl⟩)⟩) (Reps.none _ _)); intro v13 w3 ho hb hg_ hnew_; have BL3 := Aside0.mk (blk_grown BL2.out hg_ (by simp)); clear hg_ hnew_; have HS3 := Aside0.mk (show Kd.S (Kd.slice 38 kRule) 28 w3 w.heap.size (fun _ => True) v13 (covL (l0.take 0)) from ⟨fun _ => 0, ho⟩); have HB3 := Aside0.mk hb; clear ho hb BL2 HB2 HL2))
    go_loopg [5, 16] l0.length (fun gg v5 v16 wx => ∃ a : Nat, v16 = .int .i64 a ∧ a ≤ l0.length ∧ l0.length - a ≤ gg ∧ Aside0 (Kd.S (Kd.slice 38 kRule) 28 wx w.heap.size (fun _ => True) v5 (covL (l0.take a))) ∧ Aside0 (wx.heap[gL]? = some (.cells #[.int .i64 a1] 3 (0, 0))) ∧ Aside0 (Below w.heap.size w wx))
    case atStart => exact ⟨0, rfl, Nat.zero_le _, by omega, HS3, BL3, HB3⟩
    case round =>
      clear HS3 BL3 HB3
      obtain ⟨a, rfl, ha, hgg, HS, BL, HB⟩ := hrel
      by_cases c1_ : a < l0.length
      · have c1z : (a : Int) < (l0.length : Int) := by omega
        obtain ⟨ad, e_, hx0⟩ := Kd.at_int (Kd.C_below HR0.out HB.out) (a : Int) (by omega) c1z
        subst e_
        simp only [Int.toNat_natCast] at hx0
        have hp0 := okC_rd HOK.out a c1_
        obtain ⟨p, hpe⟩ : ∃ p, p = rd l0 (a : Int) := ⟨_, rfl⟩
        rw [← hpe] at hx0 hp0
        obtain ⟨L, hL⟩ : ∃ L, L = covL (l0.take a) := ⟨_, rfl⟩
        have hsm := covL_small HOK.out a ha
        have hrow : ∀ r ∈ L, r.length ≤ 5 := by
          intro r hr
          have := covL_row a ha r (by rw [← hL]; exact hr)
          omega
        have HNX := Aside0.mk (show covL (l0.take (a + 1)) = extL L p by rw [covL_succ l0 a c1_, hL, hpe])
        have HSL := Aside0.mk (show Kd.S (Kd.slice 38 kRule) 28 wr w.heap.size (fun k_ => k_ < wr.heap.size) _ L from Kd.S_mono (Kd.S_bound (by rw [hL]; exact HS.out)) (fun _ hk => hk.2.2.1))
        rw [← hL] at hsm
        have HROW := Aside0.mk hrow
        obtain ⟨N, hN⟩ : ∃ N, N = wr.heap.size := ⟨_, rfl⟩
        rw [← hN] at HSL
        have GN := Aside0.mk (show gL < N by rw [hN]; exact blk_lt BL.out)
        have GNw := Aside0.mk (show N ≤ wr.heap.size by rw [hN]; exact Nat.le_refl _)
        obtain ⟨Al, cl, el⟩ := Kd.S_slice HSL.out
        subst el
        have hll : L.length ≤ 371293 := hsm
        clear hpe hL hrow hN HS hsm
        go_wp2_with (first | ((with_reducible refine gate_dst (N := 20) rfl ?_); refine Kd.R_lit (Kd.tag (fun _ => 0) (Kd.slice 38 kRule)) w.heap.size 28 ?hg (N := 20) ?hd (xs := ([] : List (List SRule × Nat))) (inner := []) (ok := fun k_ => N ≤ k_) (okp := fun _ => False) ?hr ?hp (fun _ hk => hk.elim) GNw.out HB.out (below_size HB.out) (by simp) ?_; (case hd => rfl); (case hg => rfl); (case hr => exact k70_); (case hp => exact Reps.none _ _); intro v20 w20 ho hb hg_ hnew_; have HN20 := Aside0.mk (show Kd.S (Kd.slice 38 kRule) 28 w20 w.heap.size (fun k_ => N ≤ k_) v20 (nextAt L p 0 0) from by rw [nextAt_start]; exact ⟨fun _ => 0, ho⟩); have HL20 := Aside0.mk (Kd.S_grown HSL.out hg_ (fun _ _ => by simp)); have BL20 := Aside0.mk (blk_grown BL.out hg_ (by simp)); have HB20 := Aside0.mk hb; have GN20 := Aside0.mk (Nat.le_trans GNw.out hg_.size); clear ho hb hg_ hnew_))
        go_loopg [8, 23] L.length (fun gb v8 v23 wx => ∃ b : Nat, v23 = .int .i64 b ∧ b ≤ L.length ∧ L.length - b ≤ gb ∧ Aside0 (Kd.S (Kd.slice 38 kRule) 28 wx w.heap.size (fun k_ => N ≤ k_) v8 (nextAt L p b 0)) ∧ Aside0 (Kd.S (Kd.slice 38 kRule) 28 wx w.heap.size (fun k_ => k_ < N) (.slice Al L.length cl) L) ∧ Aside0 (wx.heap[gL]? = some (.cells #[.int .i64 a1] 3 (0, 0))) ∧ Aside0 (Below w.heap.size w wx) ∧ Aside0 (N ≤ wx.heap.size))
        case atStart => exact ⟨0, rfl, Nat.zero_le _, by omega, HN20, HL20, BL20, HB20, GN20⟩
        case round =>
          clear HN20 HL20 BL20 HB20 GN20 HSL BL HB hx0 GNw
          obtain ⟨b, rfl, hb_, hgb, HN, HSL, BL, HB, GNw⟩ := hrel
          by_cases c2_ : b < L.length
          · have c2z : (b : Int) < (L.length : Int) := by omega
            obtain ⟨ad2, ead⟩ : ∃ ad2, Al = some ad2 := by
              obtain ⟨g_, cap_, e_, -⟩ := Kd.S_form HSL.out (by omega)
              obtain ⟨rfl, -, -⟩ := Value.slice.inj e_
              exact ⟨_, rfl⟩
            subst ead
            obtain ⟨cs_, hcsl, hM, hcc⟩ := Kd.S_get HSL.out ([] : List SRule) (b : Int) (by omega) c2z
            obtain ⟨vr, rfl, hRr⟩ := hM
            obtain ⟨Ar, cr, er⟩ := Kd.R_slice hRr
            subst er
            have hxr : _root_.Go.World.cell? _ _ = _ := hcc 0 _ rfl
            rw [show (Kd.slice 38 kRule).sz = 1 from rfl] at hxr
            simp only [Int.toNat_natCast, Nat.mul_one, Nat.add_zero] at hxr
            obtain ⟨rr, hrr⟩ : ∃ rr, rr = rd_Rules L (b : Int) := ⟨_, rfl⟩
            have hRr2 : Kd.R kRule 38 wr w.heap.size (fun k_ => k_ < N ∧ some k_ ≠ (Value.slice (some ad2) L.length cl).ownBlock) (.slice Ar rr.length cr) rr := by rw [hrr]; exact hRr
            have hxr2 : wr.cell? (ad2.add b) = some (.slice Ar rr.length cr) := by rw [hrr]; exact hxr
            have HRR := Aside0.mk (show Kd.R kRule 38 wr w.heap.size (fun k_ => k_ < N) (.slice Ar rr.length cr) rr from Kd.R_mono hRr2 (fun _ hk => hk.1))
            have HRL := Aside0.mk (show rr.length ≤ 5 by rw [hrr]; exact HROW.out _ (by simp [rd_Rules, List.getD, c2_]))
            have HRE := Aside0.mk hrr
            clear hcsl hcc hRr hxr hRr2 hrr
            go_wp2
            go_loopg [8, 28] p.toNat (fun gc v8 v28 wx => ∃ c : Nat, v28 = .int .i64 c ∧ c ≤ p.toNat ∧ p.toNat - c ≤ gc ∧ Aside0 (Kd.S (Kd.slice 38 kRule) 28 wx w.heap.size (fun k_ => N ≤ k_) v8 (nextAt L p b c)) ∧ Aside0 (Kd.S (Kd.slice 38 kRule) 28 wx w.heap.size (fun k_ => k_ < N) (.slice (some ad2) L.length cl) L) ∧ Aside0 (wx.heap[gL]? = some (.cells #[.int .i64 a1] 3 (0, 0))) ∧ Aside0 (Below w.heap.size w wx) ∧ Aside0 (N ≤ wx.heap.size) ∧ Aside0 (Kd.R kRule 38 wx w.heap.size (fun k_ => k_ < N) (.slice Ar rr.length cr) rr))
            case atStart => exact ⟨0, rfl, Nat.zero_le _, by omega, HN, HSL, BL, HB, GNw, HRR⟩
            case round =>
              clear HN HSL BL HB GNw HRR hxr2
              obtain ⟨c, rfl, hc_, hgc, HN, HSL, BL, HB, GNw, HRR⟩ := hrel
              by_cases c3_ : c < p.toNat
              · have c3z : (c : Int) < p := by omega
                have c3b : decide ((c : Int) < p) = true := decide_eq_true c3z
                obtain ⟨A8, c8, e8⟩ := Kd.S_slice HN.out
                subst e8
                obtain ⟨nx, hnx⟩ : ∃ nx, nx = nextAt L p b c := ⟨_, rfl⟩
                rw [← hnx] at HN
                have hnl : nx.length ≤ 10000000 := by rw [hnx]; exact nextAt_length L p hp0.2 b c hc_ hll
                have HNE := Aside0.mk (show nx ++ [rr ++ [(⟨p, (c : Int)⟩ : SRule)]] = nextAt L p b (c + 1) by rw [hnx, HRE.out]; exact nextAt_succ L p b c)
                rw [← hnx]
                have HNL := Aside0.mk hnl
                clear hnx hnl
                go_wp2_with (first | ((with_reducible refine gate_dst (N := 32) rfl ?_); refine Kd.R_lit kRule _ 38 ?hg (N := 32) ?hd (xs := ([] : List SRule)) (inner := []) (ok := fun _ => True) (okp := fun _ => True) ?hr ?hp (fun _ hk => hk) trivial (Below.refl _ _) (Nat.le_refl _) (by simp) ?_; (case hd => rfl); (case hg => rfl); (case hr => exact k70_); (case hp => exact Reps.none _ _); intro v32 w32 ho hb hg_ hnew_; clear hg_ hnew_; have HL0 := Aside0.mk ho; have HB32 := Aside0.mk hb; clear ho hb) | ((with_reducible refine gate_builtin (b := .append) (xs := #[.tmp 32, .tmp 33]) rfl ?_); at_builtin; refine Kd.R_append_rows kRule (w0 := wr) wr.heap.size rfl (.tmp 32) (.tmp 33) 28 38 (.agg #[(.int .i64 0), (.int .i64 0)]) 16 rfl Try.underlying28 infoE_Rule rfl (by decide) (by omega) v32 ([] : List SRule) rr _ _ _ (fun _ => True) (fun _ => False) rfl rfl HL0.out ?aR (fun _ _ h => h) (fun _ h => h.elim) (fun _ _ => trivial) HB32.out (below_size HB32.out) ?aL ?_; (case aR => exact (Kd.R_reads' (Kd.R_below HRR.out HB32.out)).2.2); (case aL => have h_ := HRL.out; simp only [List.length_nil]; omega); intro v34 w34 ho hb hg_ hat_; clear hg_ hat_; simp only [List.nil_append] at ho; have HL34 := Aside0.mk ho; have HB34 := Aside0.mk hb; clear HL0 HB32 ho hb) | ((with_reducible refine gate_builtin (b := .append) (xs := #[.tmp 34, .tmp 38]) rfl ?_); at_builtin; refine Kd.R_append kRule (w0 := wr) wr.heap.size rfl (.tmp 34) (.tmp 38) 28 38 (.agg #[(.int .i64 0), (.int .i64 0)]) 16 rfl Try.underlying28 infoE_Rule rfl (by decide) (by omega) v34 rr (⟨p, (c : Int)⟩ : SRule) [.int .i64 p, .int .i64 (c : Int)] (fun _ => True) (fun _ => False) rfl rfl (kRule_mkM _ _ _ (⟨p, (c : Int)⟩ : SRule)) (fun _ hk => hk.elim) (fun _ _ => trivial) HL34.out HB34.out (below_size HB34.out) ?aL ?_; (case aL => have h_ := HRL.out; omega); intro v39 w39 ho hb hg_ hat_; clear hg_ hat_; obtain ⟨nr, hnr⟩ : ∃ nr, nr = rr ++ [(⟨p, (c : Int)⟩ : SRule)] := ⟨_, rfl⟩; rw [← hnr] at ho HNE; have HL39 := Aside0.mk ho; have HB39 := Aside0.mk hb; clear hnr HL34 HB34 ho hb; obtain ⟨A39, c39, e39⟩ := Kd.R_slice HL39.out; subst e39) | ((with_reducible refine gate_builtin (b := .append) (xs := #[.tmp 31, .tmp 40]) rfl ?_); at_builtin; refine Kd.S_append (Kd.slice 38 kRule) (w0 := w) w.heap.size rfl (.tmp 31) (.tmp 40) 64 28 (.slice none 0 0) 24 rfl Try.underlying64 infoS_RuleC rfl (by decide) (by omega) (.slice A8 nx.length c8) nx nr [.slice A39 nr.length c39] (fun k_ => N ≤ k_) (fun k_ => some k_ = (.slice A39 nr.length c39 : Value).ownBlock) rfl rfl ?aP ?aK ?aF ?aO ?aB ?aS ?aL ?_; (case aP => exact Kd.M_row (Kd.R_tight rfl (Kd.R_lower HL39.out HB.out.size))); (case aK => exact (fun k_ hk => ⟨Nat.le_trans GNw.out (Kd.R_base HL39.out k_ hk.symm), fun e_ => by have h1_ := Kd.R_base HL39.out k_ hk.symm; have h2_ := Kd.S_lt HN.out k_ e_.symm; omega⟩)); (case aF => exact (fun k_ hk => Nat.le_trans GNw.out (Nat.le_trans HB39.out.size hk))); (case aO => exact Kd.S_mono (Kd.S_below (Kd.S_bound HN.out) HB39.out) (fun k_ hk => ⟨hk.1, fun e_ => by have h1_ := Kd.R_base HL39.out k_ e_.symm; have h2_ := hk.2.2.1; omega⟩)); (case aB => exact below_step HB.out HB39.out); (case aS => exact below_size (below_step HB.out HB39.out)); (case aL => have h_ := HNL.out; omega); intro v41 w41 ho hb hg hat; have hne_ : ∀ k_, k_ < N → some k_ ≠ (Value.slice A8 nx.length c8).ownBlock := (fun k_ hk e_ => by have h_ := (Kd.S_R HN.out).1 k_ e_.symm; omega); have HN41 := Aside0.mk (show Kd.S (Kd.slice 38 kRule) 28 w41 w.heap.size (fun k_ => N ≤ k_) v41 (nextAt L p b (c + 1)) from by rw [← HNE.out]; exact ho); have HSL41 := Aside0.mk (Kd.S_grown (Kd.S_below HSL.out HB39.out) hg hne_); have HRR41 := Aside0.mk (Kd.R_grown (Kd.R_below HRR.out HB39.out) hg hne_); have BL41 := Aside0.mk (blk_grown (blk_below BL.out HB39.out) hg (hne_ gL GN.out)); have HB41 := Aside0.mk hb; have GN41 := Aside0.mk (Nat.le_trans GNw.out (Nat.le_trans HB39.out.size hg.size)); clear ho hb hg hat hne_))
                go_roundg (p.toNat - (c + 1))
                case measure => omega
                case rel => exact ⟨c + 1, by go_num, by omega, Nat.le_refl _, HN41, HSL41, BL41, HB41, GN41, HRR41⟩
              · have c3z : ¬ (c : Int) < p := by omega
                have c3b : decide ((c : Int) < p) = false := decide_eq_false c3z
                obtain rfl : c = p.toNat := by omega
                have HNF := Aside0.mk (show Kd.S (Kd.slice 38 kRule) 28 wr w.heap.size (fun k_ => N ≤ k_) _ (nextAt L p (b + 1) 0) from by rw [← nextAt_full L p b c2_]; exact HN.out)
                go_wp2
                go_roundg (L.length - (b + 1))
                case measure => omega
                case rel => exact ⟨b + 1, by go_num, by omega, Nat.le_refl _, HNF, HSL, BL, HB, GNw⟩
          · have c2z : ¬ (b : Int) < (L.length : Int) := by omega
            obtain rfl : b = L.length := by omega
            have HNF := Aside0.mk (show Kd.S (Kd.slice 38 kRule) 28 wr w.heap.size (fun _ => True) _ (covL (l0.take (a + 1))) from by
              rw [HNX.out, show extL L p = nextAt L p L.length 0 by rw [nextAt_zero, List.take_length]]
              exact Kd.S_mono HN.out (fun _ _ => trivial))
            go_wp2
            go_roundg (l0.length - (a + 1))
            case measure => omega
            case rel => exact ⟨a + 1, by go_num, by omega, Nat.le_refl _, HNF, BL, HB⟩
      · have c1z : ¬ (a : Int) < (l0.length : Int) := by omega
        obtain rfl : a = l0.length := by omega
        obtain ⟨L, hL⟩ : ∃ L, L = covL l0 := ⟨_, rfl⟩
        have HSF := Aside0.mk (show Kd.S (Kd.slice 38 kRule) 28 wr w.heap.size (fun k_ => k_ ≠ gL) _ L from by
          rw [hL]
          have h_ := HS.out
          rw [List.take_length] at h_
          exact Kd.S_mono (Kd.S_types h_ BL.out (by decide)) (fun _ hk => hk.2))
        rw [← hL] at HALL HRES
        obtain ⟨Al, cl, el⟩ := Kd.S_slice HSF.out
        subst el
        clear hL HS
        go_wp2_with (((with_reducible refine gate_callee (f := 90) rfl ?_); refine goesL_ (some 48) rfl rfl Try.func90 (by kernel_rfl) rfl #[.slice Al L.length cl, .func (.func 91) #[] #[.pointer (some ⟨gL, 0, none⟩)]] rfl (by (try simp only [List.map_toArray, List.map_cons, List.map_nil]); first | done | rfl) ?_; refine (delS_calls (fun x => decide (0 < ((impl_leftBetween.f k x 1 a1).getD []).length)) 91 #[.pointer (some ⟨gL, 0, none⟩)] (enters_of Try.func91 (by kernel_rfl) rfl) Al cl w.heap.size (fun k_ => k_ ≠ gL) L _ HB.out.size HSF.out ?sP).mono ?_; (case sP => exact (fun W_ x A' c' hx hg_ hC hc' => by
          obtain ⟨l_, hl_⟩ := Option.isSome_iff_exists.1 (List.all_eq_true.1 HALL.out x hx)
          have h2_ := cov1_calls k a1 gL x A' c' l_ W_ hC hc' ((blk_cell (blk_grown BL.out hg_ (fun e_ => (Kd.S_R HSF.out).1 gL e_.symm rfl)) 0).trans rfl) hl_
          show Calls _ _ _ _ (fun e w' => e = .returned (.bool (decide (0 < ((impl_leftBetween.f k x 1 a1).getD []).length))) ∧ _)
          rw [hl_]
          exact h2_)); rintro e w48 ⟨rfl, hS_, hg_⟩; refine ⟨_, rfl, ?_⟩; have HS48 := Aside0.mk hS_; have HB48 := Aside0.mk (HB.out.grown hg_ HB.out.size (Kd.S_base HSF.out)); clear hS_ hg_))
        go_ret
        exact ⟨_, rfl, by rw [← HRES.out]; exact Kd.S_mono HS48.out (fun _ _ => trivial), HB48.out⟩
  · rw [if_neg hok] at h
    exact absurd h (by simp)
end Go.Proofs.Ytdcijdeiaefjpaa.P
namespace Go.Proofs.Ytdcijdeiaefjpaa.P
open Go.RowKit Go.Proofs.YtdcijdeiaefjpaaW.PrintWords Go.Proofs.YtdcijdeiaefjpaaW.PrintLast Go.Proofs.YtdcijdeiaefjpaaW.PrintMore
attribute [local go_sem] max2_int min2_int max_two min_two max_three min_three max_four min_four
set_option linter.unusedVariables false
set_option linter.unusedSimpArgs false
def spec_gpCovers.l0 : Nat → List (SRule) → Int → Int → Option (Bool)
 | 0, _, _, _ => none
 | k + 1, x0, x1, x5 => if x5 ≤ x1 then ((spec_siLeft.f k x0 x5).bind fun t101 => (if t101 = true then (some false) else (spec_gpCovers.l0 k x0 x1 (wrap64 (x5 + 1))))) else (some true)
def spec_gpCovers.f (k : Nat) (l0 : List (SRule)) (a1 : Int) : Option (Bool) := spec_gpCovers.l0 k l0 a1 1
set_option maxHeartbeats 8000000 in
set_option maxRecDepth 100000 in
theorem spec_gpCovers.calls (k : Nat) (A0 : Option Addr) (c0 : Nat) (l0 : List (SRule)) (a1 : Int) (r : Bool) (w : World) (hr0 : Kd.C kRule w A0 l0.length l0) (hc0 : l0.length ≤ c0) (h : spec_gpCovers.f k l0 a1 = some r) :
  Calls Try.prog 70 #[.slice A0 l0.length c0, .int .i64 a1] w fun e w' => e = .returned (.bool r) ∧ Below w.heap.size w w' := by
 have HR0 := Aside0.mk hr0
 have HC0 := Aside0.mk hc0
 clear hr0 hc0
 have HB := Aside0.mk (Below.refl w.heap.size w)
 have H : (spec_gpCovers.l0 k l0 a1 1) = some r := h
 clear h
 have H' := Aside0.mk H
 clear H
 go_enter Try.func70, Try.ntmps70
 go_wp2
 go_loopg [5] k (fun kq v5 w' => ∃ (x5_1 : Int), v5 = .int .i64 x5_1 ∧ Aside0 (spec_gpCovers.l0 kq l0 a1 x5_1 = some r) ∧ Aside0 (kq ≤ k) ∧ Aside0 (Below w.heap.size w w'))
 case atStart => exact ⟨(1), k69_, H', ⟨Nat.le_refl _⟩, ⟨k49_⟩⟩
 case round =>
  clear H'
  obtain ⟨x5_1, rfl, HA, HK1, HB⟩ := hrel
  cases gk with
  | zero => exact absurd HA.out (by simp [spec_gpCovers.l0])
  | succ k1 =>
   have H := HA.out
   clear HA
   simp only [spec_gpCovers.l0] at H
   by_cases c3 : x5_1 ≤ a1
   ·rw [if_pos c3] at H
    have c3b0 : decide (x5_1 ≤ a1) = true := decide_eq_true c3
    clear c3
    obtain ⟨t101, A4, H⟩ := obnd_ H
    (try dsimp only at H)
    by_cases c5 : t101 = true
    ·subst c5
     rw [if_pos rfl] at H
     obtain rfl := Option.some.inj H
     go_wp2_with (first | ((with_reducible refine gate_callee (f := 87) rfl ?_); refine goesL_ (some 13) rfl rfl Try.func87 (by kernel_rfl) rfl #[.slice A0 l0.length c0, .int .i64 x5_1] rfl k35_ ?_; (with_reducible refine (spec_siLeft.calls k1 _ _ l0 x5_1 true _ ?side1 ?side2 A4.out).mono ?_); (case side1 => exact k18_); (case side2 => exact k77_); rintro e w6 ⟨rfl, hb⟩; refine ⟨_, rfl, ?_⟩; replace HB := HB.mw hb; (try clear hb)))
     go_ret
     exact ⟨k46_, k49_⟩
    ·replace c5 := Bool.eq_false_iff.mpr c5
     subst c5
     rw [if_neg (show ¬ (false = true) by decide)] at H
     have H' := Aside0.mk H
     clear H
     go_wp2_with (first | ((with_reducible refine gate_callee (f := 87) rfl ?_); refine goesL_ (some 13) rfl rfl Try.func87 (by kernel_rfl) rfl #[.slice A0 l0.length c0, .int .i64 x5_1] rfl k35_ ?_; (with_reducible refine (spec_siLeft.calls k1 _ _ l0 x5_1 false _ ?side1 ?side2 A4.out).mono ?_); (case side1 => exact k18_); (case side2 => exact k77_); rintro e w7 ⟨rfl, hb⟩; refine ⟨_, rfl, ?_⟩; replace HB := HB.mw hb; (try clear hb)))
     go_roundg k1
     case measure => have := HK1.out; omega
     case rel => exact ⟨(wrap64 (x5_1 + 1)), k69_, H', ⟨k76_⟩, ⟨k49_⟩⟩
   ·rw [if_neg c3] at H
    have c3b0 : decide (x5_1 ≤ a1) = false := decide_eq_false c3
    clear c3
    obtain rfl := Option.some.inj H
    go_wp2
    go_ret
    exact ⟨k46_, k49_⟩
end Go.Proofs.Ytdcijdeiaefjpaa.P
