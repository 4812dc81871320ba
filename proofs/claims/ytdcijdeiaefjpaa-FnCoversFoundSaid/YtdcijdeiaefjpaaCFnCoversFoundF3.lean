/- What functions of the program answer. Proved in this text: its theorems. Conditions: as each theorem states them. -/
import Derived.Test.YtdcijdeiaefjpaaCFnCoversFoundP
import Derived.Test.YtdcijdeiaefjpaaCFnCoversFoundF0
import Derived.Test.YtdcijdeiaefjpaaCFnCoversFoundF1
import Derived.Test.YtdcijdeiaefjpaaCFnCoversFoundF2
namespace Go.Proofs.Ytdcijdeiaefjpaa.P
open Go.RowKit Go.Proofs.YtdcijdeiaefjpaaW.PrintWords Go.Proofs.YtdcijdeiaefjpaaW.PrintLast Go.Proofs.YtdcijdeiaefjpaaW.PrintMore
attribute [local go_sem] max2_int min2_int max_two min_two max_three min_three max_four min_four
set_option linter.unusedVariables false
set_option linter.unusedSimpArgs false
mutual
def laws_FnCoversFound.j3 : Nat → List Int → Option (Bool)
 | 0, _ => none
 | k + 1, x1 => (spec_DrawFirstCover.f k x1).bind fun bt138 => ((impl_FirstCover.f k bt138.1 bt138.2).bind fun bt142 => ((spec_FirstCover.f k bt138.1 bt138.2).bind fun bt146 => ((impl_CountCovers.f k bt138.1 bt138.2).bind fun bt150 => ((spec_CountCovers.f k bt138.1 bt138.2).bind fun bt152 => ((spec_DrawIsCover.f k x1).bind fun bt154 => ((impl_IsCover.f k bt154.1 bt154.2).bind fun bt158 => ((spec_IsCover.f k bt154.1 bt154.2).bind fun bt160 => (if (bt142.2 != bt146.2) = true then (some false) else ((laws_tRules.f k bt142.1 bt146.1).bind fun t162 => (if t162 = true then (if (bt150.2 != bt152.2) = true then (some false) else (if bt150.1 = bt152.1 then (if (bt158.2 != bt160.2) = true then (some false) else (if (bt158.1 != bt160.1) = true then (some false) else (if bt150.2 = true then (laws_FnCoversFound.j4 k bt138.1 bt138.2 bt142.1 bt142.2 bt150.1 bt154.1 bt154.2 bt158.1 bt158.2 (bt142.2 != (decide (bt150.1 > 0)))) else (laws_FnCoversFound.j4 k bt138.1 bt138.2 bt142.1 bt142.2 bt150.1 bt154.1 bt154.2 bt158.1 bt158.2 (bt142.2 != false))))) else (some false))) else (some false)))))))))))
def laws_FnCoversFound.j4 : Nat → List Int → Int → List (SRule) → Bool → Int → List (SRule) → Int → Bool → Bool → Bool → Option (Bool)
 | 0, _, _, _, _, _, _, _, _, _, _ => none
 | k + 1, x26, x27, x28, x29, x32, x36, x37, x38, x39, x290 => if x290 = true then (some false) else (if x29 = true then ((impl_IsCover.f k x28 x27).bind fun bt163 => (if bt163.2 = true then (if bt163.1 = true then (if (x28.length : Int) = (x26.length : Int) then (if x27 > 0 then ((impl_CountCovers.f k x26 (wrap64 (x27 - 1))).bind fun bt165 => (if bt165.2 = true then (if bt165.1 < x32 then (some false) else (if x39 = true then ((impl_CountLeft.f k x36 x37).bind fun bt167 => (if bt167.2 = true then (some (x38 == (bt167.1 == 0))) else (some false))) else (some true))) else (some false))) else (if x39 = true then ((impl_CountLeft.f k x36 x37).bind fun bt169 => (if bt169.2 = true then (some (x38 == (bt169.1 == 0))) else (some false))) else (some true))) else (some false)) else (some false)) else (some false))) else (if x39 = true then ((impl_CountLeft.f k x36 x37).bind fun bt171 => (if bt171.2 = true then (some (x38 == (bt171.1 == 0))) else (some false))) else (some true)))
def laws_FnCoversFound.j0 : Nat → List Int → List Int → Int → List (SRule) → List (SRule) → Bool → Option (Bool)
 | 0, _, _, _, _, _, _ => none
 | k + 1, x1, x5, x6, x10, x14, x154 => if x154 = true then (some false) else (if (x5.length : Int) > 0 then ((impl_LongestRunOut.f k x10).bind fun bt130 => (if bt130.2 = true then (if bt130.1 = x6 then (laws_FnCoversFound.j1 k x1 x5 x10 x14) else (some false)) else (some false))) else (if x6 = 0 then (laws_FnCoversFound.j1 k x1 x5 x10 x14) else (some false)))
def laws_FnCoversFound.j1 : Nat → List Int → List Int → List (SRule) → List (SRule) → Option (Bool)
 | 0, _, _, _, _ => none
 | k + 1, x1, x5, x10, x14 => laws_FnCoversFound.l0 k x1 x5 x10 x14 (x14.length : Int) 0
def laws_FnCoversFound.l0 : Nat → List Int → List Int → List (SRule) → List (SRule) → Int → Int → Option (Bool)
 | 0, _, _, _, _, _, _ => none
 | k + 1, x1, x5, x10, x172, x173, x174 => if x174 < x173 then (if 0 ≤ x174 then (if x174 < (x172.length : Int) then (if x174 < (x5.length : Int) then (if ((rd_Rule x172 x174).f0) = (rd x5 x174) then (if x174 < (x10.length : Int) then (if ((rd_Rule x10 x174).f0) = (rd x5 x174) then (if ((rd_Rule x10 x174).f1) = 0 then (laws_FnCoversFound.l0 k x1 x5 x10 x172 x173 (wrap64 (x174 + 1))) else (some false)) else (some false)) else (none)) else (some false)) else (none)) else (none)) else (none)) else (laws_FnCoversFound.j3 k x1)
end
def laws_FnCoversFound.f (k : Nat) (l0 : List Int) (l1 : List Int) : Option (Bool) := (laws_big.f l0 l1).bind fun t101 => (if t101 = true then (some true) else ((spec_DrawMostCovered.f k l0).bind fun t102 => ((impl_MostCovered.f k t102).bind fun bt105 => ((spec_MostCovered.f k t102).bind fun bt107 => ((impl_RulesWithout.f k t102).bind fun bt109 => ((spec_RulesWithout.f k t102).bind fun bt113 => (if (bt105.2 != bt107.2) = true then (some false) else (if bt105.1 = bt107.1 then (if (bt109.2 != bt113.2) = true then (some false) else ((laws_tRules.f k bt109.1 bt113.1).bind fun t117 => (if t117 = true then (if (bt109.2 != bt105.2) = true then (some false) else (if bt105.2 = true then ((impl_FirstCover.f k t102 bt105.1).bind fun bt118 => ((impl_FirstCover.f k t102 (wrap64 (bt105.1 + 1))).bind fun bt122 => ((impl_CountCovers.f k t102 bt105.1).bind fun bt126 => ((impl_IsCover.f k bt118.1 bt105.1).bind fun bt128 => (if bt118.2 = true then (if bt105.1 < 40 then (if bt122.2 = true then (some false) else (if bt126.2 = true then (if bt126.1 < 1 then (some false) else (if bt128.2 = true then (if bt128.1 = true then (laws_FnCoversFound.j0 k l1 t102 bt105.1 bt109.1 bt118.1 ((bt109.1.length : Int) != (t102.length : Int))) else (some false)) else (some false))) else (some false))) else (if bt126.2 = true then (if bt126.1 < 1 then (some false) else (if bt128.2 = true then (if bt128.1 = true then (laws_FnCoversFound.j0 k l1 t102 bt105.1 bt109.1 bt118.1 ((bt109.1.length : Int) != (t102.length : Int))) else (some false)) else (some false))) else (some false))) else (some false)))))) else (laws_FnCoversFound.j3 k l1))) else (some false)))) else (some false)))))))))
set_option maxHeartbeats 8000000 in
set_option maxRecDepth 100000 in
theorem laws_FnCoversFound.calls (k : Nat) (A0 : Option Addr) (c0 : Nat) (l0 : List Int) (A1 : Option Addr) (c1 : Nat) (l1 : List Int) (w : World) (hr0 : Kd.C (Kd.int .u8) w A0 l0.length l0) (hc0 : l0.length ≤ c0) (hr1 : Kd.C (Kd.int .u8) w A1 l1.length l1) (hc1 : l1.length ≤ c1) (h : laws_FnCoversFound.f k l0 l1 = some true) :
  Calls Try.prog 3 #[.slice A0 l0.length c0, .slice A1 l1.length c1] w fun e w' => e = .returned (.bool true) ∧ Below w.heap.size w w' := by
 have hu38 := Try.underlying38
 have HR0 := Aside0.mk hr0
 have HC0 := Aside0.mk hc0
 clear hr0 hc0
 have HR1 := Aside0.mk hr1
 have HC1 := Aside0.mk hc1
 clear hr1 hc1
 have HB := Aside0.mk (Below.refl w.heap.size w)
 have H : ((laws_big.f l0 l1).bind fun t101 => (if t101 = true then (some true) else ((spec_DrawMostCovered.f k l0).bind fun t102 => ((impl_MostCovered.f k t102).bind fun bt105 => ((spec_MostCovered.f k t102).bind fun bt107 => ((impl_RulesWithout.f k t102).bind fun bt109 => ((spec_RulesWithout.f k t102).bind fun bt113 => (if (bt105.2 != bt107.2) = true then (some false) else (if bt105.1 = bt107.1 then (if (bt109.2 != bt113.2) = true then (some false) else ((laws_tRules.f k bt109.1 bt113.1).bind fun t117 => (if t117 = true then (if (bt109.2 != bt105.2) = true then (some false) else (if bt105.2 = true then ((impl_FirstCover.f k t102 bt105.1).bind fun bt118 => ((impl_FirstCover.f k t102 (wrap64 (bt105.1 + 1))).bind fun bt122 => ((impl_CountCovers.f k t102 bt105.1).bind fun bt126 => ((impl_IsCover.f k bt118.1 bt105.1).bind fun bt128 => (if bt118.2 = true then (if bt105.1 < 40 then (if bt122.2 = true then (some false) else (if bt126.2 = true then (if bt126.1 < 1 then (some false) else (if bt128.2 = true then (if bt128.1 = true then (laws_FnCoversFound.j0 k l1 t102 bt105.1 bt109.1 bt118.1 ((bt109.1.length : Int) != (t102.length : Int))) else (some false)) else (some false))) else (some false))) else (if bt126.2 = true then (if bt126.1 < 1 then (some false) else (if bt128.2 = true then (if bt128.1 = true then (laws_FnCoversFound.j0 k l1 t102 bt105.1 bt109.1 bt118.1 ((bt109.1.length : Int) != (t102.length : Int))) else (some false)) else (some false))) else (some false))) else (some false)))))) else (laws_FnCoversFound.j3 k l1))) else (some false)))) else (some false)))))))))) = some true := h
 clear h
 replace H := Option.bind_eq_some_iff.mp H
 obtain ⟨t101, A30, H⟩ := H
 (try dsimp only at H)
 have A3 := Aside0.mk A30
 clear A30
 by_cases c4 : t101 = true
 ·subst c4
  have H1 : (some true) = some true := rfl
  clear H
  have H := H1
  clear H1
  clear H
  go_enter Try.func3, Try.ntmps3
  go_wp2_with (first | (go_at_call 5; (with_reducible refine (laws_big.calls _ _ l0 _ _ l1 true _ ?side1 ?side2 ?side3 ?side4 A3.out).mono ?_); (case side1 => repeat (first | exact HR0.out | (with_reducible refine Kd.C_alloc ?_ _) | (with_reducible refine Kd.C_drewN ?_ _) | (with_reducible refine Kd.C_drew ?_))); (case side2 => exact HC0.out); (case side3 => repeat (first | exact HR1.out | (with_reducible refine Kd.C_alloc ?_ _) | (with_reducible refine Kd.C_drewN ?_ _) | (with_reducible refine Kd.C_drew ?_))); (case side4 => exact HC1.out); rintro e w' ⟨rfl, ⟨nd, rfl⟩⟩; (try first | exact ⟨rfl, _, World.drewN_drewN _ _ _⟩ | exact ⟨rfl, _, Eq.trans (World.drewN_drewN _ _ _) (congrArg (World.drewN _) (Nat.add_assoc _ _ _))⟩)))
  repeat (go_quiet (first | (go_at_call 5; (with_reducible refine (laws_big.calls _ _ l0 _ _ l1 true _ ?side1 ?side2 ?side3 ?side4 A3.out).mono ?_); (case side1 => repeat (first | exact HR0.out | (with_reducible refine Kd.C_alloc ?_ _) | (with_reducible refine Kd.C_drewN ?_ _) | (with_reducible refine Kd.C_drew ?_))); (case side2 => exact HC0.out); (case side3 => repeat (first | exact HR1.out | (with_reducible refine Kd.C_alloc ?_ _) | (with_reducible refine Kd.C_drewN ?_ _) | (with_reducible refine Kd.C_drew ?_))); (case side4 => exact HC1.out); rintro e w' ⟨rfl, ⟨nd, rfl⟩⟩; (try first | exact ⟨rfl, _, World.drewN_drewN _ _ _⟩ | exact ⟨rfl, _, Eq.trans (World.drewN_drewN _ _ _) (congrArg (World.drewN _) (Nat.add_assoc _ _ _))⟩))); try go_wp2_with (first | (go_at_call 5; (with_reducible refine (laws_big.calls _ _ l0 _ _ l1 true _ ?side1 ?side2 ?side3 ?side4 A3.out).mono ?_); (case side1 => repeat (first | exact HR0.out | (with_reducible refine Kd.C_alloc ?_ _) | (with_reducible refine Kd.C_drewN ?_ _) | (with_reducible refine Kd.C_drew ?_))); (case side2 => exact HC0.out); (case side3 => repeat (first | exact HR1.out | (with_reducible refine Kd.C_alloc ?_ _) | (with_reducible refine Kd.C_drewN ?_ _) | (with_reducible refine Kd.C_drew ?_))); (case side4 => exact HC1.out); rintro e w' ⟨rfl, ⟨nd, rfl⟩⟩; (try first | exact ⟨rfl, _, World.drewN_drewN _ _ _⟩ | exact ⟨rfl, _, Eq.trans (World.drewN_drewN _ _ _) (congrArg (World.drewN _) (Nat.add_assoc _ _ _))⟩))))
  go_ret
  exact ⟨by first | rfl | (simp [errW_none, errW_some] <;> rfl) | (simp [*, errW_none, errW_some] <;> rfl), by apply_rules only [HB.out, below_alloc, pw_below_drewN, below_drew1]⟩
 ·replace c4 := Bool.eq_false_iff.mpr c4
  subst c4
  rw [if_neg (show ¬ (false = true) by decide)] at H
  replace H := Option.bind_eq_some_iff.mp H
  obtain ⟨t102, A50, H⟩ := H
  (try dsimp only at H)
  have A5 := Aside0.mk A50
  clear A50
  replace H := Option.bind_eq_some_iff.mp H
  obtain ⟨⟨t105, t106⟩, A60, H⟩ := H
  (try dsimp only at H)
  have A6 := Aside0.mk A60
  clear A60
  replace H := Option.bind_eq_some_iff.mp H
  obtain ⟨⟨t107, t108⟩, A70, H⟩ := H
  (try dsimp only at H)
  have A7 := Aside0.mk A70
  clear A70
  replace H := Option.bind_eq_some_iff.mp H
  obtain ⟨⟨t109, t110⟩, A80, H⟩ := H
  (try dsimp only at H)
  have A8 := Aside0.mk A80
  clear A80
  replace H := Option.bind_eq_some_iff.mp H
  obtain ⟨⟨t113, t114⟩, A90, H⟩ := H
  (try dsimp only at H)
  have A9 := Aside0.mk A90
  clear A90
  by_cases c10 : (t106 != t108) = true
  ·rw [if_pos c10] at H
   have c10b0 : (t106 != t108) = true := c10
   (try (have c10b1 : decide (t106 = t108) = false := by simpa using c10))
   (try (have c10b2 : (t106 == t108) = false := by simpa using c10))
   (try (have c10b3 : ¬ (t106 = t108) := by simpa using c10))
   clear c10
   exact absurd H (by simp)
  ·rw [if_neg c10] at H
   have c10b0 : (t106 != t108) = false := by simpa using c10
   (try (have c10b1 : decide (t106 = t108) = true := by simpa using c10))
   (try (have c10b2 : (t106 == t108) = true := by simpa using c10))
   clear c10
   by_cases c11 : t105 = t107
   ·rw [if_pos c11] at H
    have c11b0 : (t105 == t107) = true := beq_iff_eq.mpr c11
    have c11b1 : (t105 != t107) = false := bne_eq_false_iff_eq.mpr c11
    clear c11
    by_cases c12 : (t110 != t114) = true
    ·rw [if_pos c12] at H
     have c12b0 : (t110 != t114) = true := c12
     (try (have c12b1 : decide (t110 = t114) = false := by simpa using c12))
     (try (have c12b2 : (t110 == t114) = false := by simpa using c12))
     (try (have c12b3 : ¬ (t110 = t114) := by simpa using c12))
     clear c12
     exact absurd H (by simp)
    ·rw [if_neg c12] at H
     have c12b0 : (t110 != t114) = false := by simpa using c12
     (try (have c12b1 : decide (t110 = t114) = true := by simpa using c12))
     (try (have c12b2 : (t110 == t114) = true := by simpa using c12))
     clear c12
     replace H := Option.bind_eq_some_iff.mp H
     obtain ⟨t117, A130, H⟩ := H
     (try dsimp only at H)
     have A13 := Aside0.mk A130
     clear A130
     by_cases c14 : t117 = true
     ·subst c14
      rw [if_pos rfl] at H
      by_cases c15 : (t110 != t106) = true
      ·rw [if_pos c15] at H
       have c15b0 : (t110 != t106) = true := c15
       (try (have c15b1 : decide (t110 = t106) = false := by simpa using c15))
       (try (have c15b2 : (t110 == t106) = false := by simpa using c15))
       (try (have c15b3 : ¬ (t110 = t106) := by simpa using c15))
       clear c15
       exact absurd H (by simp)
      ·rw [if_neg c15] at H
       have c15b0 : (t110 != t106) = false := by simpa using c15
       (try (have c15b1 : decide (t110 = t106) = true := by simpa using c15))
       (try (have c15b2 : (t110 == t106) = true := by simpa using c15))
       clear c15
       have HC16 := Aside0.mk H
       clear H
       go_enter Try.func3, Try.ntmps3
       go_upto_if 97 with (first | (go_at_call 5; (with_reducible refine (laws_big.calls _ _ l0 _ _ l1 false _ ?side1 ?side2 ?side3 ?side4 A3.out).mono ?_); (case side1 => repeat (first | exact HR0.out | (with_reducible refine Kd.C_alloc ?_ _) | (with_reducible refine Kd.C_drewN ?_ _) | (with_reducible refine Kd.C_drew ?_))); (case side2 => exact HC0.out); (case side3 => repeat (first | exact HR1.out | (with_reducible refine Kd.C_alloc ?_ _) | (with_reducible refine Kd.C_drewN ?_ _) | (with_reducible refine Kd.C_drew ?_))); (case side4 => exact HC1.out); rintro e w' ⟨rfl, ⟨nd, rfl⟩⟩; (try first | exact ⟨rfl, _, World.drewN_drewN _ _ _⟩ | exact ⟨rfl, _, Eq.trans (World.drewN_drewN _ _ _) (congrArg (World.drewN _) (Nat.add_assoc _ _ _))⟩)) | (go_at_call 6; (with_reducible refine (spec_DrawMostCovered.calls k _ _ l0 t102 _ ?side1 ?side2 A5.out).mono ?_); (case side1 => repeat (first | exact HR0.out | (with_reducible refine Kd.C_alloc ?_ _) | (with_reducible refine Kd.C_drewN ?_ _) | (with_reducible refine Kd.C_drew ?_))); (case side2 => exact HC0.out); rintro e w17 ⟨v103, rfl, ho0, hb⟩; have n0_ := Aside0.mk (Kd.R_lower ho0 (below_size (by apply_rules only [HB.out, below_alloc, pw_below_drewN, below_drew1]))); have n1_ := Aside0.mk (HB.mv hb); clear HB; have HO104 := n0_; have HB := n1_; clear n0_ n1_; (try clear hb); (try clear hb2); (try clear hk); (try clear hi); (try clear ho0); obtain ⟨Ao18, co18, eo18⟩ := Kd.R_slice HO104.out; subst eo18) | (go_at_call 7; (with_reducible refine (impl_MostCovered.calls k _ _ t102 t105 t106 _ ?side1 ?side2 A6.out).mono ?_); (case side1 => repeat (first | exact (Kd.R_reads' HO104.out).2.2 | (with_reducible refine Kd.C_alloc ?_ _) | (with_reducible refine Kd.C_drewN ?_ _) | (with_reducible refine Kd.C_drew ?_))); (case side2 => exact (Kd.R_reads' HO104.out).2.1); rintro e w19 ⟨rfl, hb⟩; have n0_ := Aside0.mk (HO104.mv hb); have n1_ := Aside0.mk (HB.mv hb); clear HO104; clear HB; have HO104 := n0_; have HB := n1_; clear n0_ n1_; (try clear hb); (try clear hb2); (try clear hk); (try clear hi)) | (go_at_call 8; (with_reducible refine (spec_MostCovered.calls k _ _ t102 t107 t108 _ ?side1 ?side2 A7.out).mono ?_); (case side1 => repeat (first | exact (Kd.R_reads' HO104.out).2.2 | (with_reducible refine Kd.C_alloc ?_ _) | (with_reducible refine Kd.C_drewN ?_ _) | (with_reducible refine Kd.C_drew ?_))); (case side2 => exact (Kd.R_reads' HO104.out).2.1); rintro e w20 ⟨rfl, hb⟩; have n0_ := Aside0.mk (HO104.mv hb); have n1_ := Aside0.mk (HB.mv hb); clear HO104; clear HB; have HO104 := n0_; have HB := n1_; clear n0_ n1_; (try clear hb); (try clear hb2); (try clear hk); (try clear hi)) | (go_at_call 9; (with_reducible refine (impl_RulesWithout.calls k _ _ t102 t109 t110 _ ?side1 ?side2 A8.out).mono ?_); (case side1 => repeat (first | exact (Kd.R_reads' HO104.out).2.2 | (with_reducible refine Kd.C_alloc ?_ _) | (with_reducible refine Kd.C_drewN ?_ _) | (with_reducible refine Kd.C_drew ?_))); (case side2 => exact (Kd.R_reads' HO104.out).2.1); rintro e w21 ⟨v111, rfl, ho0, hb⟩; have n0_ := Aside0.mk (HO104.mv hb); have n1_ := Aside0.mk (Kd.R_lower ho0 (below_size (by apply_rules only [HB.out, below_alloc, pw_below_drewN, below_drew1]))); have n2_ := Aside0.mk (HB.mv hb); clear HO104; clear HB; have HO104 := n0_; have HO112 := n1_; have HB := n2_; clear n0_ n1_ n2_; (try clear hb); (try clear hb2); (try clear hk); (try clear hi); (try clear ho0)) | (go_at_call 10; (with_reducible refine (spec_RulesWithout.calls k _ _ t102 t113 t114 _ ?side1 ?side2 A9.out).mono ?_); (case side1 => repeat (first | exact (Kd.R_reads' HO104.out).2.2 | (with_reducible refine Kd.C_alloc ?_ _) | (with_reducible refine Kd.C_drewN ?_ _) | (with_reducible refine Kd.C_drew ?_))); (case side2 => exact (Kd.R_reads' HO104.out).2.1); rintro e w22 ⟨v115, rfl, ho0, hb⟩; have n0_ := Aside0.mk (HO104.mv hb); have n1_ := Aside0.mk (Kd.R_elder' (by apply_rules only [HO112.out, Kd.R_alloc, Kd.R_drewN, Kd.R_drew]) (Kd.R_base ho0) hb); have n2_ := Aside0.mk (Kd.R_lower (Kd.R_new' ho0 (Kd.R_lt (by apply_rules only [HO112.out, Kd.R_alloc, Kd.R_drewN, Kd.R_drew]))) (below_size (by apply_rules only [HB.out, below_alloc, pw_below_drewN, below_drew1]))); have n3_ := Aside0.mk (HB.mv hb); clear HO104; clear HO112; clear HB; have HO104 := n0_; have HO112 := n1_; have HO116 := n2_; have HB := n3_; clear n0_ n1_ n2_ n3_; (try clear hb); (try clear hb2); (try clear hk); (try clear hi); (try clear ho0); obtain ⟨Ao23, co23, eo23⟩ := Kd.R_slice HO112.out; subst eo23; obtain ⟨Ao24, co24, eo24⟩ := Kd.R_slice HO116.out; subst eo24) | (go_at_call 11; (with_reducible refine (laws_tRules.calls k _ _ t109 _ _ t113 true _ ?side1 ?side2 ?side3 ?side4 A13.out).mono ?_); (case side1 => repeat (first | exact (Kd.R_reads' HO112.out).2.2 | (with_reducible refine Kd.C_alloc ?_ _) | (with_reducible refine Kd.C_drewN ?_ _) | (with_reducible refine Kd.C_drew ?_))); (case side2 => exact (Kd.R_reads' HO112.out).2.1); (case side3 => repeat (first | exact (Kd.R_reads' HO116.out).2.2 | (with_reducible refine Kd.C_alloc ?_ _) | (with_reducible refine Kd.C_drewN ?_ _) | (with_reducible refine Kd.C_drew ?_))); (case side4 => exact (Kd.R_reads' HO116.out).2.1); rintro e w' ⟨rfl, ⟨nd, rfl⟩⟩; (try first | exact ⟨rfl, _, World.drewN_drewN _ _ _⟩ | exact ⟨rfl, _, Eq.trans (World.drewN_drewN _ _ _) (congrArg (World.drewN _) (Nat.add_assoc _ _ _))⟩)))
       repeat (go_quiet (first | (go_at_call 5; (with_reducible refine (laws_big.calls _ _ l0 _ _ l1 false _ ?side1 ?side2 ?side3 ?side4 A3.out).mono ?_); (case side1 => repeat (first | exact HR0.out | (with_reducible refine Kd.C_alloc ?_ _) | (with_reducible refine Kd.C_drewN ?_ _) | (with_reducible refine Kd.C_drew ?_))); (case side2 => exact HC0.out); (case side3 => repeat (first | exact HR1.out | (with_reducible refine Kd.C_alloc ?_ _) | (with_reducible refine Kd.C_drewN ?_ _) | (with_reducible refine Kd.C_drew ?_))); (case side4 => exact HC1.out); rintro e w' ⟨rfl, ⟨nd, rfl⟩⟩; (try first | exact ⟨rfl, _, World.drewN_drewN _ _ _⟩ | exact ⟨rfl, _, Eq.trans (World.drewN_drewN _ _ _) (congrArg (World.drewN _) (Nat.add_assoc _ _ _))⟩)) | (go_at_call 6; (with_reducible refine (spec_DrawMostCovered.calls k _ _ l0 t102 _ ?side1 ?side2 A5.out).mono ?_); (case side1 => repeat (first | exact HR0.out | (with_reducible refine Kd.C_alloc ?_ _) | (with_reducible refine Kd.C_drewN ?_ _) | (with_reducible refine Kd.C_drew ?_))); (case side2 => exact HC0.out); rintro e w17 ⟨v103, rfl, ho0, hb⟩; have n0_ := Aside0.mk (Kd.R_lower ho0 (below_size (by apply_rules only [HB.out, below_alloc, pw_below_drewN, below_drew1]))); have n1_ := Aside0.mk (HB.mv hb); clear HB; have HO104 := n0_; have HB := n1_; clear n0_ n1_; (try clear hb); (try clear hb2); (try clear hk); (try clear hi); (try clear ho0); obtain ⟨Ao18, co18, eo18⟩ := Kd.R_slice HO104.out; subst eo18) | (go_at_call 7; (with_reducible refine (impl_MostCovered.calls k _ _ t102 t105 t106 _ ?side1 ?side2 A6.out).mono ?_); (case side1 => repeat (first | exact (Kd.R_reads' HO104.out).2.2 | (with_reducible refine Kd.C_alloc ?_ _) | (with_reducible refine Kd.C_drewN ?_ _) | (with_reducible refine Kd.C_drew ?_))); (case side2 => exact (Kd.R_reads' HO104.out).2.1); rintro e w19 ⟨rfl, hb⟩; have n0_ := Aside0.mk (HO104.mv hb); have n1_ := Aside0.mk (HB.mv hb); clear HO104; clear HB; have HO104 := n0_; have HB := n1_; clear n0_ n1_; (try clear hb); (try clear hb2); (try clear hk); (try clear hi)) | (go_at_call 8; (with_reducible refine (spec_MostCovered.calls k _ _ t102 t107 t108 _ ?side1 ?side2 A7.out).mono ?_); (case side1 => repeat (first | exact (Kd.R_reads' HO104.out).2.2 | (with_reducible refine Kd.C_alloc ?_ _) | (with_reducible refine Kd.C_drewN ?_ _) | (with_reducible refine Kd.C_drew ?_))); (case side2 => exact (Kd.R_reads' HO104.out).2.1); rintro e w20 ⟨rfl, hb⟩; have n0_ := Aside0.mk (HO104.mv hb); have n1_ := Aside0.mk (HB.mv hb); clear HO104; clear HB; have HO104 := n0_; have HB := n1_; clear n0_ n1_; (try clear hb); (try clear hb2); (try clear hk); (try clear hi)) | (go_at_call 9; (with_reducible refine (impl_RulesWithout.calls k _ _ t102 t109 t110 _ ?side1 ?side2 A8.out).mono ?_); (case side1 => repeat (first | exact (Kd.R_reads' HO104.out).2.2 | (with_reducible refine Kd.C_alloc ?_ _) | (with_reducible refine Kd.C_drewN ?_ _) | (with_reducible refine Kd.C_drew ?_))); (case side2 => exact (Kd.R_reads' HO104.out).2.1); rintro e w21 ⟨v111, rfl, ho0, hb⟩; have n0_ := Aside0.mk (HO104.mv hb); have n1_ := Aside0.mk (Kd.R_lower ho0 (below_size (by apply_rules only [HB.out, below_alloc, pw_below_drewN, below_drew1]))); have n2_ := Aside0.mk (HB.mv hb); clear HO104; clear HB; have HO104 := n0_; have HO112 := n1_; have HB := n2_; clear n0_ n1_ n2_; (try clear hb); (try clear hb2); (try clear hk); (try clear hi); (try clear ho0)) | (go_at_call 10; (with_reducible refine (spec_RulesWithout.calls k _ _ t102 t113 t114 _ ?side1 ?side2 A9.out).mono ?_); (case side1 => repeat (first | exact (Kd.R_reads' HO104.out).2.2 | (with_reducible refine Kd.C_alloc ?_ _) | (with_reducible refine Kd.C_drewN ?_ _) | (with_reducible refine Kd.C_drew ?_))); (case side2 => exact (Kd.R_reads' HO104.out).2.1); rintro e w22 ⟨v115, rfl, ho0, hb⟩; have n0_ := Aside0.mk (HO104.mv hb); have n1_ := Aside0.mk (Kd.R_elder' (by apply_rules only [HO112.out, Kd.R_alloc, Kd.R_drewN, Kd.R_drew]) (Kd.R_base ho0) hb); have n2_ := Aside0.mk (Kd.R_lower (Kd.R_new' ho0 (Kd.R_lt (by apply_rules only [HO112.out, Kd.R_alloc, Kd.R_drewN, Kd.R_drew]))) (below_size (by apply_rules only [HB.out, below_alloc, pw_below_drewN, below_drew1]))); have n3_ := Aside0.mk (HB.mv hb); clear HO104; clear HO112; clear HB; have HO104 := n0_; have HO112 := n1_; have HO116 := n2_; have HB := n3_; clear n0_ n1_ n2_ n3_; (try clear hb); (try clear hb2); (try clear hk); (try clear hi); (try clear ho0); obtain ⟨Ao23, co23, eo23⟩ := Kd.R_slice HO112.out; subst eo23; obtain ⟨Ao24, co24, eo24⟩ := Kd.R_slice HO116.out; subst eo24) | (go_at_call 11; (with_reducible refine (laws_tRules.calls k _ _ t109 _ _ t113 true _ ?side1 ?side2 ?side3 ?side4 A13.out).mono ?_); (case side1 => repeat (first | exact (Kd.R_reads' HO112.out).2.2 | (with_reducible refine Kd.C_alloc ?_ _) | (with_reducible refine Kd.C_drewN ?_ _) | (with_reducible refine Kd.C_drew ?_))); (case side2 => exact (Kd.R_reads' HO112.out).2.1); (case side3 => repeat (first | exact (Kd.R_reads' HO116.out).2.2 | (with_reducible refine Kd.C_alloc ?_ _) | (with_reducible refine Kd.C_drewN ?_ _) | (with_reducible refine Kd.C_drew ?_))); (case side4 => exact (Kd.R_reads' HO116.out).2.1); rintro e w' ⟨rfl, ⟨nd, rfl⟩⟩; (try first | exact ⟨rfl, _, World.drewN_drewN _ _ _⟩ | exact ⟨rfl, _, Eq.trans (World.drewN_drewN _ _ _) (congrArg (World.drewN _) (Nat.add_assoc _ _ _))⟩))); go_upto_if 97 with (first | (go_at_call 5; (with_reducible refine (laws_big.calls _ _ l0 _ _ l1 false _ ?side1 ?side2 ?side3 ?side4 A3.out).mono ?_); (case side1 => repeat (first | exact HR0.out | (with_reducible refine Kd.C_alloc ?_ _) | (with_reducible refine Kd.C_drewN ?_ _) | (with_reducible refine Kd.C_drew ?_))); (case side2 => exact HC0.out); (case side3 => repeat (first | exact HR1.out | (with_reducible refine Kd.C_alloc ?_ _) | (with_reducible refine Kd.C_drewN ?_ _) | (with_reducible refine Kd.C_drew ?_))); (case side4 => exact HC1.out); rintro e w' ⟨rfl, ⟨nd, rfl⟩⟩; (try first | exact ⟨rfl, _, World.drewN_drewN _ _ _⟩ | exact ⟨rfl, _, Eq.trans (World.drewN_drewN _ _ _) (congrArg (World.drewN _) (Nat.add_assoc _ _ _))⟩)) | (go_at_call 6; (with_reducible refine (spec_DrawMostCovered.calls k _ _ l0 t102 _ ?side1 ?side2 A5.out).mono ?_); (case side1 => repeat (first | exact HR0.out | (with_reducible refine Kd.C_alloc ?_ _) | (with_reducible refine Kd.C_drewN ?_ _) | (with_reducible refine Kd.C_drew ?_))); (case side2 => exact HC0.out); rintro e w17 ⟨v103, rfl, ho0, hb⟩; have n0_ := Aside0.mk (Kd.R_lower ho0 (below_size (by apply_rules only [HB.out, below_alloc, pw_below_drewN, below_drew1]))); have n1_ := Aside0.mk (HB.mv hb); clear HB; have HO104 := n0_; have HB := n1_; clear n0_ n1_; (try clear hb); (try clear hb2); (try clear hk); (try clear hi); (try clear ho0); obtain ⟨Ao18, co18, eo18⟩ := Kd.R_slice HO104.out; subst eo18) | (go_at_call 7; (with_reducible refine (impl_MostCovered.calls k _ _ t102 t105 t106 _ ?side1 ?side2 A6.out).mono ?_); (case side1 => repeat (first | exact (Kd.R_reads' HO104.out).2.2 | (with_reducible refine Kd.C_alloc ?_ _) | (with_reducible refine Kd.C_drewN ?_ _) | (with_reducible refine Kd.C_drew ?_))); (case side2 => exact (Kd.R_reads' HO104.out).2.1); rintro e w19 ⟨rfl, hb⟩; have n0_ := Aside0.mk (HO104.mv hb); have n1_ := Aside0.mk (HB.mv hb); clear HO104; clear HB; have HO104 := n0_; have HB := n1_; clear n0_ n1_; (try clear hb); (try clear hb2); (try clear hk); (try clear hi)) | (go_at_call 8; (with_reducible refine (spec_MostCovered.calls k _ _ t102 t107 t108 _ ?side1 ?side2 A7.out).mono ?_); (case side1 => repeat (first | exact (Kd.R_reads' HO104.out).2.2 | (with_reducible refine Kd.C_alloc ?_ _) | (with_reducible refine Kd.C_drewN ?_ _) | (with_reducible refine Kd.C_drew ?_))); (case side2 => exact (Kd.R_reads' HO104.out).2.1); rintro e w20 ⟨rfl, hb⟩; have n0_ := Aside0.mk (HO104.mv hb); have n1_ := Aside0.mk (HB.mv hb); clear HO104; clear HB; have HO104 := n0_; have HB := n1_; clear n0_ n1_; (try clear hb); (try clear hb2); (try clear hk); (try clear hi)) | (go_at_call 9; (with_reducible refine (impl_RulesWithout.calls k _ _ t102 t109 t110 _ ?side1 ?side2 A8.out).mono ?_); (case side1 => repeat (first | exact (Kd.R_reads' HO104.out).2.2 | (with_reducible refine Kd.C_alloc ?_ _) | (with_reducible refine Kd.C_drewN ?_ _) | (with_reducible refine Kd.C_drew ?_))); (case side2 => exact (Kd.R_reads' HO104.out).2.1); rintro e w21 ⟨v111, rfl, ho0, hb⟩; have n0_ := Aside0.mk (HO104.mv hb); have n1_ := Aside0.mk (Kd.R_lower ho0 (below_size (by apply_rules only [HB.out, below_alloc, pw_below_drewN, below_drew1]))); have n2_ := Aside0.mk (HB.mv hb); clear HO104; clear HB; have HO104 := n0_; have HO112 := n1_; have HB := n2_; clear n0_ n1_ n2_; (try clear hb); (try clear hb2); (try clear hk); (try clear hi); (try clear ho0)) | (go_at_call 10; (with_reducible refine (spec_RulesWithout.calls k _ _ t102 t113 t114 _ ?side1 ?side2 A9.out).mono ?_); (case side1 => repeat (first | exact (Kd.R_reads' HO104.out).2.2 | (with_reducible refine Kd.C_alloc ?_ _) | (with_reducible refine Kd.C_drewN ?_ _) | (with_reducible refine Kd.C_drew ?_))); (case side2 => exact (Kd.R_reads' HO104.out).2.1); rintro e w22 ⟨v115, rfl, ho0, hb⟩; have n0_ := Aside0.mk (HO104.mv hb); have n1_ := Aside0.mk (Kd.R_elder' (by apply_rules only [HO112.out, Kd.R_alloc, Kd.R_drewN, Kd.R_drew]) (Kd.R_base ho0) hb); have n2_ := Aside0.mk (Kd.R_lower (Kd.R_new' ho0 (Kd.R_lt (by apply_rules only [HO112.out, Kd.R_alloc, Kd.R_drewN, Kd.R_drew]))) (below_size (by apply_rules only [HB.out, below_alloc, pw_below_drewN, below_drew1]))); have n3_ := Aside0.mk (HB.mv hb); clear HO104; clear HO112; clear HB; have HO104 := n0_; have HO112 := n1_; have HO116 := n2_; have HB := n3_; clear n0_ n1_ n2_ n3_; (try clear hb); (try clear hb2); (try clear hk); (try clear hi); (try clear ho0); obtain ⟨Ao23, co23, eo23⟩ := Kd.R_slice HO112.out; subst eo23; obtain ⟨Ao24, co24, eo24⟩ := Kd.R_slice HO116.out; subst eo24) | (go_at_call 11; (with_reducible refine (laws_tRules.calls k _ _ t109 _ _ t113 true _ ?side1 ?side2 ?side3 ?side4 A13.out).mono ?_); (case side1 => repeat (first | exact (Kd.R_reads' HO112.out).2.2 | (with_reducible refine Kd.C_alloc ?_ _) | (with_reducible refine Kd.C_drewN ?_ _) | (with_reducible refine Kd.C_drew ?_))); (case side2 => exact (Kd.R_reads' HO112.out).2.1); (case side3 => repeat (first | exact (Kd.R_reads' HO116.out).2.2 | (with_reducible refine Kd.C_alloc ?_ _) | (with_reducible refine Kd.C_drewN ?_ _) | (with_reducible refine Kd.C_drew ?_))); (case side4 => exact (Kd.R_reads' HO116.out).2.1); rintro e w' ⟨rfl, ⟨nd, rfl⟩⟩; (try first | exact ⟨rfl, _, World.drewN_drewN _ _ _⟩ | exact ⟨rfl, _, Eq.trans (World.drewN_drewN _ _ _) (congrArg (World.drewN _) (Nat.add_assoc _ _ _))⟩))))
       (try simp only [Act.put, List.setIfInBounds_toArray, List.set_cons_zero, List.set_cons_succ])
       go_cut [] from 1 to 0 (fun wc => ∃ (kq : Nat), Aside0 (laws_FnCoversFound.j3 kq l1 = some true) ∧ Aside0 (kq ≤ k) ∧ Aside0 (Below w.heap.size w wc))
       case first =>
        have H := HC16.out
        clear HC16
        by_cases c25 : t106 = true
        ·subst c25
         rw [if_pos rfl] at H
         replace H := Option.bind_eq_some_iff.mp H
         obtain ⟨⟨t118, t119⟩, A260, H⟩ := H
         (try dsimp only at H)
         have A26 := Aside0.mk A260
         clear A260
         replace H := Option.bind_eq_some_iff.mp H
         obtain ⟨⟨t122, t123⟩, A270, H⟩ := H
         (try dsimp only at H)
         have A27 := Aside0.mk A270
         clear A270
         replace H := Option.bind_eq_some_iff.mp H
         obtain ⟨⟨t126, t127⟩, A280, H⟩ := H
         (try dsimp only at H)
         have A28 := Aside0.mk A280
         clear A280
         replace H := Option.bind_eq_some_iff.mp H
         obtain ⟨⟨t128, t129⟩, A290, H⟩ := H
         (try dsimp only at H)
         have A29 := Aside0.mk A290
         clear A290
         have HC30 := Aside0.mk H
         clear H
         go_upto_region 15 with (first | (go_at_call 12; (with_reducible refine (impl_FirstCover.calls k _ _ t102 t105 t118 t119 _ ?side1 ?side2 A26.out).mono ?_); (case side1 => repeat (first | exact (Kd.R_reads' HO104.out).2.2 | (with_reducible refine Kd.C_alloc ?_ _) | (with_reducible refine Kd.C_drewN ?_ _) | (with_reducible refine Kd.C_drew ?_))); (case side2 => exact (Kd.R_reads' HO104.out).2.1); rintro e w31 ⟨v120, rfl, ho0, hb⟩; have n0_ := Aside0.mk (HO104.mv hb); have n1_ := Aside0.mk (Kd.R_elder' (by apply_rules only [HO112.out, Kd.R_alloc, Kd.R_drewN, Kd.R_drew]) (Kd.R_base ho0) hb); have n2_ := Aside0.mk (Kd.R_elder' (by apply_rules only [HO116.out, Kd.R_alloc, Kd.R_drewN, Kd.R_drew]) (Kd.R_base ho0) hb); have n3_ := Aside0.mk (Kd.R_lower (Kd.R_new' (Kd.R_new' ho0 (Kd.R_lt (by apply_rules only [HO112.out, Kd.R_alloc, Kd.R_drewN, Kd.R_drew]))) (Kd.R_lt (by apply_rules only [HO116.out, Kd.R_alloc, Kd.R_drewN, Kd.R_drew]))) (below_size (by apply_rules only [HB.out, below_alloc, pw_below_drewN, below_drew1]))); have n4_ := Aside0.mk (HB.mv hb); clear HO104; clear HO112; clear HO116; clear HB; have HO104 := n0_; have HO112 := n1_; have HO116 := n2_; have HO121 := n3_; have HB := n4_; clear n0_ n1_ n2_ n3_ n4_; (try clear hb); (try clear hb2); (try clear hk); (try clear hi); (try clear ho0)) | (go_at_call 12; (with_reducible refine (impl_FirstCover.calls k _ _ t102 (wrap64 (t105 + 1)) t122 t123 _ ?side1 ?side2 A27.out).mono ?_); (case side1 => repeat (first | exact (Kd.R_reads' HO104.out).2.2 | (with_reducible refine Kd.C_alloc ?_ _) | (with_reducible refine Kd.C_drewN ?_ _) | (with_reducible refine Kd.C_drew ?_))); (case side2 => exact (Kd.R_reads' HO104.out).2.1); rintro e w32 ⟨v124, rfl, ho0, hb⟩; have n0_ := Aside0.mk (HO104.mv hb); have n1_ := Aside0.mk (Kd.R_elder' (by apply_rules only [HO112.out, Kd.R_alloc, Kd.R_drewN, Kd.R_drew]) (Kd.R_base ho0) hb); have n2_ := Aside0.mk (Kd.R_elder' (by apply_rules only [HO116.out, Kd.R_alloc, Kd.R_drewN, Kd.R_drew]) (Kd.R_base ho0) hb); have n3_ := Aside0.mk (Kd.R_elder' (by apply_rules only [HO121.out, Kd.R_alloc, Kd.R_drewN, Kd.R_drew]) (Kd.R_base ho0) hb); have n4_ := Aside0.mk (Kd.R_lower (Kd.R_new' (Kd.R_new' (Kd.R_new' ho0 (Kd.R_lt (by apply_rules only [HO112.out, Kd.R_alloc, Kd.R_drewN, Kd.R_drew]))) (Kd.R_lt (by apply_rules only [HO116.out, Kd.R_alloc, Kd.R_drewN, Kd.R_drew]))) (Kd.R_lt (by apply_rules only [HO121.out, Kd.R_alloc, Kd.R_drewN, Kd.R_drew]))) (below_size (by apply_rules only [HB.out, below_alloc, pw_below_drewN, below_drew1]))); have n5_ := Aside0.mk (HB.mv hb); clear HO104; clear HO112; clear HO116; clear HO121; clear HB; have HO104 := n0_; have HO112 := n1_; have HO116 := n2_; have HO121 := n3_; have HO125 := n4_; have HB := n5_; clear n0_ n1_ n2_ n3_ n4_ n5_; (try clear hb); (try clear hb2); (try clear hk); (try clear hi); (try clear ho0)) | (go_at_call 13; (with_reducible refine (impl_CountCovers.calls k _ _ t102 t105 t126 t127 _ ?side1 ?side2 A28.out).mono ?_); (case side1 => repeat (first | exact (Kd.R_reads' HO104.out).2.2 | (with_reducible refine Kd.C_alloc ?_ _) | (with_reducible refine Kd.C_drewN ?_ _) | (with_reducible refine Kd.C_drew ?_))); (case side2 => exact (Kd.R_reads' HO104.out).2.1); rintro e w33 ⟨rfl, hb⟩; have n0_ := Aside0.mk (HO104.mv hb); have n1_ := Aside0.mk (HO112.mv hb); have n2_ := Aside0.mk (HO116.mv hb); have n3_ := Aside0.mk (HO121.mv hb); have n4_ := Aside0.mk (HO125.mv hb); have n5_ := Aside0.mk (HB.mv hb); clear HO104; clear HO112; clear HO116; clear HO121; clear HO125; clear HB; have HO104 := n0_; have HO112 := n1_; have HO116 := n2_; have HO121 := n3_; have HO125 := n4_; have HB := n5_; clear n0_ n1_ n2_ n3_ n4_ n5_; (try clear hb); (try clear hb2); (try clear hk); (try clear hi); obtain ⟨Ao34, co34, eo34⟩ := Kd.R_slice HO121.out; subst eo34) | (go_at_call 14; (with_reducible refine (impl_IsCover.calls k _ _ t118 t105 t128 t129 _ ?side1 ?side2 A29.out).mono ?_); (case side1 => repeat (first | exact (Kd.R_reads' HO121.out).2.2 | (with_reducible refine Kd.C_alloc ?_ _) | (with_reducible refine Kd.C_drewN ?_ _) | (with_reducible refine Kd.C_drew ?_))); (case side2 => exact (Kd.R_reads' HO121.out).2.1); rintro e w35 ⟨rfl, hb⟩; have n0_ := Aside0.mk (HO104.mv hb); have n1_ := Aside0.mk (HO112.mv hb); have n2_ := Aside0.mk (HO116.mv hb); have n3_ := Aside0.mk (HO121.mv hb); have n4_ := Aside0.mk (HO125.mv hb); have n5_ := Aside0.mk (HB.mv hb); clear HO104; clear HO112; clear HO116; clear HO121; clear HO125; clear HB; have HO104 := n0_; have HO112 := n1_; have HO116 := n2_; have HO121 := n3_; have HO125 := n4_; have HB := n5_; clear n0_ n1_ n2_ n3_ n4_ n5_; (try clear hb); (try clear hb2); (try clear hk); (try clear hi)))
         repeat (go_quiet (first | (go_at_call 12; (with_reducible refine (impl_FirstCover.calls k _ _ t102 t105 t118 t119 _ ?side1 ?side2 A26.out).mono ?_); (case side1 => repeat (first | exact (Kd.R_reads' HO104.out).2.2 | (with_reducible refine Kd.C_alloc ?_ _) | (with_reducible refine Kd.C_drewN ?_ _) | (with_reducible refine Kd.C_drew ?_))); (case side2 => exact (Kd.R_reads' HO104.out).2.1); rintro e w31 ⟨v120, rfl, ho0, hb⟩; have n0_ := Aside0.mk (HO104.mv hb); have n1_ := Aside0.mk (Kd.R_elder' (by apply_rules only [HO112.out, Kd.R_alloc, Kd.R_drewN, Kd.R_drew]) (Kd.R_base ho0) hb); have n2_ := Aside0.mk (Kd.R_elder' (by apply_rules only [HO116.out, Kd.R_alloc, Kd.R_drewN, Kd.R_drew]) (Kd.R_base ho0) hb); have n3_ := Aside0.mk (Kd.R_lower (Kd.R_new' (Kd.R_new' ho0 (Kd.R_lt (by apply_rules only [HO112.out, Kd.R_alloc, Kd.R_drewN, Kd.R_drew]))) (Kd.R_lt (by apply_rules only [HO116.out, Kd.R_alloc, Kd.R_drewN, Kd.R_drew]))) (below_size (by apply_rules only [HB.out, below_alloc, pw_below_drewN, below_drew1]))); have n4_ := Aside0.mk (HB.mv hb); clear HO104; clear HO112; clear HO116; clear HB; have HO104 := n0_; have HO112 := n1_; have HO116 := n2_; have HO121 := n3_; have HB := n4_; clear n0_ n1_ n2_ n3_ n4_; (try clear hb); (try clear hb2); (try clear hk); (try clear hi); (try clear ho0)) | (go_at_call 12; (with_reducible refine (impl_FirstCover.calls k _ _ t102 (wrap64 (t105 + 1)) t122 t123 _ ?side1 ?side2 A27.out).mono ?_); (case side1 => repeat (first | exact (Kd.R_reads' HO104.out).2.2 | (with_reducible refine Kd.C_alloc ?_ _) | (with_reducible refine Kd.C_drewN ?_ _) | (with_reducible refine Kd.C_drew ?_))); (case side2 => exact (Kd.R_reads' HO104.out).2.1); rintro e w32 ⟨v124, rfl, ho0, hb⟩; have n0_ := Aside0.mk (HO104.mv hb); have n1_ := Aside0.mk (Kd.R_elder' (by apply_rules only [HO112.out, Kd.R_alloc, Kd.R_drewN, Kd.R_drew]) (Kd.R_base ho0) hb); have n2_ := Aside0.mk (Kd.R_elder' (by apply_rules only [HO116.out, Kd.R_alloc, Kd.R_drewN, Kd.R_drew]) (Kd.R_base ho0) hb); have n3_ := Aside0.mk (Kd.R_elder' (by apply_rules only [HO121.out, Kd.R_alloc, Kd.R_drewN, Kd.R_drew]) (Kd.R_base ho0) hb); have n4_ := Aside0.mk (Kd.R_lower (Kd.R_new' (Kd.R_new' (Kd.R_new' ho0 (Kd.R_lt (by apply_rules only [HO112.out, Kd.R_alloc, Kd.R_drewN, Kd.R_drew]))) (Kd.R_lt (by apply_rules only [HO116.out, Kd.R_alloc, Kd.R_drewN, Kd.R_drew]))) (Kd.R_lt (by apply_rules only [HO121.out, Kd.R_alloc, Kd.R_drewN, Kd.R_drew]))) (below_size (by apply_rules only [HB.out, below_alloc, pw_below_drewN, below_drew1]))); have n5_ := Aside0.mk (HB.mv hb); clear HO104; clear HO112; clear HO116; clear HO121; clear HB; have HO104 := n0_; have HO112 := n1_; have HO116 := n2_; have HO121 := n3_; have HO125 := n4_; have HB := n5_; clear n0_ n1_ n2_ n3_ n4_ n5_; (try clear hb); (try clear hb2); (try clear hk); (try clear hi); (try clear ho0)) | (go_at_call 13; (with_reducible refine (impl_CountCovers.calls k _ _ t102 t105 t126 t127 _ ?side1 ?side2 A28.out).mono ?_); (case side1 => repeat (first | exact (Kd.R_reads' HO104.out).2.2 | (with_reducible refine Kd.C_alloc ?_ _) | (with_reducible refine Kd.C_drewN ?_ _) | (with_reducible refine Kd.C_drew ?_))); (case side2 => exact (Kd.R_reads' HO104.out).2.1); rintro e w33 ⟨rfl, hb⟩; have n0_ := Aside0.mk (HO104.mv hb); have n1_ := Aside0.mk (HO112.mv hb); have n2_ := Aside0.mk (HO116.mv hb); have n3_ := Aside0.mk (HO121.mv hb); have n4_ := Aside0.mk (HO125.mv hb); have n5_ := Aside0.mk (HB.mv hb); clear HO104; clear HO112; clear HO116; clear HO121; clear HO125; clear HB; have HO104 := n0_; have HO112 := n1_; have HO116 := n2_; have HO121 := n3_; have HO125 := n4_; have HB := n5_; clear n0_ n1_ n2_ n3_ n4_ n5_; (try clear hb); (try clear hb2); (try clear hk); (try clear hi); obtain ⟨Ao34, co34, eo34⟩ := Kd.R_slice HO121.out; subst eo34) | (go_at_call 14; (with_reducible refine (impl_IsCover.calls k _ _ t118 t105 t128 t129 _ ?side1 ?side2 A29.out).mono ?_); (case side1 => repeat (first | exact (Kd.R_reads' HO121.out).2.2 | (with_reducible refine Kd.C_alloc ?_ _) | (with_reducible refine Kd.C_drewN ?_ _) | (with_reducible refine Kd.C_drew ?_))); (case side2 => exact (Kd.R_reads' HO121.out).2.1); rintro e w35 ⟨rfl, hb⟩; have n0_ := Aside0.mk (HO104.mv hb); have n1_ := Aside0.mk (HO112.mv hb); have n2_ := Aside0.mk (HO116.mv hb); have n3_ := Aside0.mk (HO121.mv hb); have n4_ := Aside0.mk (HO125.mv hb); have n5_ := Aside0.mk (HB.mv hb); clear HO104; clear HO112; clear HO116; clear HO121; clear HO125; clear HB; have HO104 := n0_; have HO112 := n1_; have HO116 := n2_; have HO121 := n3_; have HO125 := n4_; have HB := n5_; clear n0_ n1_ n2_ n3_ n4_ n5_; (try clear hb); (try clear hb2); (try clear hk); (try clear hi))); go_upto_region 15 with (first | (go_at_call 12; (with_reducible refine (impl_FirstCover.calls k _ _ t102 t105 t118 t119 _ ?side1 ?side2 A26.out).mono ?_); (case side1 => repeat (first | exact (Kd.R_reads' HO104.out).2.2 | (with_reducible refine Kd.C_alloc ?_ _) | (with_reducible refine Kd.C_drewN ?_ _) | (with_reducible refine Kd.C_drew ?_))); (case side2 => exact (Kd.R_reads' HO104.out).2.1); rintro e w31 ⟨v120, rfl, ho0, hb⟩; have n0_ := Aside0.mk (HO104.mv hb); have n1_ := Aside0.mk (Kd.R_elder' (by apply_rules only [HO112.out, Kd.R_alloc, Kd.R_drewN, Kd.R_drew]) (Kd.R_base ho0) hb); have n2_ := Aside0.mk (Kd.R_elder' (by apply_rules only [HO116.out, Kd.R_alloc, Kd.R_drewN, Kd.R_drew]) (Kd.R_base ho0) hb); have n3_ := Aside0.mk (Kd.R_lower (Kd.R_new' (Kd.R_new' ho0 (Kd.R_lt (by apply_rules only [HO112.out, Kd.R_alloc, Kd.R_drewN, Kd.R_drew]))) (Kd.R_lt (by apply_rules only [HO116.out, Kd.R_alloc, Kd.R_drewN, Kd.R_drew]))) (below_size (by apply_rules only [HB.out, below_alloc, pw_below_drewN, below_drew1]))); have n4_ := Aside0.mk (HB.mv hb); clear HO104; clear HO112; clear HO116; clear HB; have HO104 := n0_; have HO112 := n1_; have HO116 := n2_; have HO121 := n3_; have HB := n4_; clear n0_ n1_ n2_ n3_ n4_; (try clear hb); (try clear hb2); (try clear hk); (try clear hi); (try clear ho0)) | (go_at_call 12; (with_reducible refine (impl_FirstCover.calls k _ _ t102 (wrap64 (t105 + 1)) t122 t123 _ ?side1 ?side2 A27.out).mono ?_); (case side1 => repeat (first | exact (Kd.R_reads' HO104.out).2.2 | (with_reducible refine Kd.C_alloc ?_ _) | (with_reducible refine Kd.C_drewN ?_ _) | (with_reducible refine Kd.C_drew ?_))); (case side2 => exact (Kd.R_reads' HO104.out).2.1); rintro e w32 ⟨v124, rfl, ho0, hb⟩; have n0_ := Aside0.mk (HO104.mv hb); have n1_ := Aside0.mk (Kd.R_elder' (by apply_rules only [HO112.out, Kd.R_alloc, Kd.R_drewN, Kd.R_drew]) (Kd.R_base ho0) hb); have n2_ := Aside0.mk (Kd.R_elder' (by apply_rules only [HO116.out, Kd.R_alloc, Kd.R_drewN, Kd.R_drew]) (Kd.R_base ho0) hb); have n3_ := Aside0.mk (Kd.R_elder' (by apply_rules only [HO121.out, Kd.R_alloc, Kd.R_drewN, Kd.R_drew]) (Kd.R_base ho0) hb); have n4_ := Aside0.mk (Kd.R_lower (Kd.R_new' (Kd.R_new' (Kd.R_new' ho0 (Kd.R_lt (by apply_rules only [HO112.out, Kd.R_alloc, Kd.R_drewN, Kd.R_drew]))) (Kd.R_lt (by apply_rules only [HO116.out, Kd.R_alloc, Kd.R_drewN, Kd.R_drew]))) (Kd.R_lt (by apply_rules only [HO121.out, Kd.R_alloc, Kd.R_drewN, Kd.R_drew]))) (below_size (by apply_rules only [HB.out, below_alloc, pw_below_drewN, below_drew1]))); have n5_ := Aside0.mk (HB.mv hb); clear HO104; clear HO112; clear HO116; clear HO121; clear HB; have HO104 := n0_; have HO112 := n1_; have HO116 := n2_; have HO121 := n3_; have HO125 := n4_; have HB := n5_; clear n0_ n1_ n2_ n3_ n4_ n5_; (try clear hb); (try clear hb2); (try clear hk); (try clear hi); (try clear ho0)) | (go_at_call 13; (with_reducible refine (impl_CountCovers.calls k _ _ t102 t105 t126 t127 _ ?side1 ?side2 A28.out).mono ?_); (case side1 => repeat (first | exact (Kd.R_reads' HO104.out).2.2 | (with_reducible refine Kd.C_alloc ?_ _) | (with_reducible refine Kd.C_drewN ?_ _) | (with_reducible refine Kd.C_drew ?_))); (case side2 => exact (Kd.R_reads' HO104.out).2.1); rintro e w33 ⟨rfl, hb⟩; have n0_ := Aside0.mk (HO104.mv hb); have n1_ := Aside0.mk (HO112.mv hb); have n2_ := Aside0.mk (HO116.mv hb); have n3_ := Aside0.mk (HO121.mv hb); have n4_ := Aside0.mk (HO125.mv hb); have n5_ := Aside0.mk (HB.mv hb); clear HO104; clear HO112; clear HO116; clear HO121; clear HO125; clear HB; have HO104 := n0_; have HO112 := n1_; have HO116 := n2_; have HO121 := n3_; have HO125 := n4_; have HB := n5_; clear n0_ n1_ n2_ n3_ n4_ n5_; (try clear hb); (try clear hb2); (try clear hk); (try clear hi); obtain ⟨Ao34, co34, eo34⟩ := Kd.R_slice HO121.out; subst eo34) | (go_at_call 14; (with_reducible refine (impl_IsCover.calls k _ _ t118 t105 t128 t129 _ ?side1 ?side2 A29.out).mono ?_); (case side1 => repeat (first | exact (Kd.R_reads' HO121.out).2.2 | (with_reducible refine Kd.C_alloc ?_ _) | (with_reducible refine Kd.C_drewN ?_ _) | (with_reducible refine Kd.C_drew ?_))); (case side2 => exact (Kd.R_reads' HO121.out).2.1); rintro e w35 ⟨rfl, hb⟩; have n0_ := Aside0.mk (HO104.mv hb); have n1_ := Aside0.mk (HO112.mv hb); have n2_ := Aside0.mk (HO116.mv hb); have n3_ := Aside0.mk (HO121.mv hb); have n4_ := Aside0.mk (HO125.mv hb); have n5_ := Aside0.mk (HB.mv hb); clear HO104; clear HO112; clear HO116; clear HO121; clear HO125; clear HB; have HO104 := n0_; have HO112 := n1_; have HO116 := n2_; have HO121 := n3_; have HO125 := n4_; have HB := n5_; clear n0_ n1_ n2_ n3_ n4_ n5_; (try clear hb); (try clear hb2); (try clear hk); (try clear hi))))
         (try simp only [Act.put, List.setIfInBounds_toArray, List.set_cons_zero, List.set_cons_succ])
         go_cut [154] from 98 to 154 (fun v154 wc => ∃ (kq : Nat) (x154_29 : Bool), v154 = .bool x154_29 ∧ Aside0 (laws_FnCoversFound.j0 kq l1 t102 t105 t109 t118 x154_29 = some true) ∧ Aside0 (kq ≤ k) ∧ Aside0 (Kd.R (Kd.int .i64) 3 wc w.heap.size (fun _ => True) (.slice Ao18 t102.length co18) t102) ∧ Aside0 (Kd.R kRule 38 wc w.heap.size (fun k_ => some k_ ≠ ((.slice Ao34 t118.length co34) : Value).ownBlock) (.slice Ao23 t109.length co23) t109) ∧ Aside0 (Kd.R kRule 38 wc w.heap.size (fun k_ => some k_ ≠ ((.slice Ao23 t109.length co23) : Value).ownBlock) (.slice Ao34 t118.length co34) t118) ∧ Aside0 (Below w.heap.size w wc))
         case first =>
          have H := HC30.out
          clear HC30
          by_cases c36 : t119 = true
          ·subst c36
           rw [if_pos rfl] at H
           by_cases c37 : t105 < 40
           ·rw [if_pos c37] at H
            have c37b0 : decide (t105 < 40) = true := decide_eq_true c37
            clear c37
            (first | rw [c37b0] | rw [c37b1] | (simp only [i64_w, i32_w]; rw [c37b0]) | skip)
            by_cases c38 : t123 = true
            ·subst c38
             rw [if_pos rfl] at H
             exact absurd H (by simp)
            ·replace c38 := Bool.eq_false_iff.mpr c38
             subst c38
             rw [if_neg (show ¬ (false = true) by decide)] at H
             by_cases c39 : t127 = true
             ·subst c39
              rw [if_pos rfl] at H
              by_cases c40 : t126 < 1
              ·rw [if_pos c40] at H
               have c40b0 : decide (t126 < 1) = true := decide_eq_true c40
               clear c40
               exact absurd H (by simp)
              ·rw [if_neg c40] at H
               have c40b0 : decide (t126 < 1) = false := decide_eq_false c40
               clear c40
               by_cases c41 : t129 = true
               ·subst c41
                rw [if_pos rfl] at H
                by_cases c42 : t128 = true
                ·subst c42
                 rw [if_pos rfl] at H
                 have H' := Aside0.mk H
                 clear H
                 go_wp2
                 repeat (go_quiet (fail); try go_wp2)
                 go_meet
                 case rel => exact ⟨_, (((t109.length : Int) != (t102.length : Int))), (by first | rfl | (simp; done) | (simp [*]; done)), H', ⟨by first | omega | exact Nat.le_refl _⟩, ⟨by apply_rules only [HO104.out, Kd.R_alloc, Kd.R_drewN, Kd.R_drew]⟩, ⟨by (with_reducible repeat (first | apply Kd.R_alloc | apply Kd.R_drewN | apply Kd.R_drew)); exact Kd.R_mono HO112.out (fun _ hk => hk.1.2)⟩, ⟨by (with_reducible repeat (first | apply Kd.R_alloc | apply Kd.R_drewN | apply Kd.R_drew)); exact Kd.R_mono HO121.out (fun _ hk => hk.1.1.2)⟩, ⟨by apply_rules only [HB.out, below_alloc, pw_below_drewN, below_drew1]⟩⟩
                ·replace c42 := Bool.eq_false_iff.mpr c42
                 subst c42
                 rw [if_neg (show ¬ (false = true) by decide)] at H
                 exact absurd H (by simp)
               ·replace c41 := Bool.eq_false_iff.mpr c41
                subst c41
                rw [if_neg (show ¬ (false = true) by decide)] at H
                exact absurd H (by simp)
             ·replace c39 := Bool.eq_false_iff.mpr c39
              subst c39
              rw [if_neg (show ¬ (false = true) by decide)] at H
              exact absurd H (by simp)
           ·rw [if_neg c37] at H
            have c37b0 : decide (t105 < 40) = false := decide_eq_false c37
            clear c37
            (first | rw [c37b0] | rw [c37b1] | (simp only [i64_w, i32_w]; rw [c37b0]) | skip)
            by_cases c43 : t127 = true
            ·subst c43
             rw [if_pos rfl] at H
             by_cases c44 : t126 < 1
             ·rw [if_pos c44] at H
              have c44b0 : decide (t126 < 1) = true := decide_eq_true c44
              clear c44
              exact absurd H (by simp)
             ·rw [if_neg c44] at H
              have c44b0 : decide (t126 < 1) = false := decide_eq_false c44
              clear c44
              by_cases c45 : t129 = true
              ·subst c45
               rw [if_pos rfl] at H
               by_cases c46 : t128 = true
               ·subst c46
                rw [if_pos rfl] at H
                have H' := Aside0.mk H
                clear H
                go_wp2
                repeat (go_quiet (fail); try go_wp2)
                go_meet
                case rel => exact ⟨_, (((t109.length : Int) != (t102.length : Int))), (by first | rfl | (simp; done) | (simp [*]; done)), H', ⟨by first | omega | exact Nat.le_refl _⟩, ⟨by apply_rules only [HO104.out, Kd.R_alloc, Kd.R_drewN, Kd.R_drew]⟩, ⟨by (with_reducible repeat (first | apply Kd.R_alloc | apply Kd.R_drewN | apply Kd.R_drew)); exact Kd.R_mono HO112.out (fun _ hk => hk.1.2)⟩, ⟨by (with_reducible repeat (first | apply Kd.R_alloc | apply Kd.R_drewN | apply Kd.R_drew)); exact Kd.R_mono HO121.out (fun _ hk => hk.1.1.2)⟩, ⟨by apply_rules only [HB.out, below_alloc, pw_below_drewN, below_drew1]⟩⟩
               ·replace c46 := Bool.eq_false_iff.mpr c46
                subst c46
                rw [if_neg (show ¬ (false = true) by decide)] at H
                exact absurd H (by simp)
              ·replace c45 := Bool.eq_false_iff.mpr c45
               subst c45
               rw [if_neg (show ¬ (false = true) by decide)] at H
               exact absurd H (by simp)
            ·replace c43 := Bool.eq_false_iff.mpr c43
             subst c43
             rw [if_neg (show ¬ (false = true) by decide)] at H
             exact absurd H (by simp)
          ·replace c36 := Bool.eq_false_iff.mpr c36
           subst c36
           rw [if_neg (show ¬ (false = true) by decide)] at H
           exact absurd H (by simp)
         case rest =>
          clear HC30
          (try clear c4); (try clear c10); (try clear c10b0); (try clear c10b1); (try clear c10b2); (try clear c11); (try clear c11b0); (try clear c11b1); (try clear c12); (try clear c12b0); (try clear c12b1); (try clear c12b2); (try clear c14); (try clear c15); (try clear c15b0); (try clear c15b1); (try clear c15b2); (try clear c25)
          obtain ⟨kq, x154_29, rfl, HA, HJ29, HO_5, HO_10, HO_14, HB⟩ := hcut
          cases kq with
          | zero => exact absurd HA.out (by simp [laws_FnCoversFound.j0])
          | succ kj29 =>
           have H := HA.out
           clear HA
           simp only [laws_FnCoversFound.j0] at H
           by_cases c47 : x154_29 = true
           ·subst c47
            rw [if_pos rfl] at H
            exact absurd H (by simp)
           ·replace c47 := Bool.eq_false_iff.mpr c47
            subst c47
            rw [if_neg (show ¬ (false = true) by decide)] at H
            have HC48 := Aside0.mk H
            clear H
            go_upto_if 157 with (fail)
            repeat (go_quiet (fail); go_upto_if 157 with (fail))
            go_cut [] from 155 to 157 (fun wc => ∃ (kq : Nat), Aside0 (laws_FnCoversFound.j1 kq l1 t102 t109 t118 = some true) ∧ Aside0 (kq ≤ kj29) ∧ Aside0 (Kd.R (Kd.int .i64) 3 wc w.heap.size (fun _ => True) (.slice Ao18 t102.length co18) t102) ∧ Aside0 (Kd.R kRule 38 wc w.heap.size (fun k_ => some k_ ≠ ((.slice Ao34 t118.length co34) : Value).ownBlock) (.slice Ao23 t109.length co23) t109) ∧ Aside0 (Kd.R kRule 38 wc w.heap.size (fun k_ => some k_ ≠ ((.slice Ao23 t109.length co23) : Value).ownBlock) (.slice Ao34 t118.length co34) t118) ∧ Aside0 (Below w.heap.size w wc))
            case first =>
             have H := HC48.out
             clear HC48
             by_cases c49 : (t102.length : Int) > 0
             ·rw [if_pos c49] at H
              have c49b0 : decide (0 < (t102.length : Int)) = true := decide_eq_true c49
              have c49b1 : decide (0 < t102.length) = true := decide_eq_true (by omega)
              clear c49
              (first | rw [c49b0] | rw [c49b1] | (simp only [i64_w, i32_w]; rw [c49b0]) | skip)
              replace H := Option.bind_eq_some_iff.mp H
              obtain ⟨⟨t130, t131⟩, A500, H⟩ := H
              (try dsimp only at H)
              have A50 := Aside0.mk A500
              clear A500
              by_cases c51 : t131 = true
              ·subst c51
               rw [if_pos rfl] at H
               by_cases c52 : t130 = t105
               ·rw [if_pos c52] at H
                have c52b0 : (t130 == t105) = true := beq_iff_eq.mpr c52
                have c52b1 : (t130 != t105) = false := bne_eq_false_iff_eq.mpr c52
                clear c52
                have H' := Aside0.mk H
                clear H
                go_wp2_with (first | (go_at_call 15; (with_reducible refine (impl_LongestRunOut.calls kj29 _ _ t109 t130 true _ ?side1 ?side2 A50.out).mono ?_); (case side1 => repeat (first | exact (Kd.R_reads' HO_10.out).2.2 | (with_reducible refine Kd.C_alloc ?_ _) | (with_reducible refine Kd.C_drewN ?_ _) | (with_reducible refine Kd.C_drew ?_))); (case side2 => exact (Kd.R_reads' HO_10.out).2.1); rintro e w53 ⟨rfl, hb⟩; have n0_ := Aside0.mk (HO_5.mv hb); have n1_ := Aside0.mk (HO_10.mv hb); have n2_ := Aside0.mk (HO_14.mv hb); have n3_ := Aside0.mk (HB.mv hb); clear HO_5; clear HO_10; clear HO_14; clear HB; have HO_5 := n0_; have HO_10 := n1_; have HO_14 := n2_; have HB := n3_; clear n0_ n1_ n2_ n3_; (try clear hb); (try clear hb2); (try clear hk); (try clear hi)))
                repeat (go_quiet (first | (go_at_call 15; (with_reducible refine (impl_LongestRunOut.calls kj29 _ _ t109 t130 true _ ?side1 ?side2 A50.out).mono ?_); (case side1 => repeat (first | exact (Kd.R_reads' HO_10.out).2.2 | (with_reducible refine Kd.C_alloc ?_ _) | (with_reducible refine Kd.C_drewN ?_ _) | (with_reducible refine Kd.C_drew ?_))); (case side2 => exact (Kd.R_reads' HO_10.out).2.1); rintro e w53 ⟨rfl, hb⟩; have n0_ := Aside0.mk (HO_5.mv hb); have n1_ := Aside0.mk (HO_10.mv hb); have n2_ := Aside0.mk (HO_14.mv hb); have n3_ := Aside0.mk (HB.mv hb); clear HO_5; clear HO_10; clear HO_14; clear HB; have HO_5 := n0_; have HO_10 := n1_; have HO_14 := n2_; have HB := n3_; clear n0_ n1_ n2_ n3_; (try clear hb); (try clear hb2); (try clear hk); (try clear hi))); try go_wp2_with (first | (go_at_call 15; (with_reducible refine (impl_LongestRunOut.calls kj29 _ _ t109 t130 true _ ?side1 ?side2 A50.out).mono ?_); (case side1 => repeat (first | exact (Kd.R_reads' HO_10.out).2.2 | (with_reducible refine Kd.C_alloc ?_ _) | (with_reducible refine Kd.C_drewN ?_ _) | (with_reducible refine Kd.C_drew ?_))); (case side2 => exact (Kd.R_reads' HO_10.out).2.1); rintro e w53 ⟨rfl, hb⟩; have n0_ := Aside0.mk (HO_5.mv hb); have n1_ := Aside0.mk (HO_10.mv hb); have n2_ := Aside0.mk (HO_14.mv hb); have n3_ := Aside0.mk (HB.mv hb); clear HO_5; clear HO_10; clear HO_14; clear HB; have HO_5 := n0_; have HO_10 := n1_; have HO_14 := n2_; have HB := n3_; clear n0_ n1_ n2_ n3_; (try clear hb); (try clear hb2); (try clear hk); (try clear hi))))
                go_meet
                case rel => exact ⟨_, H', ⟨by have := HJ29.out; first | omega | exact Nat.le_refl _⟩, ⟨by apply_rules only [HO_5.out, Kd.R_alloc, Kd.R_drewN, Kd.R_drew]⟩, ⟨by apply_rules only [HO_10.out, Kd.R_alloc, Kd.R_drewN, Kd.R_drew]⟩, ⟨by apply_rules only [HO_14.out, Kd.R_alloc, Kd.R_drewN, Kd.R_drew]⟩, ⟨by apply_rules only [HB.out, below_alloc, pw_below_drewN, below_drew1]⟩⟩
               ·rw [if_neg c52] at H
                have c52b0 : (t130 == t105) = false := beq_eq_false_iff_ne.mpr c52
                have c52b1 : (t130 != t105) = true := bne_iff_ne.mpr c52
                exact absurd H (by simp)
              ·replace c51 := Bool.eq_false_iff.mpr c51
               subst c51
               rw [if_neg (show ¬ (false = true) by decide)] at H
               exact absurd H (by simp)
             ·rw [if_neg c49] at H
              have c49b0 : decide (0 < (t102.length : Int)) = false := decide_eq_false c49
              have c49b1 : decide (0 < t102.length) = false := decide_eq_false (by omega)
              clear c49
              (first | rw [c49b0] | rw [c49b1] | (simp only [i64_w, i32_w]; rw [c49b0]) | skip)
              by_cases c54 : t105 = 0
              ·rw [if_pos c54] at H
               have c54b0 : (t105 == 0) = true := beq_iff_eq.mpr c54
               have c54b1 : (t105 != 0) = false := bne_eq_false_iff_eq.mpr c54
               clear c54
               have H' := Aside0.mk H
               clear H
               go_wp2
               repeat (go_quiet (fail); try go_wp2)
               go_meet
               case rel => exact ⟨_, H', ⟨by have := HJ29.out; first | omega | exact Nat.le_refl _⟩, ⟨by apply_rules only [HO_5.out, Kd.R_alloc, Kd.R_drewN, Kd.R_drew]⟩, ⟨by apply_rules only [HO_10.out, Kd.R_alloc, Kd.R_drewN, Kd.R_drew]⟩, ⟨by apply_rules only [HO_14.out, Kd.R_alloc, Kd.R_drewN, Kd.R_drew]⟩, ⟨by apply_rules only [HB.out, below_alloc, pw_below_drewN, below_drew1]⟩⟩
              ·rw [if_neg c54] at H
               have c54b0 : (t105 == 0) = false := beq_eq_false_iff_ne.mpr c54
               have c54b1 : (t105 != 0) = true := bne_iff_ne.mpr c54
               exact absurd H (by simp)
            case rest =>
             clear HC48
             (try clear c4); (try clear c10); (try clear c10b0); (try clear c10b1); (try clear c10b2); (try clear c11); (try clear c11b0); (try clear c11b1); (try clear c12); (try clear c12b0); (try clear c12b1); (try clear c12b2); (try clear c14); (try clear c15); (try clear c15b0); (try clear c15b1); (try clear c15b2); (try clear c25); (try clear c47)
             obtain ⟨kq, HA, HJ47, HO_5, HO_10, HO_14, HB⟩ := hcut
             cases kq with
             | zero => exact absurd HA.out (by simp [laws_FnCoversFound.j1])
             | succ kj47 =>
              have H := HA.out
              clear HA
              simp only [laws_FnCoversFound.j1] at H
              have H' := Aside0.mk H
              clear H
              go_wp2
              repeat (go_quiet (fail); try go_wp2)
              go_loopg [174] kj47 (fun kq v174 w' => ∃ (x174_3 : Int), v174 = .int .i64 x174_3 ∧ Aside0 (laws_FnCoversFound.l0 kq l1 t102 t109 t118 (t118.length : Int) x174_3 = some true) ∧ Aside0 (kq ≤ kj47) ∧ Aside0 (Kd.R (Kd.int .i64) 3 w' w.heap.size (fun _ => True) (.slice Ao18 t102.length co18) t102) ∧ Aside0 (Kd.R kRule 38 w' w.heap.size (fun k_ => some k_ ≠ ((.slice Ao34 t118.length co34) : Value).ownBlock) (.slice Ao23 t109.length co23) t109) ∧ Aside0 (Kd.R kRule 38 w' w.heap.size (fun k_ => some k_ ≠ ((.slice Ao23 t109.length co23) : Value).ownBlock) (.slice Ao34 t118.length co34) t118) ∧ Aside0 (Below w.heap.size w w'))
              case atStart => exact ⟨(0), (by first | rfl | (simp; done) | (simp [*]; done)), H', ⟨Nat.le_refl _⟩, ⟨by apply_rules only [HO_5.out, Kd.R_alloc, Kd.R_drewN, Kd.R_drew]⟩, ⟨by apply_rules only [HO_10.out, Kd.R_alloc, Kd.R_drewN, Kd.R_drew]⟩, ⟨by apply_rules only [HO_14.out, Kd.R_alloc, Kd.R_drewN, Kd.R_drew]⟩, ⟨by apply_rules only [HB.out, below_alloc, pw_below_drewN, below_drew1]⟩⟩
              case round =>
               clear H'
               (try clear c4); (try clear c10); (try clear c10b0); (try clear c10b1); (try clear c10b2); (try clear c11); (try clear c11b0); (try clear c11b1); (try clear c12); (try clear c12b0); (try clear c12b1); (try clear c12b2); (try clear c14); (try clear c15); (try clear c15b0); (try clear c15b1); (try clear c15b2); (try clear c25); (try clear c47)
               obtain ⟨x174_3, rfl, HA, HK3, HO_5, HO_10, HO_172, HB⟩ := hrel
               cases gk with
               | zero => exact absurd HA.out (by simp [laws_FnCoversFound.l0])
               | succ k3 =>
                have H := HA.out
                clear HA
                simp only [laws_FnCoversFound.l0] at H
                by_cases c55 : x174_3 < (t118.length : Int)
                ·rw [if_pos c55] at H
                 have c55b0 : decide (x174_3 < (t118.length : Int)) = true := decide_eq_true c55
                 clear c55
                 by_cases c56 : 0 ≤ x174_3
                 ·rw [if_pos c56] at H
                  have c56b0 : decide (0 ≤ x174_3) = true := decide_eq_true c56
                  clear c56
                  by_cases c57 : x174_3 < (t118.length : Int)
                  ·rw [if_pos c57] at H
                   have c57b0 : decide (x174_3 < (t118.length : Int)) = true := decide_eq_true c57
                   clear c57
                   by_cases c58 : x174_3 < (t102.length : Int)
                   ·rw [if_pos c58] at H
                    have c58b0 : decide (x174_3 < (t102.length : Int)) = true := decide_eq_true c58
                    clear c58
                    by_cases c59 : ((rd_Rule t118 x174_3).f0) = (rd t102 x174_3)
                    ·rw [if_pos c59] at H
                     have c59b0 : (((rd_Rule t118 x174_3).f0) == (rd t102 x174_3)) = true := beq_iff_eq.mpr c59
                     have c59b1 : (((rd_Rule t118 x174_3).f0) != (rd t102 x174_3)) = false := bne_eq_false_iff_eq.mpr c59
                     clear c59
                     by_cases c60 : x174_3 < (t109.length : Int)
                     ·rw [if_pos c60] at H
                      have c60b0 : decide (x174_3 < (t109.length : Int)) = true := decide_eq_true c60
                      clear c60
                      by_cases c61 : ((rd_Rule t109 x174_3).f0) = (rd t102 x174_3)
                      ·rw [if_pos c61] at H
                       have c61b0 : (((rd_Rule t109 x174_3).f0) == (rd t102 x174_3)) = true := beq_iff_eq.mpr c61
                       have c61b1 : (((rd_Rule t109 x174_3).f0) != (rd t102 x174_3)) = false := bne_eq_false_iff_eq.mpr c61
                       clear c61
                       by_cases c62 : ((rd_Rule t109 x174_3).f1) = 0
                       ·rw [if_pos c62] at H
                        have c62b0 : (((rd_Rule t109 x174_3).f1) == 0) = true := beq_iff_eq.mpr c62
                        have c62b1 : (((rd_Rule t109 x174_3).f1) != 0) = false := bne_eq_false_iff_eq.mpr c62
                        clear c62
                        have H' := Aside0.mk H
                        clear H
                        have p132 : 0 ≤ (x174_3 : Int) := of_decide_eq_true (by first | (with_reducible assumption) | assumption)
                        have q132 : x174_3 < (t118.length : Int) := of_decide_eq_true (by first | (with_reducible assumption) | assumption)
                        obtain ⟨ad132, e132, hx132_0, hx132_1⟩ := at_Rule (Kd.R_reads' HO_172.out).2.2 x174_3 p132 q132
                        cases e132
                        replace p132 := eq_true p132
                        replace q132 := eq_true q132
                        go_wp2_with (first | ((with_reducible refine gate_dst (N := 25) rfl ?_); (try (refine gate_guard (by rfl) ?_; dsimp only)); refine box_event ?hg (N := 25) ?hd (cs := #[.int .i64 0, .int .i64 0]) (t := 38) ?hr ?_; (case hd => rfl); (case hg => rfl); (case hr => first | (go_simp; done) | (go_simp; rfl)); intro gb133 hg w63 hbox hb; have n0_ := Aside0.mk (HO_5.mv hb); have n1_ := Aside0.mk (Kd.R_below (Kd.R_elderB (by apply_rules only [HO_10.out, Kd.R_alloc, Kd.R_drewN, Kd.R_drew]) gb133 (Nat.le_of_eq hg.symm)) hb); have n2_ := Aside0.mk (Kd.R_below (Kd.R_elderB (by apply_rules only [HO_172.out, Kd.R_alloc, Kd.R_drewN, Kd.R_drew]) gb133 (Nat.le_of_eq hg.symm)) hb); have n3_ := Aside0.mk (HB.mv hb); have n4_ := Aside0.mk (hbox); have n5_ := Aside0.mk (HB.ge hg); have n6_ := Aside0.mk (HB.ge hg); clear HO_5; clear HO_10; clear HO_172; clear HB; have HO_5 := n0_; have HO_10 := n1_; have HO_172 := n2_; have HB := n3_; have BK133 := n4_; have GW133 := n5_; have GE133 := n6_; clear n0_ n1_ n2_ n3_ n4_ n5_ n6_; clear hb hbox hg; have hcz64_0 : w63.cell? ⟨gb133, 0, none⟩ = some (.int .i64 0) := (blk_cell BK133.out 0).trans rfl; have hcz64_1 : w63.cell? ⟨gb133, 1, none⟩ = some (.int .i64 0) := (blk_cell BK133.out 1).trans rfl; have hfz64_0 := blk_frozen BK133.out 0; have hfz64_1 := blk_frozen BK133.out 1; have p134 : 0 ≤ (x174_3 : Int) := of_decide_eq_true (by first | (with_reducible assumption) | assumption); have q134 : x174_3 < (t102.length : Int) := of_decide_eq_true (by first | (with_reducible assumption) | assumption); obtain ⟨ad134, e134, hx134_0⟩ := Kd.at_int (Kd.R_reads' HO_5.out).2.2 x174_3 p134 q134; cases e134; have hn134_0 : ad134.block ≠ gb133 := (by first | exact Kd.own_blk (Kd.R_ne HO_5.out BK133.out (by decide)) | exact Kd.own_blk (Kd.R_away HO_5.out (fun _ hk => hk.2))); have hn134_1 : ad134.block ≠ gb133 := (by first | exact Kd.own_blk (Kd.R_ne HO_5.out BK133.out (by decide)) | exact Kd.own_blk (Kd.R_away HO_5.out (fun _ hk => hk.2))); replace hx134_0 := (cell_far (p := ⟨gb133, 0, none⟩) (by first | (rw [add_block]; exact hn134_0) | (show (Addr.add _ _).block ≠ _; rw [add_block]; exact hn134_0) | exact hn134_0) (.int .i64 ((rd_Rule t118 x174_3).f0))).trans hx134_0; replace hx134_0 := (cell_far (p := ⟨gb133, 1, none⟩) (by first | (rw [add_block]; exact hn134_1) | (show (Addr.add _ _).block ≠ _; rw [add_block]; exact hn134_1) | exact hn134_1) (.int .i64 ((rd_Rule t118 x174_3).f1))).trans hx134_0; (try have hy134_0 := fun (n_ : Nat) => (show ((((w63.drewN n_).setCell ⟨gb133, 0, none⟩ (.int .i64 ((rd_Rule t118 x174_3).f0))).setCell ⟨gb133, 1, none⟩ (.int .i64 ((rd_Rule t118 x174_3).f1)))).cell? _ = some _ from hx134_0)); clear hn134_0; clear hn134_1; replace p134 := eq_true p134; replace q134 := eq_true q134; have p135 : 0 ≤ (x174_3 : Int) := of_decide_eq_true (by first | (with_reducible assumption) | assumption); have q135 : x174_3 < (t109.length : Int) := of_decide_eq_true (by first | (with_reducible assumption) | assumption); obtain ⟨ad135, e135, hx135_0, hx135_1⟩ := at_Rule (Kd.R_reads' HO_10.out).2.2 x174_3 p135 q135; cases e135; have hn135_0 : ad135.block ≠ gb133 := (by first | exact Kd.own_blk (Kd.R_ne HO_10.out BK133.out (by decide)) | exact Kd.own_blk (Kd.R_away HO_10.out (fun _ hk => hk.2))); have hn135_1 : ad135.block ≠ gb133 := (by first | exact Kd.own_blk (Kd.R_ne HO_10.out BK133.out (by decide)) | exact Kd.own_blk (Kd.R_away HO_10.out (fun _ hk => hk.2))); replace hx135_0 := (cell_far (p := ⟨gb133, 0, none⟩) (by first | (rw [add_block]; exact hn135_0) | (show (Addr.add _ _).block ≠ _; rw [add_block]; exact hn135_0) | exact hn135_0) (.int .i64 ((rd_Rule t118 x174_3).f0))).trans hx135_0; replace hx135_1 := (cell_far (p := ⟨gb133, 0, none⟩) (by first | (rw [add_block]; exact hn135_0) | (show (Addr.add _ _).block ≠ _; rw [add_block]; exact hn135_0) | exact hn135_0) (.int .i64 ((rd_Rule t118 x174_3).f0))).trans hx135_1; replace hx135_0 := (cell_far (p := ⟨gb133, 1, none⟩) (by first | (rw [add_block]; exact hn135_1) | (show (Addr.add _ _).block ≠ _; rw [add_block]; exact hn135_1) | exact hn135_1) (.int .i64 ((rd_Rule t118 x174_3).f1))).trans hx135_0; replace hx135_1 := (cell_far (p := ⟨gb133, 1, none⟩) (by first | (rw [add_block]; exact hn135_1) | (show (Addr.add _ _).block ≠ _; rw [add_block]; exact hn135_1) | exact hn135_1) (.int .i64 ((rd_Rule t118 x174_3).f1))).trans hx135_1; (try have hy135_0 := fun (n_ : Nat) => (show ((((w63.drewN n_).setCell ⟨gb133, 0, none⟩ (.int .i64 ((rd_Rule t118 x174_3).f0))).setCell ⟨gb133, 1, none⟩ (.int .i64 ((rd_Rule t118 x174_3).f1)))).cell? _ = some _ from hx135_0)); (try have hy135_1 := fun (n_ : Nat) => (show ((((w63.drewN n_).setCell ⟨gb133, 0, none⟩ (.int .i64 ((rd_Rule t118 x174_3).f0))).setCell ⟨gb133, 1, none⟩ (.int .i64 ((rd_Rule t118 x174_3).f1)))).cell? _ = some _ from hx135_1)); clear hn135_0; clear hn135_1; replace p135 := eq_true p135; replace q135 := eq_true q135; have p136 : 0 ≤ (x174_3 : Int) := of_decide_eq_true (by first | (with_reducible assumption) | assumption); have q136 : x174_3 < (t102.length : Int) := of_decide_eq_true (by first | (with_reducible assumption) | assumption); obtain ⟨ad136, e136, hx136_0⟩ := Kd.at_int (Kd.R_reads' HO_5.out).2.2 x174_3 p136 q136; obtain rfl : ad134 = ad136 := (by injection e136); have hn136_0 : ad134.block ≠ gb133 := (by first | exact Kd.own_blk (Kd.R_ne HO_5.out BK133.out (by decide)) | exact Kd.own_blk (Kd.R_away HO_5.out (fun _ hk => hk.2))); have hn136_1 : ad134.block ≠ gb133 := (by first | exact Kd.own_blk (Kd.R_ne HO_5.out BK133.out (by decide)) | exact Kd.own_blk (Kd.R_away HO_5.out (fun _ hk => hk.2))); replace hx136_0 := (cell_far (p := ⟨gb133, 0, none⟩) (by first | (rw [add_block]; exact hn136_0) | (show (Addr.add _ _).block ≠ _; rw [add_block]; exact hn136_0) | exact hn136_0) (.int .i64 ((rd_Rule t118 x174_3).f0))).trans hx136_0; replace hx136_0 := (cell_far (p := ⟨gb133, 1, none⟩) (by first | (rw [add_block]; exact hn136_1) | (show (Addr.add _ _).block ≠ _; rw [add_block]; exact hn136_1) | exact hn136_1) (.int .i64 ((rd_Rule t118 x174_3).f1))).trans hx136_0; (try have hy136_0 := fun (n_ : Nat) => (show ((((w63.drewN n_).setCell ⟨gb133, 0, none⟩ (.int .i64 ((rd_Rule t118 x174_3).f0))).setCell ⟨gb133, 1, none⟩ (.int .i64 ((rd_Rule t118 x174_3).f1)))).cell? _ = some _ from hx136_0)); clear hn136_0; clear hn136_1; replace p136 := eq_true p136; replace q136 := eq_true q136; have p137 : 0 ≤ (x174_3 : Int) := of_decide_eq_true (by first | (with_reducible assumption) | assumption); have q137 : x174_3 < (t109.length : Int) := of_decide_eq_true (by first | (with_reducible assumption) | assumption); obtain ⟨ad137, e137, hx137_0, hx137_1⟩ := at_Rule (Kd.R_reads' HO_10.out).2.2 x174_3 p137 q137; obtain rfl : ad135 = ad137 := (by injection e137); have hn137_0 : ad135.block ≠ gb133 := (by first | exact Kd.own_blk (Kd.R_ne HO_10.out BK133.out (by decide)) | exact Kd.own_blk (Kd.R_away HO_10.out (fun _ hk => hk.2))); have hn137_1 : ad135.block ≠ gb133 := (by first | exact Kd.own_blk (Kd.R_ne HO_10.out BK133.out (by decide)) | exact Kd.own_blk (Kd.R_away HO_10.out (fun _ hk => hk.2))); replace hx137_0 := (cell_far (p := ⟨gb133, 0, none⟩) (by first | (rw [add_block]; exact hn137_0) | (show (Addr.add _ _).block ≠ _; rw [add_block]; exact hn137_0) | exact hn137_0) (.int .i64 ((rd_Rule t118 x174_3).f0))).trans hx137_0; replace hx137_1 := (cell_far (p := ⟨gb133, 0, none⟩) (by first | (rw [add_block]; exact hn137_0) | (show (Addr.add _ _).block ≠ _; rw [add_block]; exact hn137_0) | exact hn137_0) (.int .i64 ((rd_Rule t118 x174_3).f0))).trans hx137_1; replace hx137_0 := (cell_far (p := ⟨gb133, 1, none⟩) (by first | (rw [add_block]; exact hn137_1) | (show (Addr.add _ _).block ≠ _; rw [add_block]; exact hn137_1) | exact hn137_1) (.int .i64 ((rd_Rule t118 x174_3).f1))).trans hx137_0; replace hx137_1 := (cell_far (p := ⟨gb133, 1, none⟩) (by first | (rw [add_block]; exact hn137_1) | (show (Addr.add _ _).block ≠ _; rw [add_block]; exact hn137_1) | exact hn137_1) (.int .i64 ((rd_Rule t118 x174_3).f1))).trans hx137_1; (try have hy137_0 := fun (n_ : Nat) => (show ((((w63.drewN n_).setCell ⟨gb133, 0, none⟩ (.int .i64 ((rd_Rule t118 x174_3).f0))).setCell ⟨gb133, 1, none⟩ (.int .i64 ((rd_Rule t118 x174_3).f1)))).cell? _ = some _ from hx137_0)); (try have hy137_1 := fun (n_ : Nat) => (show ((((w63.drewN n_).setCell ⟨gb133, 0, none⟩ (.int .i64 ((rd_Rule t118 x174_3).f0))).setCell ⟨gb133, 1, none⟩ (.int .i64 ((rd_Rule t118 x174_3).f1)))).cell? _ = some _ from hx137_1)); clear hn137_0; clear hn137_1; replace p137 := eq_true p137; replace q137 := eq_true q137))
                        repeat (go_quiet (first | ((with_reducible refine gate_dst (N := 25) rfl ?_); (try (refine gate_guard (by rfl) ?_; dsimp only)); refine box_event ?hg (N := 25) ?hd (cs := #[.int .i64 0, .int .i64 0]) (t := 38) ?hr ?_; (case hd => rfl); (case hg => rfl); (case hr => first | (go_simp; done) | (go_simp; rfl)); intro gb133 hg w63 hbox hb; have n0_ := Aside0.mk (HO_5.mv hb); have n1_ := Aside0.mk (Kd.R_below (Kd.R_elderB (by apply_rules only [HO_10.out, Kd.R_alloc, Kd.R_drewN, Kd.R_drew]) gb133 (Nat.le_of_eq hg.symm)) hb); have n2_ := Aside0.mk (Kd.R_below (Kd.R_elderB (by apply_rules only [HO_172.out, Kd.R_alloc, Kd.R_drewN, Kd.R_drew]) gb133 (Nat.le_of_eq hg.symm)) hb); have n3_ := Aside0.mk (HB.mv hb); have n4_ := Aside0.mk (hbox); have n5_ := Aside0.mk (HB.ge hg); have n6_ := Aside0.mk (HB.ge hg); clear HO_5; clear HO_10; clear HO_172; clear HB; have HO_5 := n0_; have HO_10 := n1_; have HO_172 := n2_; have HB := n3_; have BK133 := n4_; have GW133 := n5_; have GE133 := n6_; clear n0_ n1_ n2_ n3_ n4_ n5_ n6_; clear hb hbox hg; have hcz64_0 : w63.cell? ⟨gb133, 0, none⟩ = some (.int .i64 0) := (blk_cell BK133.out 0).trans rfl; have hcz64_1 : w63.cell? ⟨gb133, 1, none⟩ = some (.int .i64 0) := (blk_cell BK133.out 1).trans rfl; have hfz64_0 := blk_frozen BK133.out 0; have hfz64_1 := blk_frozen BK133.out 1; have p134 : 0 ≤ (x174_3 : Int) := of_decide_eq_true (by first | (with_reducible assumption) | assumption); have q134 : x174_3 < (t102.length : Int) := of_decide_eq_true (by first | (with_reducible assumption) | assumption); obtain ⟨ad134, e134, hx134_0⟩ := Kd.at_int (Kd.R_reads' HO_5.out).2.2 x174_3 p134 q134; cases e134; have hn134_0 : ad134.block ≠ gb133 := (by first | exact Kd.own_blk (Kd.R_ne HO_5.out BK133.out (by decide)) | exact Kd.own_blk (Kd.R_away HO_5.out (fun _ hk => hk.2))); have hn134_1 : ad134.block ≠ gb133 := (by first | exact Kd.own_blk (Kd.R_ne HO_5.out BK133.out (by decide)) | exact Kd.own_blk (Kd.R_away HO_5.out (fun _ hk => hk.2))); replace hx134_0 := (cell_far (p := ⟨gb133, 0, none⟩) (by first | (rw [add_block]; exact hn134_0) | (show (Addr.add _ _).block ≠ _; rw [add_block]; exact hn134_0) | exact hn134_0) (.int .i64 ((rd_Rule t118 x174_3).f0))).trans hx134_0; replace hx134_0 := (cell_far (p := ⟨gb133, 1, none⟩) (by first | (rw [add_block]; exact hn134_1) | (show (Addr.add _ _).block ≠ _; rw [add_block]; exact hn134_1) | exact hn134_1) (.int .i64 ((rd_Rule t118 x174_3).f1))).trans hx134_0; (try have hy134_0 := fun (n_ : Nat) => (show ((((w63.drewN n_).setCell ⟨gb133, 0, none⟩ (.int .i64 ((rd_Rule t118 x174_3).f0))).setCell ⟨gb133, 1, none⟩ (.int .i64 ((rd_Rule t118 x174_3).f1)))).cell? _ = some _ from hx134_0)); clear hn134_0; clear hn134_1; replace p134 := eq_true p134; replace q134 := eq_true q134; have p135 : 0 ≤ (x174_3 : Int) := of_decide_eq_true (by first | (with_reducible assumption) | assumption); have q135 : x174_3 < (t109.length : Int) := of_decide_eq_true (by first | (with_reducible assumption) | assumption); obtain ⟨ad135, e135, hx135_0, hx135_1⟩ := at_Rule (Kd.R_reads' HO_10.out).2.2 x174_3 p135 q135; cases e135; have hn135_0 : ad135.block ≠ gb133 := (by first | exact Kd.own_blk (Kd.R_ne HO_10.out BK133.out (by decide)) | exact Kd.own_blk (Kd.R_away HO_10.out (fun _ hk => hk.2))); have hn135_1 : ad135.block ≠ gb133 := (by first | exact Kd.own_blk (Kd.R_ne HO_10.out BK133.out (by decide)) | exact Kd.own_blk (Kd.R_away HO_10.out (fun _ hk => hk.2))); replace hx135_0 := (cell_far (p := ⟨gb133, 0, none⟩) (by first | (rw [add_block]; exact hn135_0) | (show (Addr.add _ _).block ≠ _; rw [add_block]; exact hn135_0) | exact hn135_0) (.int .i64 ((rd_Rule t118 x174_3).f0))).trans hx135_0; replace hx135_1 := (cell_far (p := ⟨gb133, 0, none⟩) (by first | (rw [add_block]; exact hn135_0) | (show (Addr.add _ _).block ≠ _; rw [add_block]; exact hn135_0) | exact hn135_0) (.int .i64 ((rd_Rule t118 x174_3).f0))).trans hx135_1; replace hx135_0 := (cell_far (p := ⟨gb133, 1, none⟩) (by first | (rw [add_block]; exact hn135_1) | (show (Addr.add _ _).block ≠ _; rw [add_block]; exact hn135_1) | exact hn135_1) (.int .i64 ((rd_Rule t118 x174_3).f1))).trans hx135_0; replace hx135_1 := (cell_far (p := ⟨gb133, 1, none⟩) (by first | (rw [add_block]; exact hn135_1) | (show (Addr.add _ _).block ≠ _; rw [add_block]; exact hn135_1) | exact hn135_1) (.int .i64 ((rd_Rule t118 x174_3).f1))).trans hx135_1; (try have hy135_0 := fun (n_ : Nat) => (show ((((w63.drewN n_).setCell ⟨gb133, 0, none⟩ (.int .i64 ((rd_Rule t118 x174_3).f0))).setCell ⟨gb133, 1, none⟩ (.int .i64 ((rd_Rule t118 x174_3).f1)))).cell? _ = some _ from hx135_0)); (try have hy135_1 := fun (n_ : Nat) => (show ((((w63.drewN n_).setCell ⟨gb133, 0, none⟩ (.int .i64 ((rd_Rule t118 x174_3).f0))).setCell ⟨gb133, 1, none⟩ (.int .i64 ((rd_Rule t118 x174_3).f1)))).cell? _ = some _ from hx135_1)); clear hn135_0; clear hn135_1; replace p135 := eq_true p135; replace q135 := eq_true q135; have p136 : 0 ≤ (x174_3 : Int) := of_decide_eq_true (by first | (with_reducible assumption) | assumption); have q136 : x174_3 < (t102.length : Int) := of_decide_eq_true (by first | (with_reducible assumption) | assumption); obtain ⟨ad136, e136, hx136_0⟩ := Kd.at_int (Kd.R_reads' HO_5.out).2.2 x174_3 p136 q136; obtain rfl : ad134 = ad136 := (by injection e136); have hn136_0 : ad134.block ≠ gb133 := (by first | exact Kd.own_blk (Kd.R_ne HO_5.out BK133.out (by decide)) | exact Kd.own_blk (Kd.R_away HO_5.out (fun _ hk => hk.2))); have hn136_1 : ad134.block ≠ gb133 := (by first | exact Kd.own_blk (Kd.R_ne HO_5.out BK133.out (by decide)) | exact Kd.own_blk (Kd.R_away HO_5.out (fun _ hk => hk.2))); replace hx136_0 := (cell_far (p := ⟨gb133, 0, none⟩) (by first | (rw [add_block]; exact hn136_0) | (show (Addr.add _ _).block ≠ _; rw [add_block]; exact hn136_0) | exact hn136_0) (.int .i64 ((rd_Rule t118 x174_3).f0))).trans hx136_0; replace hx136_0 := (cell_far (p := ⟨gb133, 1, none⟩) (by first | (rw [add_block]; exact hn136_1) | (show (Addr.add _ _).block ≠ _; rw [add_block]; exact hn136_1) | exact hn136_1) (.int .i64 ((rd_Rule t118 x174_3).f1))).trans hx136_0; (try have hy136_0 := fun (n_ : Nat) => (show ((((w63.drewN n_).setCell ⟨gb133, 0, none⟩ (.int .i64 ((rd_Rule t118 x174_3).f0))).setCell ⟨gb133, 1, none⟩ (.int .i64 ((rd_Rule t118 x174_3).f1)))).cell? _ = some _ from hx136_0)); clear hn136_0; clear hn136_1; replace p136 := eq_true p136; replace q136 := eq_true q136; have p137 : 0 ≤ (x174_3 : Int) := of_decide_eq_true (by first | (with_reducible assumption) | assumption); have q137 : x174_3 < (t109.length : Int) := of_decide_eq_true (by first | (with_reducible assumption) | assumption); obtain ⟨ad137, e137, hx137_0, hx137_1⟩ := at_Rule (Kd.R_reads' HO_10.out).2.2 x174_3 p137 q137; obtain rfl : ad135 = ad137 := (by injection e137); have hn137_0 : ad135.block ≠ gb133 := (by first | exact Kd.own_blk (Kd.R_ne HO_10.out BK133.out (by decide)) | exact Kd.own_blk (Kd.R_away HO_10.out (fun _ hk => hk.2))); have hn137_1 : ad135.block ≠ gb133 := (by first | exact Kd.own_blk (Kd.R_ne HO_10.out BK133.out (by decide)) | exact Kd.own_blk (Kd.R_away HO_10.out (fun _ hk => hk.2))); replace hx137_0 := (cell_far (p := ⟨gb133, 0, none⟩) (by first | (rw [add_block]; exact hn137_0) | (show (Addr.add _ _).block ≠ _; rw [add_block]; exact hn137_0) | exact hn137_0) (.int .i64 ((rd_Rule t118 x174_3).f0))).trans hx137_0; replace hx137_1 := (cell_far (p := ⟨gb133, 0, none⟩) (by first | (rw [add_block]; exact hn137_0) | (show (Addr.add _ _).block ≠ _; rw [add_block]; exact hn137_0) | exact hn137_0) (.int .i64 ((rd_Rule t118 x174_3).f0))).trans hx137_1; replace hx137_0 := (cell_far (p := ⟨gb133, 1, none⟩) (by first | (rw [add_block]; exact hn137_1) | (show (Addr.add _ _).block ≠ _; rw [add_block]; exact hn137_1) | exact hn137_1) (.int .i64 ((rd_Rule t118 x174_3).f1))).trans hx137_0; replace hx137_1 := (cell_far (p := ⟨gb133, 1, none⟩) (by first | (rw [add_block]; exact hn137_1) | (show (Addr.add _ _).block ≠ _; rw [add_block]; exact hn137_1) | exact hn137_1) (.int .i64 ((rd_Rule t118 x174_3).f1))).trans hx137_1; (try have hy137_0 := fun (n_ : Nat) => (show ((((w63.drewN n_).setCell ⟨gb133, 0, none⟩ (.int .i64 ((rd_Rule t118 x174_3).f0))).setCell ⟨gb133, 1, none⟩ (.int .i64 ((rd_Rule t118 x174_3).f1)))).cell? _ = some _ from hx137_0)); (try have hy137_1 := fun (n_ : Nat) => (show ((((w63.drewN n_).setCell ⟨gb133, 0, none⟩ (.int .i64 ((rd_Rule t118 x174_3).f0))).setCell ⟨gb133, 1, none⟩ (.int .i64 ((rd_Rule t118 x174_3).f1)))).cell? _ = some _ from hx137_1)); clear hn137_0; clear hn137_1; replace p137 := eq_true p137; replace q137 := eq_true q137)); try go_wp2_with (first | ((with_reducible refine gate_dst (N := 25) rfl ?_); (try (refine gate_guard (by rfl) ?_; dsimp only)); refine box_event ?hg (N := 25) ?hd (cs := #[.int .i64 0, .int .i64 0]) (t := 38) ?hr ?_; (case hd => rfl); (case hg => rfl); (case hr => first | (go_simp; done) | (go_simp; rfl)); intro gb133 hg w63 hbox hb; have n0_ := Aside0.mk (HO_5.mv hb); have n1_ := Aside0.mk (Kd.R_below (Kd.R_elderB (by apply_rules only [HO_10.out, Kd.R_alloc, Kd.R_drewN, Kd.R_drew]) gb133 (Nat.le_of_eq hg.symm)) hb); have n2_ := Aside0.mk (Kd.R_below (Kd.R_elderB (by apply_rules only [HO_172.out, Kd.R_alloc, Kd.R_drewN, Kd.R_drew]) gb133 (Nat.le_of_eq hg.symm)) hb); have n3_ := Aside0.mk (HB.mv hb); have n4_ := Aside0.mk (hbox); have n5_ := Aside0.mk (HB.ge hg); have n6_ := Aside0.mk (HB.ge hg); clear HO_5; clear HO_10; clear HO_172; clear HB; have HO_5 := n0_; have HO_10 := n1_; have HO_172 := n2_; have HB := n3_; have BK133 := n4_; have GW133 := n5_; have GE133 := n6_; clear n0_ n1_ n2_ n3_ n4_ n5_ n6_; clear hb hbox hg; have hcz64_0 : w63.cell? ⟨gb133, 0, none⟩ = some (.int .i64 0) := (blk_cell BK133.out 0).trans rfl; have hcz64_1 : w63.cell? ⟨gb133, 1, none⟩ = some (.int .i64 0) := (blk_cell BK133.out 1).trans rfl; have hfz64_0 := blk_frozen BK133.out 0; have hfz64_1 := blk_frozen BK133.out 1; have p134 : 0 ≤ (x174_3 : Int) := of_decide_eq_true (by first | (with_reducible assumption) | assumption); have q134 : x174_3 < (t102.length : Int) := of_decide_eq_true (by first | (with_reducible assumption) | assumption); obtain ⟨ad134, e134, hx134_0⟩ := Kd.at_int (Kd.R_reads' HO_5.out).2.2 x174_3 p134 q134; cases e134; have hn134_0 : ad134.block ≠ gb133 := (by first | exact Kd.own_blk (Kd.R_ne HO_5.out BK133.out (by decide)) | exact Kd.own_blk (Kd.R_away HO_5.out (fun _ hk => hk.2))); have hn134_1 : ad134.block ≠ gb133 := (by first | exact Kd.own_blk (Kd.R_ne HO_5.out BK133.out (by decide)) | exact Kd.own_blk (Kd.R_away HO_5.out (fun _ hk => hk.2))); replace hx134_0 := (cell_far (p := ⟨gb133, 0, none⟩) (by first | (rw [add_block]; exact hn134_0) | (show (Addr.add _ _).block ≠ _; rw [add_block]; exact hn134_0) | exact hn134_0) (.int .i64 ((rd_Rule t118 x174_3).f0))).trans hx134_0; replace hx134_0 := (cell_far (p := ⟨gb133, 1, none⟩) (by first | (rw [add_block]; exact hn134_1) | (show (Addr.add _ _).block ≠ _; rw [add_block]; exact hn134_1) | exact hn134_1) (.int .i64 ((rd_Rule t118 x174_3).f1))).trans hx134_0; (try have hy134_0 := fun (n_ : Nat) => (show ((((w63.drewN n_).setCell ⟨gb133, 0, none⟩ (.int .i64 ((rd_Rule t118 x174_3).f0))).setCell ⟨gb133, 1, none⟩ (.int .i64 ((rd_Rule t118 x174_3).f1)))).cell? _ = some _ from hx134_0)); clear hn134_0; clear hn134_1; replace p134 := eq_true p134; replace q134 := eq_true q134; have p135 : 0 ≤ (x174_3 : Int) := of_decide_eq_true (by first | (with_reducible assumption) | assumption); have q135 : x174_3 < (t109.length : Int) := of_decide_eq_true (by first | (with_reducible assumption) | assumption); obtain ⟨ad135, e135, hx135_0, hx135_1⟩ := at_Rule (Kd.R_reads' HO_10.out).2.2 x174_3 p135 q135; cases e135; have hn135_0 : ad135.block ≠ gb133 := (by first | exact Kd.own_blk (Kd.R_ne HO_10.out BK133.out (by decide)) | exact Kd.own_blk (Kd.R_away HO_10.out (fun _ hk => hk.2))); have hn135_1 : ad135.block ≠ gb133 := (by first | exact Kd.own_blk (Kd.R_ne HO_10.out BK133.out (by decide)) | exact Kd.own_blk (Kd.R_away HO_10.out (fun _ hk => hk.2))); replace hx135_0 := (cell_far (p := ⟨gb133, 0, none⟩) (by first | (rw [add_block]; exact hn135_0) | (show (Addr.add _ _).block ≠ _; rw [add_block]; exact hn135_0) | exact hn135_0) (.int .i64 ((rd_Rule t118 x174_3).f0))).trans hx135_0; replace hx135_1 := (cell_far (p := ⟨gb133, 0, none⟩) (by first | (rw [add_block]; exact hn135_0) | (show (Addr.add _ _).block ≠ _; rw [add_block]; exact hn135_0) | exact hn135_0) (.int .i64 ((rd_Rule t118 x174_3).f0))).trans hx135_1; replace hx135_0 := (cell_far (p := ⟨gb133, 1, none⟩) (by first | (rw [add_block]; exact hn135_1) | (show (Addr.add _ _).block ≠ _; rw [add_block]; exact hn135_1) | exact hn135_1) (.int .i64 ((rd_Rule t118 x174_3).f1))).trans hx135_0; replace hx135_1 := (cell_far (p := ⟨gb133, 1, none⟩) (by first | (rw [add_block]; exact hn135_1) | (show (Addr.add _ _).block ≠ _; rw [add_block]; exact hn135_1) | exact hn135_1) (.int .i64 ((rd_Rule t118 x174_3).f1))).trans hx135_1; (try have hy135_0 := fun (n_ : Nat) => (show ((((w63.drewN n_).setCell ⟨gb133, 0, none⟩ (.int .i64 ((rd_Rule t118 x174_3).f0))).setCell ⟨gb133, 1, none⟩ (.int .i64 ((rd_Rule t118 x174_3).f1)))).cell? _ = some _ from hx135_0)); (try have hy135_1 := fun (n_ : Nat) => (show ((((w63.drewN n_).setCell ⟨gb133, 0, none⟩ (.int .i64 ((rd_Rule t118 x174_3).f0))).setCell ⟨gb133, 1, none⟩ (.int .i64 ((rd_Rule t118 x174_3).f1)))).cell? _ = some _ from hx135_1)); clear hn135_0; clear hn135_1; replace p135 := eq_true p135; replace q135 := eq_true q135; have p136 : 0 ≤ (x174_3 : Int) := of_decide_eq_true (by first | (with_reducible assumption) | assumption); have q136 : x174_3 < (t102.length : Int) := of_decide_eq_true (by first | (with_reducible assumption) | assumption); obtain ⟨ad136, e136, hx136_0⟩ := Kd.at_int (Kd.R_reads' HO_5.out).2.2 x174_3 p136 q136; obtain rfl : ad134 = ad136 := (by injection e136); have hn136_0 : ad134.block ≠ gb133 := (by first | exact Kd.own_blk (Kd.R_ne HO_5.out BK133.out (by decide)) | exact Kd.own_blk (Kd.R_away HO_5.out (fun _ hk => hk.2))); have hn136_1 : ad134.block ≠ gb133 := (by first | exact Kd.own_blk (Kd.R_ne HO_5.out BK133.out (by decide)) | exact Kd.own_blk (Kd.R_away HO_5.out (fun _ hk => hk.2))); replace hx136_0 := (cell_far (p := ⟨gb133, 0, none⟩) (by first | (rw [add_block]; exact hn136_0) | (show (Addr.add _ _).block ≠ _; rw [add_block]; exact hn136_0) | exact hn136_0) (.int .i64 ((rd_Rule t118 x174_3).f0))).trans hx136_0; replace hx136_0 := (cell_far (p := ⟨gb133, 1, none⟩) (by first | (rw [add_block]; exact hn136_1) | (show (Addr.add _ _).block ≠ _; rw [add_block]; exact hn136_1) | exact hn136_1) (.int .i64 ((rd_Rule t118 x174_3).f1))).trans hx136_0; (try have hy136_0 := fun (n_ : Nat) => (show ((((w63.drewN n_).setCell ⟨gb133, 0, none⟩ (.int .i64 ((rd_Rule t118 x174_3).f0))).setCell ⟨gb133, 1, none⟩ (.int .i64 ((rd_Rule t118 x174_3).f1)))).cell? _ = some _ from hx136_0)); clear hn136_0; clear hn136_1; replace p136 := eq_true p136; replace q136 := eq_true q136; have p137 : 0 ≤ (x174_3 : Int) := of_decide_eq_true (by first | (with_reducible assumption) | assumption); have q137 : x174_3 < (t109.length : Int) := of_decide_eq_true (by first | (with_reducible assumption) | assumption); obtain ⟨ad137, e137, hx137_0, hx137_1⟩ := at_Rule (Kd.R_reads' HO_10.out).2.2 x174_3 p137 q137; obtain rfl : ad135 = ad137 := (by injection e137); have hn137_0 : ad135.block ≠ gb133 := (by first | exact Kd.own_blk (Kd.R_ne HO_10.out BK133.out (by decide)) | exact Kd.own_blk (Kd.R_away HO_10.out (fun _ hk => hk.2))); have hn137_1 : ad135.block ≠ gb133 := (by first | exact Kd.own_blk (Kd.R_ne HO_10.out BK133.out (by decide)) | exact Kd.own_blk (Kd.R_away HO_10.out (fun _ hk => hk.2))); replace hx137_0 := (cell_far (p := ⟨gb133, 0, none⟩) (by first | (rw [add_block]; exact hn137_0) | (show (Addr.add _ _).block ≠ _; rw [add_block]; exact hn137_0) | exact hn137_0) (.int .i64 ((rd_Rule t118 x174_3).f0))).trans hx137_0; replace hx137_1 := (cell_far (p := ⟨gb133, 0, none⟩) (by first | (rw [add_block]; exact hn137_0) | (show (Addr.add _ _).block ≠ _; rw [add_block]; exact hn137_0) | exact hn137_0) (.int .i64 ((rd_Rule t118 x174_3).f0))).trans hx137_1; replace hx137_0 := (cell_far (p := ⟨gb133, 1, none⟩) (by first | (rw [add_block]; exact hn137_1) | (show (Addr.add _ _).block ≠ _; rw [add_block]; exact hn137_1) | exact hn137_1) (.int .i64 ((rd_Rule t118 x174_3).f1))).trans hx137_0; replace hx137_1 := (cell_far (p := ⟨gb133, 1, none⟩) (by first | (rw [add_block]; exact hn137_1) | (show (Addr.add _ _).block ≠ _; rw [add_block]; exact hn137_1) | exact hn137_1) (.int .i64 ((rd_Rule t118 x174_3).f1))).trans hx137_1; (try have hy137_0 := fun (n_ : Nat) => (show ((((w63.drewN n_).setCell ⟨gb133, 0, none⟩ (.int .i64 ((rd_Rule t118 x174_3).f0))).setCell ⟨gb133, 1, none⟩ (.int .i64 ((rd_Rule t118 x174_3).f1)))).cell? _ = some _ from hx137_0)); (try have hy137_1 := fun (n_ : Nat) => (show ((((w63.drewN n_).setCell ⟨gb133, 0, none⟩ (.int .i64 ((rd_Rule t118 x174_3).f0))).setCell ⟨gb133, 1, none⟩ (.int .i64 ((rd_Rule t118 x174_3).f1)))).cell? _ = some _ from hx137_1)); clear hn137_0; clear hn137_1; replace p137 := eq_true p137; replace q137 := eq_true q137)))
                        go_roundg k3
                        case measure => have := HJ29.out; have := HJ47.out; have := HK3.out; omega
                        case rel => exact ⟨(wrap64 (x174_3 + 1)), (by first | rfl | (simp; done) | (simp [*]; done)), H', ⟨by have := HJ29.out; have := HJ47.out; have := HK3.out; omega⟩, ⟨by (with_reducible repeat (first | apply Kd.R_alloc | apply Kd.R_drewN | apply Kd.R_drew)); exact Kd.R_mono (Kd.R_far (p := ⟨gb133, 1, none⟩) (Kd.R_far (p := ⟨gb133, 0, none⟩) (Kd.R_types HO_5.out BK133.out (by decide)) (fun _ hk => hk.2) (.int .i64 ((rd_Rule t118 x174_3).f0))) (fun _ hk => hk.2) (.int .i64 ((rd_Rule t118 x174_3).f1))) (fun _ hk => trivial)⟩, ⟨by (with_reducible repeat (first | apply Kd.R_alloc | apply Kd.R_drewN | apply Kd.R_drew)); exact Kd.R_mono (Kd.R_far (p := ⟨gb133, 1, none⟩) (Kd.R_far (p := ⟨gb133, 0, none⟩) (Kd.R_mono HO_10.out (fun k_ hk => (⟨hk, hk.2⟩ : _ ∧ k_ ≠ gb133))) (fun _ hk => hk.2) (.int .i64 ((rd_Rule t118 x174_3).f0))) (fun _ hk => hk.2) (.int .i64 ((rd_Rule t118 x174_3).f1))) (fun _ hk => hk.1.1)⟩, ⟨by (with_reducible repeat (first | apply Kd.R_alloc | apply Kd.R_drewN | apply Kd.R_drew)); exact Kd.R_mono (Kd.R_far (p := ⟨gb133, 1, none⟩) (Kd.R_far (p := ⟨gb133, 0, none⟩) (Kd.R_mono HO_172.out (fun k_ hk => (⟨hk, hk.2⟩ : _ ∧ k_ ≠ gb133))) (fun _ hk => hk.2) (.int .i64 ((rd_Rule t118 x174_3).f0))) (fun _ hk => hk.2) (.int .i64 ((rd_Rule t118 x174_3).f1))) (fun _ hk => hk.1.1)⟩, ⟨by apply_rules only [HB.out, below_alloc, pw_below_drewN, below_drew1, below_set, GE133.out]⟩⟩
                       ·rw [if_neg c62] at H
                        have c62b0 : (((rd_Rule t109 x174_3).f1) == 0) = false := beq_eq_false_iff_ne.mpr c62
                        have c62b1 : (((rd_Rule t109 x174_3).f1) != 0) = true := bne_iff_ne.mpr c62
                        exact absurd H (by simp)
                      ·rw [if_neg c61] at H
                       have c61b0 : (((rd_Rule t109 x174_3).f0) == (rd t102 x174_3)) = false := beq_eq_false_iff_ne.mpr c61
                       have c61b1 : (((rd_Rule t109 x174_3).f0) != (rd t102 x174_3)) = true := bne_iff_ne.mpr c61
                       exact absurd H (by simp)
                     ·rw [if_neg c60] at H
                      exact absurd H (by simp)
                    ·rw [if_neg c59] at H
                     have c59b0 : (((rd_Rule t118 x174_3).f0) == (rd t102 x174_3)) = false := beq_eq_false_iff_ne.mpr c59
                     have c59b1 : (((rd_Rule t118 x174_3).f0) != (rd t102 x174_3)) = true := bne_iff_ne.mpr c59
                     exact absurd H (by simp)
                   ·rw [if_neg c58] at H
                    exact absurd H (by simp)
                  ·rw [if_neg c57] at H
                   exact absurd H (by simp)
                 ·rw [if_neg c56] at H
                  exact absurd H (by simp)
                ·rw [if_neg c55] at H
                 have c55b0 : decide (x174_3 < (t118.length : Int)) = false := decide_eq_false c55
                 clear c55
                 have H' := Aside0.mk H
                 clear H
                 go_wp2
                 repeat (go_quiet (fail); try go_wp2)
                 go_meet
                 case rel => exact ⟨_, H', ⟨by have := HJ29.out; have := HJ47.out; have := HK3.out; first | omega | exact Nat.le_refl _⟩, ⟨by apply_rules only [HB.out, below_alloc, pw_below_drewN, below_drew1]⟩⟩
        ·replace c25 := Bool.eq_false_iff.mpr c25
         subst c25
         rw [if_neg (show ¬ (false = true) by decide)] at H
         have H' := Aside0.mk H
         clear H
         go_wp2
         repeat (go_quiet (fail); try go_wp2)
         go_meet
         case rel => exact ⟨_, H', ⟨by first | omega | exact Nat.le_refl _⟩, ⟨by apply_rules only [HB.out, below_alloc, pw_below_drewN, below_drew1]⟩⟩
       case rest =>
        clear HC16
        (try clear c4); (try clear c10); (try clear c10b0); (try clear c10b1); (try clear c10b2); (try clear c11); (try clear c11b0); (try clear c11b1); (try clear c12); (try clear c12b0); (try clear c12b1); (try clear c12b2); (try clear c14); (try clear c15); (try clear c15b0); (try clear c15b1); (try clear c15b2)
        obtain ⟨kq, HA, HJ15, HB⟩ := hcut
        cases kq with
        | zero => exact absurd HA.out (by simp [laws_FnCoversFound.j3])
        | succ kj15 =>
         have H := HA.out
         clear HA
         simp only [laws_FnCoversFound.j3] at H
         replace H := Option.bind_eq_some_iff.mp H
         obtain ⟨⟨t138, t139⟩, A650, H⟩ := H
         (try dsimp only at H)
         have A65 := Aside0.mk A650
         clear A650
         replace H := Option.bind_eq_some_iff.mp H
         obtain ⟨⟨t142, t143⟩, A660, H⟩ := H
         (try dsimp only at H)
         have A66 := Aside0.mk A660
         clear A660
         replace H := Option.bind_eq_some_iff.mp H
         obtain ⟨⟨t146, t147⟩, A670, H⟩ := H
         (try dsimp only at H)
         have A67 := Aside0.mk A670
         clear A670
         replace H := Option.bind_eq_some_iff.mp H
         obtain ⟨⟨t150, t151⟩, A680, H⟩ := H
         (try dsimp only at H)
         have A68 := Aside0.mk A680
         clear A680
         replace H := Option.bind_eq_some_iff.mp H
         obtain ⟨⟨t152, t153⟩, A690, H⟩ := H
         (try dsimp only at H)
         have A69 := Aside0.mk A690
         clear A690
         replace H := Option.bind_eq_some_iff.mp H
         obtain ⟨⟨t154, t155⟩, A700, H⟩ := H
         (try dsimp only at H)
         have A70 := Aside0.mk A700
         clear A700
         replace H := Option.bind_eq_some_iff.mp H
         obtain ⟨⟨t158, t159⟩, A710, H⟩ := H
         (try dsimp only at H)
         have A71 := Aside0.mk A710
         clear A710
         replace H := Option.bind_eq_some_iff.mp H
         obtain ⟨⟨t160, t161⟩, A720, H⟩ := H
         (try dsimp only at H)
         have A72 := Aside0.mk A720
         clear A720
         have HC73 := Aside0.mk H
         clear H
         go_upto_region 37 with (first | (go_at_call 16; (with_reducible refine (spec_DrawFirstCover.calls kj15 _ _ l1 t138 t139 _ ?side1 ?side2 A65.out).mono ?_); (case side1 => repeat (first | exact (Kd.C_below HR1.out HB.out) | (with_reducible refine Kd.C_alloc ?_ _) | (with_reducible refine Kd.C_drewN ?_ _) | (with_reducible refine Kd.C_drew ?_))); (case side2 => exact HC1.out); rintro e w74 ⟨v140, rfl, ho0, hb⟩; have n0_ := Aside0.mk (Kd.R_lower ho0 (below_size (by apply_rules only [HB.out, below_alloc, pw_below_drewN, below_drew1]))); have n1_ := Aside0.mk (HB.mv hb); clear HB; have HO141 := n0_; have HB := n1_; clear n0_ n1_; (try clear hb); (try clear hb2); (try clear hk); (try clear hi); (try clear ho0); obtain ⟨Ao75, co75, eo75⟩ := Kd.R_slice HO141.out; subst eo75) | (go_at_call 12; (with_reducible refine (impl_FirstCover.calls kj15 _ _ t138 t139 t142 t143 _ ?side1 ?side2 A66.out).mono ?_); (case side1 => repeat (first | exact (Kd.R_reads' HO141.out).2.2 | (with_reducible refine Kd.C_alloc ?_ _) | (with_reducible refine Kd.C_drewN ?_ _) | (with_reducible refine Kd.C_drew ?_))); (case side2 => exact (Kd.R_reads' HO141.out).2.1); rintro e w76 ⟨v144, rfl, ho0, hb⟩; have n0_ := Aside0.mk (HO141.mv hb); have n1_ := Aside0.mk (Kd.R_lower ho0 (below_size (by apply_rules only [HB.out, below_alloc, pw_below_drewN, below_drew1]))); have n2_ := Aside0.mk (HB.mv hb); clear HO141; clear HB; have HO141 := n0_; have HO145 := n1_; have HB := n2_; clear n0_ n1_ n2_; (try clear hb); (try clear hb2); (try clear hk); (try clear hi); (try clear ho0)) | (go_at_call 17; (with_reducible refine (spec_FirstCover.calls kj15 _ _ t138 t139 t146 t147 _ ?side1 ?side2 A67.out).mono ?_); (case side1 => repeat (first | exact (Kd.R_reads' HO141.out).2.2 | (with_reducible refine Kd.C_alloc ?_ _) | (with_reducible refine Kd.C_drewN ?_ _) | (with_reducible refine Kd.C_drew ?_))); (case side2 => exact (Kd.R_reads' HO141.out).2.1); rintro e w77 ⟨v148, rfl, ho0, hb⟩; have n0_ := Aside0.mk (HO141.mv hb); have n1_ := Aside0.mk (Kd.R_elder' (by apply_rules only [HO145.out, Kd.R_alloc, Kd.R_drewN, Kd.R_drew]) (Kd.R_base ho0) hb); have n2_ := Aside0.mk (Kd.R_lower (Kd.R_new' ho0 (Kd.R_lt (by apply_rules only [HO145.out, Kd.R_alloc, Kd.R_drewN, Kd.R_drew]))) (below_size (by apply_rules only [HB.out, below_alloc, pw_below_drewN, below_drew1]))); have n3_ := Aside0.mk (HB.mv hb); clear HO141; clear HO145; clear HB; have HO141 := n0_; have HO145 := n1_; have HO149 := n2_; have HB := n3_; clear n0_ n1_ n2_ n3_; (try clear hb); (try clear hb2); (try clear hk); (try clear hi); (try clear ho0)) | (go_at_call 13; (with_reducible refine (impl_CountCovers.calls kj15 _ _ t138 t139 t150 t151 _ ?side1 ?side2 A68.out).mono ?_); (case side1 => repeat (first | exact (Kd.R_reads' HO141.out).2.2 | (with_reducible refine Kd.C_alloc ?_ _) | (with_reducible refine Kd.C_drewN ?_ _) | (with_reducible refine Kd.C_drew ?_))); (case side2 => exact (Kd.R_reads' HO141.out).2.1); rintro e w78 ⟨rfl, hb⟩; have n0_ := Aside0.mk (HO141.mv hb); have n1_ := Aside0.mk (HO145.mv hb); have n2_ := Aside0.mk (HO149.mv hb); have n3_ := Aside0.mk (HB.mv hb); clear HO141; clear HO145; clear HO149; clear HB; have HO141 := n0_; have HO145 := n1_; have HO149 := n2_; have HB := n3_; clear n0_ n1_ n2_ n3_; (try clear hb); (try clear hb2); (try clear hk); (try clear hi)) | (go_at_call 18; (with_reducible refine (spec_CountCovers.calls kj15 _ _ t138 t139 t152 t153 _ ?side1 ?side2 A69.out).mono ?_); (case side1 => repeat (first | exact (Kd.R_reads' HO141.out).2.2 | (with_reducible refine Kd.C_alloc ?_ _) | (with_reducible refine Kd.C_drewN ?_ _) | (with_reducible refine Kd.C_drew ?_))); (case side2 => exact (Kd.R_reads' HO141.out).2.1); rintro e w79 ⟨rfl, hb⟩; have n0_ := Aside0.mk (HO141.mv hb); have n1_ := Aside0.mk (HO145.mv hb); have n2_ := Aside0.mk (HO149.mv hb); have n3_ := Aside0.mk (HB.mv hb); clear HO141; clear HO145; clear HO149; clear HB; have HO141 := n0_; have HO145 := n1_; have HO149 := n2_; have HB := n3_; clear n0_ n1_ n2_ n3_; (try clear hb); (try clear hb2); (try clear hk); (try clear hi)) | (go_at_call 19; (with_reducible refine (spec_DrawIsCover.calls kj15 _ _ l1 t154 t155 _ ?side1 ?side2 A70.out).mono ?_); (case side1 => repeat (first | exact (Kd.C_below HR1.out HB.out) | (with_reducible refine Kd.C_alloc ?_ _) | (with_reducible refine Kd.C_drewN ?_ _) | (with_reducible refine Kd.C_drew ?_))); (case side2 => exact HC1.out); rintro e w80 ⟨v156, rfl, ho0, hb⟩; have n0_ := Aside0.mk (HO141.mv hb); have n1_ := Aside0.mk (Kd.R_elder' (by apply_rules only [HO145.out, Kd.R_alloc, Kd.R_drewN, Kd.R_drew]) (Kd.R_base ho0) hb); have n2_ := Aside0.mk (Kd.R_elder' (by apply_rules only [HO149.out, Kd.R_alloc, Kd.R_drewN, Kd.R_drew]) (Kd.R_base ho0) hb); have n3_ := Aside0.mk (Kd.R_lower (Kd.R_new' (Kd.R_new' ho0 (Kd.R_lt (by apply_rules only [HO145.out, Kd.R_alloc, Kd.R_drewN, Kd.R_drew]))) (Kd.R_lt (by apply_rules only [HO149.out, Kd.R_alloc, Kd.R_drewN, Kd.R_drew]))) (below_size (by apply_rules only [HB.out, below_alloc, pw_below_drewN, below_drew1]))); have n4_ := Aside0.mk (HB.mv hb); clear HO141; clear HO145; clear HO149; clear HB; have HO141 := n0_; have HO145 := n1_; have HO149 := n2_; have HO157 := n3_; have HB := n4_; clear n0_ n1_ n2_ n3_ n4_; (try clear hb); (try clear hb2); (try clear hk); (try clear hi); (try clear ho0); obtain ⟨Ao81, co81, eo81⟩ := Kd.R_slice HO157.out; subst eo81) | (go_at_call 14; (with_reducible refine (impl_IsCover.calls kj15 _ _ t154 t155 t158 t159 _ ?side1 ?side2 A71.out).mono ?_); (case side1 => repeat (first | exact (Kd.R_reads' HO157.out).2.2 | (with_reducible refine Kd.C_alloc ?_ _) | (with_reducible refine Kd.C_drewN ?_ _) | (with_reducible refine Kd.C_drew ?_))); (case side2 => exact (Kd.R_reads' HO157.out).2.1); rintro e w82 ⟨rfl, hb⟩; have n0_ := Aside0.mk (HO141.mv hb); have n1_ := Aside0.mk (HO145.mv hb); have n2_ := Aside0.mk (HO149.mv hb); have n3_ := Aside0.mk (HO157.mv hb); have n4_ := Aside0.mk (HB.mv hb); clear HO141; clear HO145; clear HO149; clear HO157; clear HB; have HO141 := n0_; have HO145 := n1_; have HO149 := n2_; have HO157 := n3_; have HB := n4_; clear n0_ n1_ n2_ n3_ n4_; (try clear hb); (try clear hb2); (try clear hk); (try clear hi)) | (go_at_call 20; (with_reducible refine (spec_IsCover.calls kj15 _ _ t154 t155 t160 t161 _ ?side1 ?side2 A72.out).mono ?_); (case side1 => repeat (first | exact (Kd.R_reads' HO157.out).2.2 | (with_reducible refine Kd.C_alloc ?_ _) | (with_reducible refine Kd.C_drewN ?_ _) | (with_reducible refine Kd.C_drew ?_))); (case side2 => exact (Kd.R_reads' HO157.out).2.1); rintro e w83 ⟨rfl, hb⟩; have n0_ := Aside0.mk (HO141.mv hb); have n1_ := Aside0.mk (HO145.mv hb); have n2_ := Aside0.mk (HO149.mv hb); have n3_ := Aside0.mk (HO157.mv hb); have n4_ := Aside0.mk (HB.mv hb); clear HO141; clear HO145; clear HO149; clear HO157; clear HB; have HO141 := n0_; have HO145 := n1_; have HO149 := n2_; have HO157 := n3_; have HB := n4_; clear n0_ n1_ n2_ n3_ n4_; (try clear hb); (try clear hb2); (try clear hk); (try clear hi)))
         repeat (go_quiet (first | (go_at_call 16; (with_reducible refine (spec_DrawFirstCover.calls kj15 _ _ l1 t138 t139 _ ?side1 ?side2 A65.out).mono ?_); (case side1 => repeat (first | exact (Kd.C_below HR1.out HB.out) | (with_reducible refine Kd.C_alloc ?_ _) | (with_reducible refine Kd.C_drewN ?_ _) | (with_reducible refine Kd.C_drew ?_))); (case side2 => exact HC1.out); rintro e w74 ⟨v140, rfl, ho0, hb⟩; have n0_ := Aside0.mk (Kd.R_lower ho0 (below_size (by apply_rules only [HB.out, below_alloc, pw_below_drewN, below_drew1]))); have n1_ := Aside0.mk (HB.mv hb); clear HB; have HO141 := n0_; have HB := n1_; clear n0_ n1_; (try clear hb); (try clear hb2); (try clear hk); (try clear hi); (try clear ho0); obtain ⟨Ao75, co75, eo75⟩ := Kd.R_slice HO141.out; subst eo75) | (go_at_call 12; (with_reducible refine (impl_FirstCover.calls kj15 _ _ t138 t139 t142 t143 _ ?side1 ?side2 A66.out).mono ?_); (case side1 => repeat (first | exact (Kd.R_reads' HO141.out).2.2 | (with_reducible refine Kd.C_alloc ?_ _) | (with_reducible refine Kd.C_drewN ?_ _) | (with_reducible refine Kd.C_drew ?_))); (case side2 => exact (Kd.R_reads' HO141.out).2.1); rintro e w76 ⟨v144, rfl, ho0, hb⟩; have n0_ := Aside0.mk (HO141.mv hb); have n1_ := Aside0.mk (Kd.R_lower ho0 (below_size (by apply_rules only [HB.out, below_alloc, pw_below_drewN, below_drew1]))); have n2_ := Aside0.mk (HB.mv hb); clear HO141; clear HB; have HO141 := n0_; have HO145 := n1_; have HB := n2_; clear n0_ n1_ n2_; (try clear hb); (try clear hb2); (try clear hk); (try clear hi); (try clear ho0)) | (go_at_call 17; (with_reducible refine (spec_FirstCover.calls kj15 _ _ t138 t139 t146 t147 _ ?side1 ?side2 A67.out).mono ?_); (case side1 => repeat (first | exact (Kd.R_reads' HO141.out).2.2 | (with_reducible refine Kd.C_alloc ?_ _) | (with_reducible refine Kd.C_drewN ?_ _) | (with_reducible refine Kd.C_drew ?_))); (case side2 => exact (Kd.R_reads' HO141.out).2.1); rintro e w77 ⟨v148, rfl, ho0, hb⟩; have n0_ := Aside0.mk (HO141.mv hb); have n1_ := Aside0.mk (Kd.R_elder' (by apply_rules only [HO145.out, Kd.R_alloc, Kd.R_drewN, Kd.R_drew]) (Kd.R_base ho0) hb); have n2_ := Aside0.mk (Kd.R_lower (Kd.R_new' ho0 (Kd.R_lt (by apply_rules only [HO145.out, Kd.R_alloc, Kd.R_drewN, Kd.R_drew]))) (below_size (by apply_rules only [HB.out, below_alloc, pw_below_drewN, below_drew1]))); have n3_ := Aside0.mk (HB.mv hb); clear HO141; clear HO145; clear HB; have HO141 := n0_; have HO145 := n1_; have HO149 := n2_; have HB := n3_; clear n0_ n1_ n2_ n3_; (try clear hb); (try clear hb2); (try clear hk); (try clear hi); (try clear ho0)) | (go_at_call 13; (with_reducible refine (impl_CountCovers.calls kj15 _ _ t138 t139 t150 t151 _ ?side1 ?side2 A68.out).mono ?_); (case side1 => repeat (first | exact (Kd.R_reads' HO141.out).2.2 | (with_reducible refine Kd.C_alloc ?_ _) | (with_reducible refine Kd.C_drewN ?_ _) | (with_reducible refine Kd.C_drew ?_))); (case side2 => exact (Kd.R_reads' HO141.out).2.1); rintro e w78 ⟨rfl, hb⟩; have n0_ := Aside0.mk (HO141.mv hb); have n1_ := Aside0.mk (HO145.mv hb); have n2_ := Aside0.mk (HO149.mv hb); have n3_ := Aside0.mk (HB.mv hb); clear HO141; clear HO145; clear HO149; clear HB; have HO141 := n0_; have HO145 := n1_; have HO149 := n2_; have HB := n3_; clear n0_ n1_ n2_ n3_; (try clear hb); (try clear hb2); (try clear hk); (try clear hi)) | (go_at_call 18; (with_reducible refine (spec_CountCovers.calls kj15 _ _ t138 t139 t152 t153 _ ?side1 ?side2 A69.out).mono ?_); (case side1 => repeat (first | exact (Kd.R_reads' HO141.out).2.2 | (with_reducible refine Kd.C_alloc ?_ _) | (with_reducible refine Kd.C_drewN ?_ _) | (with_reducible refine Kd.C_drew ?_))); (case side2 => exact (Kd.R_reads' HO141.out).2.1); rintro e w79 ⟨rfl, hb⟩; have n0_ := Aside0.mk (HO141.mv hb); have n1_ := Aside0.mk (HO145.mv hb); have n2_ := Aside0.mk (HO149.mv hb); have n3_ := Aside0.mk (HB.mv hb); clear HO141; clear HO145; clear HO149; clear HB; have HO141 := n0_; have HO145 := n1_; have HO149 := n2_; have HB := n3_; clear n0_ n1_ n2_ n3_; (try clear hb); (try clear hb2); (try clear hk); (try clear hi)) | (go_at_call 19; (with_reducible refine (spec_DrawIsCover.calls kj15 _ _ l1 t154 t155 _ ?side1 ?side2 A70.out).mono ?_); (case side1 => repeat (first | exact (Kd.C_below HR1.out HB.out) | (with_reducible refine Kd.C_alloc ?_ _) | (with_reducible refine Kd.C_drewN ?_ _) | (with_reducible refine Kd.C_drew ?_))); (case side2 => exact HC1.out); rintro e w80 ⟨v156, rfl, ho0, hb⟩; have n0_ := Aside0.mk (HO141.mv hb); have n1_ := Aside0.mk (Kd.R_elder' (by apply_rules only [HO145.out, Kd.R_alloc, Kd.R_drewN, Kd.R_drew]) (Kd.R_base ho0) hb); have n2_ := Aside0.mk (Kd.R_elder' (by apply_rules only [HO149.out, Kd.R_alloc, Kd.R_drewN, Kd.R_drew]) (Kd.R_base ho0) hb); have n3_ := Aside0.mk (Kd.R_lower (Kd.R_new' (Kd.R_new' ho0 (Kd.R_lt (by apply_rules only [HO145.out, Kd.R_alloc, Kd.R_drewN, Kd.R_drew]))) (Kd.R_lt (by apply_rules only [HO149.out, Kd.R_alloc, Kd.R_drewN, Kd.R_drew]))) (below_size (by apply_rules only [HB.out, below_alloc, pw_below_drewN, below_drew1]))); have n4_ := Aside0.mk (HB.mv hb); clear HO141; clear HO145; clear HO149; clear HB; have HO141 := n0_; have HO145 := n1_; have HO149 := n2_; have HO157 := n3_; have HB := n4_; clear n0_ n1_ n2_ n3_ n4_; (try clear hb); (try clear hb2); (try clear hk); (try clear hi); (try clear ho0); obtain ⟨Ao81, co81, eo81⟩ := Kd.R_slice HO157.out; subst eo81) | (go_at_call 14; (with_reducible refine (impl_IsCover.calls kj15 _ _ t154 t155 t158 t159 _ ?side1 ?side2 A71.out).mono ?_); (case side1 => repeat (first | exact (Kd.R_reads' HO157.out).2.2 | (with_reducible refine Kd.C_alloc ?_ _) | (with_reducible refine Kd.C_drewN ?_ _) | (with_reducible refine Kd.C_drew ?_))); (case side2 => exact (Kd.R_reads' HO157.out).2.1); rintro e w82 ⟨rfl, hb⟩; have n0_ := Aside0.mk (HO141.mv hb); have n1_ := Aside0.mk (HO145.mv hb); have n2_ := Aside0.mk (HO149.mv hb); have n3_ := Aside0.mk (HO157.mv hb); have n4_ := Aside0.mk (HB.mv hb); clear HO141; clear HO145; clear HO149; clear HO157; clear HB; have HO141 := n0_; have HO145 := n1_; have HO149 := n2_; have HO157 := n3_; have HB := n4_; clear n0_ n1_ n2_ n3_ n4_; (try clear hb); (try clear hb2); (try clear hk); (try clear hi)) | (go_at_call 20; (with_reducible refine (spec_IsCover.calls kj15 _ _ t154 t155 t160 t161 _ ?side1 ?side2 A72.out).mono ?_); (case side1 => repeat (first | exact (Kd.R_reads' HO157.out).2.2 | (with_reducible refine Kd.C_alloc ?_ _) | (with_reducible refine Kd.C_drewN ?_ _) | (with_reducible refine Kd.C_drew ?_))); (case side2 => exact (Kd.R_reads' HO157.out).2.1); rintro e w83 ⟨rfl, hb⟩; have n0_ := Aside0.mk (HO141.mv hb); have n1_ := Aside0.mk (HO145.mv hb); have n2_ := Aside0.mk (HO149.mv hb); have n3_ := Aside0.mk (HO157.mv hb); have n4_ := Aside0.mk (HB.mv hb); clear HO141; clear HO145; clear HO149; clear HO157; clear HB; have HO141 := n0_; have HO145 := n1_; have HO149 := n2_; have HO157 := n3_; have HB := n4_; clear n0_ n1_ n2_ n3_ n4_; (try clear hb); (try clear hb2); (try clear hk); (try clear hi))); go_upto_region 37 with (first | (go_at_call 16; (with_reducible refine (spec_DrawFirstCover.calls kj15 _ _ l1 t138 t139 _ ?side1 ?side2 A65.out).mono ?_); (case side1 => repeat (first | exact (Kd.C_below HR1.out HB.out) | (with_reducible refine Kd.C_alloc ?_ _) | (with_reducible refine Kd.C_drewN ?_ _) | (with_reducible refine Kd.C_drew ?_))); (case side2 => exact HC1.out); rintro e w74 ⟨v140, rfl, ho0, hb⟩; have n0_ := Aside0.mk (Kd.R_lower ho0 (below_size (by apply_rules only [HB.out, below_alloc, pw_below_drewN, below_drew1]))); have n1_ := Aside0.mk (HB.mv hb); clear HB; have HO141 := n0_; have HB := n1_; clear n0_ n1_; (try clear hb); (try clear hb2); (try clear hk); (try clear hi); (try clear ho0); obtain ⟨Ao75, co75, eo75⟩ := Kd.R_slice HO141.out; subst eo75) | (go_at_call 12; (with_reducible refine (impl_FirstCover.calls kj15 _ _ t138 t139 t142 t143 _ ?side1 ?side2 A66.out).mono ?_); (case side1 => repeat (first | exact (Kd.R_reads' HO141.out).2.2 | (with_reducible refine Kd.C_alloc ?_ _) | (with_reducible refine Kd.C_drewN ?_ _) | (with_reducible refine Kd.C_drew ?_))); (case side2 => exact (Kd.R_reads' HO141.out).2.1); rintro e w76 ⟨v144, rfl, ho0, hb⟩; have n0_ := Aside0.mk (HO141.mv hb); have n1_ := Aside0.mk (Kd.R_lower ho0 (below_size (by apply_rules only [HB.out, below_alloc, pw_below_drewN, below_drew1]))); have n2_ := Aside0.mk (HB.mv hb); clear HO141; clear HB; have HO141 := n0_; have HO145 := n1_; have HB := n2_; clear n0_ n1_ n2_; (try clear hb); (try clear hb2); (try clear hk); (try clear hi); (try clear ho0)) | (go_at_call 17; (with_reducible refine (spec_FirstCover.calls kj15 _ _ t138 t139 t146 t147 _ ?side1 ?side2 A67.out).mono ?_); (case side1 => repeat (first | exact (Kd.R_reads' HO141.out).2.2 | (with_reducible refine Kd.C_alloc ?_ _) | (with_reducible refine Kd.C_drewN ?_ _) | (with_reducible refine Kd.C_drew ?_))); (case side2 => exact (Kd.R_reads' HO141.out).2.1); rintro e w77 ⟨v148, rfl, ho0, hb⟩; have n0_ := Aside0.mk (HO141.mv hb); have n1_ := Aside0.mk (Kd.R_elder' (by apply_rules only [HO145.out, Kd.R_alloc, Kd.R_drewN, Kd.R_drew]) (Kd.R_base ho0) hb); have n2_ := Aside0.mk (Kd.R_lower (Kd.R_new' ho0 (Kd.R_lt (by apply_rules only [HO145.out, Kd.R_alloc, Kd.R_drewN, Kd.R_drew]))) (below_size (by apply_rules only [HB.out, below_alloc, pw_below_drewN, below_drew1]))); have n3_ := Aside0.mk (HB.mv hb); clear HO141; clear HO145; clear HB; have HO141 := n0_; have HO145 := n1_; have HO149 := n2_; have HB := n3_; clear n0_ n1_ n2_ n3_; (try clear hb); (try clear hb2); (try clear hk); (try clear hi); (try clear ho0)) | (go_at_call 13; (with_reducible refine (impl_CountCovers.calls kj15 _ _ t138 t139 t150 t151 _ ?side1 ?side2 A68.out).mono ?_); (case side1 => repeat (first | exact (Kd.R_reads' HO141.out).2.2 | (with_reducible refine Kd.C_alloc ?_ _) | (with_reducible refine Kd.C_drewN ?_ _) | (with_reducible refine Kd.C_drew ?_))); (case side2 => exact (Kd.R_reads' HO141.out).2.1); rintro e w78 ⟨rfl, hb⟩; have n0_ := Aside0.mk (HO141.mv hb); have n1_ := Aside0.mk (HO145.mv hb); have n2_ := Aside0.mk (HO149.mv hb); have n3_ := Aside0.mk (HB.mv hb); clear HO141; clear HO145; clear HO149; clear HB; have HO141 := n0_; have HO145 := n1_; have HO149 := n2_; have HB := n3_; clear n0_ n1_ n2_ n3_; (try clear hb); (try clear hb2); (try clear hk); (try clear hi)) | (go_at_call 18; (with_reducible refine (spec_CountCovers.calls kj15 _ _ t138 t139 t152 t153 _ ?side1 ?side2 A69.out).mono ?_); (case side1 => repeat (first | exact (Kd.R_reads' HO141.out).2.2 | (with_reducible refine Kd.C_alloc ?_ _) | (with_reducible refine Kd.C_drewN ?_ _) | (with_reducible refine Kd.C_drew ?_))); (case side2 => exact (Kd.R_reads' HO141.out).2.1); rintro e w79 ⟨rfl, hb⟩; have n0_ := Aside0.mk (HO141.mv hb); have n1_ := Aside0.mk (HO145.mv hb); have n2_ := Aside0.mk (HO149.mv hb); have n3_ := Aside0.mk (HB.mv hb); clear HO141; clear HO145; clear HO149; clear HB; have HO141 := n0_; have HO145 := n1_; have HO149 := n2_; have HB := n3_; clear n0_ n1_ n2_ n3_; (try clear hb); (try clear hb2); (try clear hk); (try clear hi)) | (go_at_call 19; (with_reducible refine (spec_DrawIsCover.calls kj15 _ _ l1 t154 t155 _ ?side1 ?side2 A70.out).mono ?_); (case side1 => repeat (first | exact (Kd.C_below HR1.out HB.out) | (with_reducible refine Kd.C_alloc ?_ _) | (with_reducible refine Kd.C_drewN ?_ _) | (with_reducible refine Kd.C_drew ?_))); (case side2 => exact HC1.out); rintro e w80 ⟨v156, rfl, ho0, hb⟩; have n0_ := Aside0.mk (HO141.mv hb); have n1_ := Aside0.mk (Kd.R_elder' (by apply_rules only [HO145.out, Kd.R_alloc, Kd.R_drewN, Kd.R_drew]) (Kd.R_base ho0) hb); have n2_ := Aside0.mk (Kd.R_elder' (by apply_rules only [HO149.out, Kd.R_alloc, Kd.R_drewN, Kd.R_drew]) (Kd.R_base ho0) hb); have n3_ := Aside0.mk (Kd.R_lower (Kd.R_new' (Kd.R_new' ho0 (Kd.R_lt (by apply_rules only [HO145.out, Kd.R_alloc, Kd.R_drewN, Kd.R_drew]))) (Kd.R_lt (by apply_rules only [HO149.out, Kd.R_alloc, Kd.R_drewN, Kd.R_drew]))) (below_size (by apply_rules only [HB.out, below_alloc, pw_below_drewN, below_drew1]))); have n4_ := Aside0.mk (HB.mv hb); clear HO141; clear HO145; clear HO149; clear HB; have HO141 := n0_; have HO145 := n1_; have HO149 := n2_; have HO157 := n3_; have HB := n4_; clear n0_ n1_ n2_ n3_ n4_; (try clear hb); (try clear hb2); (try clear hk); (try clear hi); (try clear ho0); obtain ⟨Ao81, co81, eo81⟩ := Kd.R_slice HO157.out; subst eo81) | (go_at_call 14; (with_reducible refine (impl_IsCover.calls kj15 _ _ t154 t155 t158 t159 _ ?side1 ?side2 A71.out).mono ?_); (case side1 => repeat (first | exact (Kd.R_reads' HO157.out).2.2 | (with_reducible refine Kd.C_alloc ?_ _) | (with_reducible refine Kd.C_drewN ?_ _) | (with_reducible refine Kd.C_drew ?_))); (case side2 => exact (Kd.R_reads' HO157.out).2.1); rintro e w82 ⟨rfl, hb⟩; have n0_ := Aside0.mk (HO141.mv hb); have n1_ := Aside0.mk (HO145.mv hb); have n2_ := Aside0.mk (HO149.mv hb); have n3_ := Aside0.mk (HO157.mv hb); have n4_ := Aside0.mk (HB.mv hb); clear HO141; clear HO145; clear HO149; clear HO157; clear HB; have HO141 := n0_; have HO145 := n1_; have HO149 := n2_; have HO157 := n3_; have HB := n4_; clear n0_ n1_ n2_ n3_ n4_; (try clear hb); (try clear hb2); (try clear hk); (try clear hi)) | (go_at_call 20; (with_reducible refine (spec_IsCover.calls kj15 _ _ t154 t155 t160 t161 _ ?side1 ?side2 A72.out).mono ?_); (case side1 => repeat (first | exact (Kd.R_reads' HO157.out).2.2 | (with_reducible refine Kd.C_alloc ?_ _) | (with_reducible refine Kd.C_drewN ?_ _) | (with_reducible refine Kd.C_drew ?_))); (case side2 => exact (Kd.R_reads' HO157.out).2.1); rintro e w83 ⟨rfl, hb⟩; have n0_ := Aside0.mk (HO141.mv hb); have n1_ := Aside0.mk (HO145.mv hb); have n2_ := Aside0.mk (HO149.mv hb); have n3_ := Aside0.mk (HO157.mv hb); have n4_ := Aside0.mk (HB.mv hb); clear HO141; clear HO145; clear HO149; clear HO157; clear HB; have HO141 := n0_; have HO145 := n1_; have HO149 := n2_; have HO157 := n3_; have HB := n4_; clear n0_ n1_ n2_ n3_ n4_; (try clear hb); (try clear hb2); (try clear hk); (try clear hi))))
         (try simp only [Act.put, List.setIfInBounds_toArray, List.set_cons_zero, List.set_cons_succ])
         go_cut [290] from 207 to 290 (fun v290 wc => ∃ (kq : Nat) (x290_72 : Bool), v290 = .bool x290_72 ∧ Aside0 (laws_FnCoversFound.j4 kq t138 t139 t142 t143 t150 t154 t155 t158 t159 x290_72 = some true) ∧ Aside0 (kq ≤ kj15) ∧ Aside0 (Kd.R (Kd.int .i64) 3 wc w.heap.size (fun _ => True) (.slice Ao75 t138.length co75) t138) ∧ Aside0 (Kd.R kRule 38 wc w.heap.size (fun k_ => some k_ ≠ ((.slice Ao81 t154.length co81) : Value).ownBlock) v144 t142) ∧ Aside0 (Kd.R kRule 38 wc w.heap.size (fun k_ => some k_ ≠ (v144 : Value).ownBlock) (.slice Ao81 t154.length co81) t154) ∧ Aside0 (Below w.heap.size w wc))
         case first =>
          have H := HC73.out
          clear HC73
          by_cases c84 : (t143 != t147) = true
          ·rw [if_pos c84] at H
           have c84b0 : (t143 != t147) = true := c84
           (try (have c84b1 : decide (t143 = t147) = false := by simpa using c84))
           (try (have c84b2 : (t143 == t147) = false := by simpa using c84))
           (try (have c84b3 : ¬ (t143 = t147) := by simpa using c84))
           clear c84
           (first | rw [c84b0] | rw [c84b1] | (simp only [i64_w, i32_w]; rw [c84b0]) | skip)
           exact absurd H (by simp)
          ·rw [if_neg c84] at H
           have c84b0 : (t143 != t147) = false := by simpa using c84
           (try (have c84b1 : decide (t143 = t147) = true := by simpa using c84))
           (try (have c84b2 : (t143 == t147) = true := by simpa using c84))
           clear c84
           (first | rw [c84b0] | rw [c84b1] | (simp only [i64_w, i32_w]; rw [c84b0]) | skip)
           replace H := Option.bind_eq_some_iff.mp H
           obtain ⟨t162, A850, H⟩ := H
           (try dsimp only at H)
           have A85 := Aside0.mk A850
           clear A850
           by_cases c86 : t162 = true
           ·subst c86
            rw [if_pos rfl] at H
            by_cases c87 : (t151 != t153) = true
            ·rw [if_pos c87] at H
             have c87b0 : (t151 != t153) = true := c87
             (try (have c87b1 : decide (t151 = t153) = false := by simpa using c87))
             (try (have c87b2 : (t151 == t153) = false := by simpa using c87))
             (try (have c87b3 : ¬ (t151 = t153) := by simpa using c87))
             clear c87
             exact absurd H (by simp)
            ·rw [if_neg c87] at H
             have c87b0 : (t151 != t153) = false := by simpa using c87
             (try (have c87b1 : decide (t151 = t153) = true := by simpa using c87))
             (try (have c87b2 : (t151 == t153) = true := by simpa using c87))
             clear c87
             by_cases c88 : t150 = t152
             ·rw [if_pos c88] at H
              have c88b0 : (t150 == t152) = true := beq_iff_eq.mpr c88
              have c88b1 : (t150 != t152) = false := bne_eq_false_iff_eq.mpr c88
              clear c88
              by_cases c89 : (t159 != t161) = true
              ·rw [if_pos c89] at H
               have c89b0 : (t159 != t161) = true := c89
               (try (have c89b1 : decide (t159 = t161) = false := by simpa using c89))
               (try (have c89b2 : (t159 == t161) = false := by simpa using c89))
               (try (have c89b3 : ¬ (t159 = t161) := by simpa using c89))
               clear c89
               exact absurd H (by simp)
              ·rw [if_neg c89] at H
               have c89b0 : (t159 != t161) = false := by simpa using c89
               (try (have c89b1 : decide (t159 = t161) = true := by simpa using c89))
               (try (have c89b2 : (t159 == t161) = true := by simpa using c89))
               clear c89
               by_cases c90 : (t158 != t160) = true
               ·rw [if_pos c90] at H
                have c90b0 : (t158 != t160) = true := c90
                (try (have c90b1 : decide (t158 = t160) = false := by simpa using c90))
                (try (have c90b2 : (t158 == t160) = false := by simpa using c90))
                (try (have c90b3 : ¬ (t158 = t160) := by simpa using c90))
                clear c90
                exact absurd H (by simp)
               ·rw [if_neg c90] at H
                have c90b0 : (t158 != t160) = false := by simpa using c90
                (try (have c90b1 : decide (t158 = t160) = true := by simpa using c90))
                (try (have c90b2 : (t158 == t160) = true := by simpa using c90))
                clear c90
                by_cases c91 : t151 = true
                ·subst c91
                 rw [if_pos rfl] at H
                 have H' := Aside0.mk H
                 clear H
                 obtain ⟨Ao92, co92, eo92⟩ := Kd.R_slice HO145.out
                 subst eo92
                 obtain ⟨Ao93, co93, eo93⟩ := Kd.R_slice HO149.out
                 subst eo93
                 go_wp2_with (first | (go_at_call 11; (with_reducible refine (laws_tRules.calls kj15 _ _ t142 _ _ t146 true _ ?side1 ?side2 ?side3 ?side4 A85.out).mono ?_); (case side1 => repeat (first | exact (Kd.R_reads' HO145.out).2.2 | (with_reducible refine Kd.C_alloc ?_ _) | (with_reducible refine Kd.C_drewN ?_ _) | (with_reducible refine Kd.C_drew ?_))); (case side2 => exact (Kd.R_reads' HO145.out).2.1); (case side3 => repeat (first | exact (Kd.R_reads' HO149.out).2.2 | (with_reducible refine Kd.C_alloc ?_ _) | (with_reducible refine Kd.C_drewN ?_ _) | (with_reducible refine Kd.C_drew ?_))); (case side4 => exact (Kd.R_reads' HO149.out).2.1); rintro e w' ⟨rfl, ⟨nd, rfl⟩⟩; (try first | exact ⟨rfl, _, World.drewN_drewN _ _ _⟩ | exact ⟨rfl, _, Eq.trans (World.drewN_drewN _ _ _) (congrArg (World.drewN _) (Nat.add_assoc _ _ _))⟩)))
                 repeat (go_quiet (first | (go_at_call 11; (with_reducible refine (laws_tRules.calls kj15 _ _ t142 _ _ t146 true _ ?side1 ?side2 ?side3 ?side4 A85.out).mono ?_); (case side1 => repeat (first | exact (Kd.R_reads' HO145.out).2.2 | (with_reducible refine Kd.C_alloc ?_ _) | (with_reducible refine Kd.C_drewN ?_ _) | (with_reducible refine Kd.C_drew ?_))); (case side2 => exact (Kd.R_reads' HO145.out).2.1); (case side3 => repeat (first | exact (Kd.R_reads' HO149.out).2.2 | (with_reducible refine Kd.C_alloc ?_ _) | (with_reducible refine Kd.C_drewN ?_ _) | (with_reducible refine Kd.C_drew ?_))); (case side4 => exact (Kd.R_reads' HO149.out).2.1); rintro e w' ⟨rfl, ⟨nd, rfl⟩⟩; (try first | exact ⟨rfl, _, World.drewN_drewN _ _ _⟩ | exact ⟨rfl, _, Eq.trans (World.drewN_drewN _ _ _) (congrArg (World.drewN _) (Nat.add_assoc _ _ _))⟩))); try go_wp2_with (first | (go_at_call 11; (with_reducible refine (laws_tRules.calls kj15 _ _ t142 _ _ t146 true _ ?side1 ?side2 ?side3 ?side4 A85.out).mono ?_); (case side1 => repeat (first | exact (Kd.R_reads' HO145.out).2.2 | (with_reducible refine Kd.C_alloc ?_ _) | (with_reducible refine Kd.C_drewN ?_ _) | (with_reducible refine Kd.C_drew ?_))); (case side2 => exact (Kd.R_reads' HO145.out).2.1); (case side3 => repeat (first | exact (Kd.R_reads' HO149.out).2.2 | (with_reducible refine Kd.C_alloc ?_ _) | (with_reducible refine Kd.C_drewN ?_ _) | (with_reducible refine Kd.C_drew ?_))); (case side4 => exact (Kd.R_reads' HO149.out).2.1); rintro e w' ⟨rfl, ⟨nd, rfl⟩⟩; (try first | exact ⟨rfl, _, World.drewN_drewN _ _ _⟩ | exact ⟨rfl, _, Eq.trans (World.drewN_drewN _ _ _) (congrArg (World.drewN _) (Nat.add_assoc _ _ _))⟩))))
                 go_meet
                 case rel => exact ⟨_, ((t143 != (decide (t150 > 0)))), (by first | rfl | (simp; done) | (simp [*]; done)), H', ⟨by have := HJ15.out; first | omega | exact Nat.le_refl _⟩, ⟨by apply_rules only [HO141.out, Kd.R_alloc, Kd.R_drewN, Kd.R_drew]⟩, ⟨by (with_reducible repeat (first | apply Kd.R_alloc | apply Kd.R_drewN | apply Kd.R_drew)); exact Kd.R_mono HO145.out (fun _ hk => hk.2)⟩, ⟨by (with_reducible repeat (first | apply Kd.R_alloc | apply Kd.R_drewN | apply Kd.R_drew)); exact Kd.R_mono HO157.out (fun _ hk => hk.1.2)⟩, ⟨by apply_rules only [HB.out, below_alloc, pw_below_drewN, below_drew1]⟩⟩
                ·replace c91 := Bool.eq_false_iff.mpr c91
                 subst c91
                 rw [if_neg (show ¬ (false = true) by decide)] at H
                 have H' := Aside0.mk H
                 clear H
                 obtain ⟨Ao94, co94, eo94⟩ := Kd.R_slice HO145.out
                 subst eo94
                 obtain ⟨Ao95, co95, eo95⟩ := Kd.R_slice HO149.out
                 subst eo95
                 go_wp2_with (first | (go_at_call 11; (with_reducible refine (laws_tRules.calls kj15 _ _ t142 _ _ t146 true _ ?side1 ?side2 ?side3 ?side4 A85.out).mono ?_); (case side1 => repeat (first | exact (Kd.R_reads' HO145.out).2.2 | (with_reducible refine Kd.C_alloc ?_ _) | (with_reducible refine Kd.C_drewN ?_ _) | (with_reducible refine Kd.C_drew ?_))); (case side2 => exact (Kd.R_reads' HO145.out).2.1); (case side3 => repeat (first | exact (Kd.R_reads' HO149.out).2.2 | (with_reducible refine Kd.C_alloc ?_ _) | (with_reducible refine Kd.C_drewN ?_ _) | (with_reducible refine Kd.C_drew ?_))); (case side4 => exact (Kd.R_reads' HO149.out).2.1); rintro e w' ⟨rfl, ⟨nd, rfl⟩⟩; (try first | exact ⟨rfl, _, World.drewN_drewN _ _ _⟩ | exact ⟨rfl, _, Eq.trans (World.drewN_drewN _ _ _) (congrArg (World.drewN _) (Nat.add_assoc _ _ _))⟩)))
                 repeat (go_quiet (first | (go_at_call 11; (with_reducible refine (laws_tRules.calls kj15 _ _ t142 _ _ t146 true _ ?side1 ?side2 ?side3 ?side4 A85.out).mono ?_); (case side1 => repeat (first | exact (Kd.R_reads' HO145.out).2.2 | (with_reducible refine Kd.C_alloc ?_ _) | (with_reducible refine Kd.C_drewN ?_ _) | (with_reducible refine Kd.C_drew ?_))); (case side2 => exact (Kd.R_reads' HO145.out).2.1); (case side3 => repeat (first | exact (Kd.R_reads' HO149.out).2.2 | (with_reducible refine Kd.C_alloc ?_ _) | (with_reducible refine Kd.C_drewN ?_ _) | (with_reducible refine Kd.C_drew ?_))); (case side4 => exact (Kd.R_reads' HO149.out).2.1); rintro e w' ⟨rfl, ⟨nd, rfl⟩⟩; (try first | exact ⟨rfl, _, World.drewN_drewN _ _ _⟩ | exact ⟨rfl, _, Eq.trans (World.drewN_drewN _ _ _) (congrArg (World.drewN _) (Nat.add_assoc _ _ _))⟩))); try go_wp2_with (first | (go_at_call 11; (with_reducible refine (laws_tRules.calls kj15 _ _ t142 _ _ t146 true _ ?side1 ?side2 ?side3 ?side4 A85.out).mono ?_); (case side1 => repeat (first | exact (Kd.R_reads' HO145.out).2.2 | (with_reducible refine Kd.C_alloc ?_ _) | (with_reducible refine Kd.C_drewN ?_ _) | (with_reducible refine Kd.C_drew ?_))); (case side2 => exact (Kd.R_reads' HO145.out).2.1); (case side3 => repeat (first | exact (Kd.R_reads' HO149.out).2.2 | (with_reducible refine Kd.C_alloc ?_ _) | (with_reducible refine Kd.C_drewN ?_ _) | (with_reducible refine Kd.C_drew ?_))); (case side4 => exact (Kd.R_reads' HO149.out).2.1); rintro e w' ⟨rfl, ⟨nd, rfl⟩⟩; (try first | exact ⟨rfl, _, World.drewN_drewN _ _ _⟩ | exact ⟨rfl, _, Eq.trans (World.drewN_drewN _ _ _) (congrArg (World.drewN _) (Nat.add_assoc _ _ _))⟩))))
                 go_meet
                 case rel => exact ⟨_, ((t143 != false)), (by first | rfl | (simp; done) | (simp [*]; done)), H', ⟨by have := HJ15.out; first | omega | exact Nat.le_refl _⟩, ⟨by apply_rules only [HO141.out, Kd.R_alloc, Kd.R_drewN, Kd.R_drew]⟩, ⟨by (with_reducible repeat (first | apply Kd.R_alloc | apply Kd.R_drewN | apply Kd.R_drew)); exact Kd.R_mono HO145.out (fun _ hk => hk.2)⟩, ⟨by (with_reducible repeat (first | apply Kd.R_alloc | apply Kd.R_drewN | apply Kd.R_drew)); exact Kd.R_mono HO157.out (fun _ hk => hk.1.2)⟩, ⟨by apply_rules only [HB.out, below_alloc, pw_below_drewN, below_drew1]⟩⟩
             ·rw [if_neg c88] at H
              have c88b0 : (t150 == t152) = false := beq_eq_false_iff_ne.mpr c88
              have c88b1 : (t150 != t152) = true := bne_iff_ne.mpr c88
              exact absurd H (by simp)
           ·replace c86 := Bool.eq_false_iff.mpr c86
            subst c86
            rw [if_neg (show ¬ (false = true) by decide)] at H
            exact absurd H (by simp)
         case rest =>
          clear HC73
          (try clear c4); (try clear c10); (try clear c10b0); (try clear c10b1); (try clear c10b2); (try clear c11); (try clear c11b0); (try clear c11b1); (try clear c12); (try clear c12b0); (try clear c12b1); (try clear c12b2); (try clear c14); (try clear c15); (try clear c15b0); (try clear c15b1); (try clear c15b2)
          obtain ⟨kq, x290_72, rfl, HA, HJ72, HO_26, HO_28, HO_36, HB⟩ := hcut
          cases kq with
          | zero => exact absurd HA.out (by simp [laws_FnCoversFound.j4])
          | succ kj72 =>
           have H := HA.out
           clear HA
           simp only [laws_FnCoversFound.j4] at H
           by_cases c96 : x290_72 = true
           ·subst c96
            rw [if_pos rfl] at H
            exact absurd H (by simp)
           ·replace c96 := Bool.eq_false_iff.mpr c96
            subst c96
            rw [if_neg (show ¬ (false = true) by decide)] at H
            by_cases c97 : t143 = true
            ·subst c97
             rw [if_pos rfl] at H
             replace H := Option.bind_eq_some_iff.mp H
             obtain ⟨⟨t163, t164⟩, A980, H⟩ := H
             (try dsimp only at H)
             have A98 := Aside0.mk A980
             clear A980
             by_cases c99 : t164 = true
             ·subst c99
              rw [if_pos rfl] at H
              by_cases c100 : t163 = true
              ·subst c100
               rw [if_pos rfl] at H
               by_cases c101 : (t142.length : Int) = (t138.length : Int)
               ·rw [if_pos c101] at H
                have c101b0 : ((t142.length : Int) == (t138.length : Int)) = true := beq_iff_eq.mpr c101
                have c101b1 : ((t142.length : Int) != (t138.length : Int)) = false := bne_eq_false_iff_eq.mpr c101
                have c101b2 : (t142.length == t138.length) = true := by first | simpa using c101 | (simp at c101 ⊢; omega)
                clear c101
                by_cases c102 : t139 > 0
                ·rw [if_pos c102] at H
                 have c102b0 : decide (0 < t139) = true := decide_eq_true c102
                 clear c102
                 replace H := Option.bind_eq_some_iff.mp H
                 obtain ⟨⟨t165, t166⟩, A1030, H⟩ := H
                 (try dsimp only at H)
                 have A103 := Aside0.mk A1030
                 clear A1030
                 by_cases c104 : t166 = true
                 ·subst c104
                  rw [if_pos rfl] at H
                  by_cases c105 : t165 < t150
                  ·rw [if_pos c105] at H
                   have c105b0 : decide (t165 < t150) = true := decide_eq_true c105
                   clear c105
                   exact absurd H (by simp)
                  ·rw [if_neg c105] at H
                   have c105b0 : decide (t165 < t150) = false := decide_eq_false c105
                   clear c105
                   by_cases c106 : t159 = true
                   ·subst c106
                    rw [if_pos rfl] at H
                    replace H := Option.bind_eq_some_iff.mp H
                    obtain ⟨⟨t167, t168⟩, A1070, H⟩ := H
                    (try dsimp only at H)
                    have A107 := Aside0.mk A1070
                    clear A1070
                    by_cases c108 : t168 = true
                    ·subst c108
                     rw [if_pos rfl] at H
                     have HV_ := Option.some.inj H
                     try subst HV_
                     obtain ⟨Ao109, co109, eo109⟩ := Kd.R_slice HO_28.out
                     subst eo109
                     go_wp2_with (first | (go_at_call 14; (with_reducible refine (impl_IsCover.calls kj72 _ _ t142 t139 true true _ ?side1 ?side2 A98.out).mono ?_); (case side1 => repeat (first | exact (Kd.R_reads' HO_28.out).2.2 | (with_reducible refine Kd.C_alloc ?_ _) | (with_reducible refine Kd.C_drewN ?_ _) | (with_reducible refine Kd.C_drew ?_))); (case side2 => exact (Kd.R_reads' HO_28.out).2.1); rintro e w110 ⟨rfl, hb⟩; have n0_ := Aside0.mk (HO_26.mv hb); have n1_ := Aside0.mk (HO_28.mv hb); have n2_ := Aside0.mk (HO_36.mv hb); have n3_ := Aside0.mk (HB.mv hb); clear HO_26; clear HO_28; clear HO_36; clear HB; have HO_26 := n0_; have HO_28 := n1_; have HO_36 := n2_; have HB := n3_; clear n0_ n1_ n2_ n3_; (try clear hb); (try clear hb2); (try clear hk); (try clear hi)) | (go_at_call 13; (with_reducible refine (impl_CountCovers.calls kj72 _ _ t138 (wrap64 (t139 - 1)) t165 true _ ?side1 ?side2 A103.out).mono ?_); (case side1 => repeat (first | exact (Kd.R_reads' HO_26.out).2.2 | (with_reducible refine Kd.C_alloc ?_ _) | (with_reducible refine Kd.C_drewN ?_ _) | (with_reducible refine Kd.C_drew ?_))); (case side2 => exact (Kd.R_reads' HO_26.out).2.1); rintro e w111 ⟨rfl, hb⟩; have n0_ := Aside0.mk (HO_26.mv hb); have n1_ := Aside0.mk (HO_28.mv hb); have n2_ := Aside0.mk (HO_36.mv hb); have n3_ := Aside0.mk (HB.mv hb); clear HO_26; clear HO_28; clear HO_36; clear HB; have HO_26 := n0_; have HO_28 := n1_; have HO_36 := n2_; have HB := n3_; clear n0_ n1_ n2_ n3_; (try clear hb); (try clear hb2); (try clear hk); (try clear hi)) | (go_at_call 21; (with_reducible refine (impl_CountLeft.calls kj72 _ _ t154 t155 t167 true _ ?side1 ?side2 A107.out).mono ?_); (case side1 => repeat (first | exact (Kd.R_reads' HO_36.out).2.2 | (with_reducible refine Kd.C_alloc ?_ _) | (with_reducible refine Kd.C_drewN ?_ _) | (with_reducible refine Kd.C_drew ?_))); (case side2 => exact (Kd.R_reads' HO_36.out).2.1); rintro e w112 ⟨rfl, hb⟩; have n0_ := Aside0.mk (HO_26.mv hb); have n1_ := Aside0.mk (HO_28.mv hb); have n2_ := Aside0.mk (HO_36.mv hb); have n3_ := Aside0.mk (HB.mv hb); clear HO_26; clear HO_28; clear HO_36; clear HB; have HO_26 := n0_; have HO_28 := n1_; have HO_36 := n2_; have HB := n3_; clear n0_ n1_ n2_ n3_; (try clear hb); (try clear hb2); (try clear hk); (try clear hi)))
                     repeat (go_quiet (first | (go_at_call 14; (with_reducible refine (impl_IsCover.calls kj72 _ _ t142 t139 true true _ ?side1 ?side2 A98.out).mono ?_); (case side1 => repeat (first | exact (Kd.R_reads' HO_28.out).2.2 | (with_reducible refine Kd.C_alloc ?_ _) | (with_reducible refine Kd.C_drewN ?_ _) | (with_reducible refine Kd.C_drew ?_))); (case side2 => exact (Kd.R_reads' HO_28.out).2.1); rintro e w110 ⟨rfl, hb⟩; have n0_ := Aside0.mk (HO_26.mv hb); have n1_ := Aside0.mk (HO_28.mv hb); have n2_ := Aside0.mk (HO_36.mv hb); have n3_ := Aside0.mk (HB.mv hb); clear HO_26; clear HO_28; clear HO_36; clear HB; have HO_26 := n0_; have HO_28 := n1_; have HO_36 := n2_; have HB := n3_; clear n0_ n1_ n2_ n3_; (try clear hb); (try clear hb2); (try clear hk); (try clear hi)) | (go_at_call 13; (with_reducible refine (impl_CountCovers.calls kj72 _ _ t138 (wrap64 (t139 - 1)) t165 true _ ?side1 ?side2 A103.out).mono ?_); (case side1 => repeat (first | exact (Kd.R_reads' HO_26.out).2.2 | (with_reducible refine Kd.C_alloc ?_ _) | (with_reducible refine Kd.C_drewN ?_ _) | (with_reducible refine Kd.C_drew ?_))); (case side2 => exact (Kd.R_reads' HO_26.out).2.1); rintro e w111 ⟨rfl, hb⟩; have n0_ := Aside0.mk (HO_26.mv hb); have n1_ := Aside0.mk (HO_28.mv hb); have n2_ := Aside0.mk (HO_36.mv hb); have n3_ := Aside0.mk (HB.mv hb); clear HO_26; clear HO_28; clear HO_36; clear HB; have HO_26 := n0_; have HO_28 := n1_; have HO_36 := n2_; have HB := n3_; clear n0_ n1_ n2_ n3_; (try clear hb); (try clear hb2); (try clear hk); (try clear hi)) | (go_at_call 21; (with_reducible refine (impl_CountLeft.calls kj72 _ _ t154 t155 t167 true _ ?side1 ?side2 A107.out).mono ?_); (case side1 => repeat (first | exact (Kd.R_reads' HO_36.out).2.2 | (with_reducible refine Kd.C_alloc ?_ _) | (with_reducible refine Kd.C_drewN ?_ _) | (with_reducible refine Kd.C_drew ?_))); (case side2 => exact (Kd.R_reads' HO_36.out).2.1); rintro e w112 ⟨rfl, hb⟩; have n0_ := Aside0.mk (HO_26.mv hb); have n1_ := Aside0.mk (HO_28.mv hb); have n2_ := Aside0.mk (HO_36.mv hb); have n3_ := Aside0.mk (HB.mv hb); clear HO_26; clear HO_28; clear HO_36; clear HB; have HO_26 := n0_; have HO_28 := n1_; have HO_36 := n2_; have HB := n3_; clear n0_ n1_ n2_ n3_; (try clear hb); (try clear hb2); (try clear hk); (try clear hi))); try go_wp2_with (first | (go_at_call 14; (with_reducible refine (impl_IsCover.calls kj72 _ _ t142 t139 true true _ ?side1 ?side2 A98.out).mono ?_); (case side1 => repeat (first | exact (Kd.R_reads' HO_28.out).2.2 | (with_reducible refine Kd.C_alloc ?_ _) | (with_reducible refine Kd.C_drewN ?_ _) | (with_reducible refine Kd.C_drew ?_))); (case side2 => exact (Kd.R_reads' HO_28.out).2.1); rintro e w110 ⟨rfl, hb⟩; have n0_ := Aside0.mk (HO_26.mv hb); have n1_ := Aside0.mk (HO_28.mv hb); have n2_ := Aside0.mk (HO_36.mv hb); have n3_ := Aside0.mk (HB.mv hb); clear HO_26; clear HO_28; clear HO_36; clear HB; have HO_26 := n0_; have HO_28 := n1_; have HO_36 := n2_; have HB := n3_; clear n0_ n1_ n2_ n3_; (try clear hb); (try clear hb2); (try clear hk); (try clear hi)) | (go_at_call 13; (with_reducible refine (impl_CountCovers.calls kj72 _ _ t138 (wrap64 (t139 - 1)) t165 true _ ?side1 ?side2 A103.out).mono ?_); (case side1 => repeat (first | exact (Kd.R_reads' HO_26.out).2.2 | (with_reducible refine Kd.C_alloc ?_ _) | (with_reducible refine Kd.C_drewN ?_ _) | (with_reducible refine Kd.C_drew ?_))); (case side2 => exact (Kd.R_reads' HO_26.out).2.1); rintro e w111 ⟨rfl, hb⟩; have n0_ := Aside0.mk (HO_26.mv hb); have n1_ := Aside0.mk (HO_28.mv hb); have n2_ := Aside0.mk (HO_36.mv hb); have n3_ := Aside0.mk (HB.mv hb); clear HO_26; clear HO_28; clear HO_36; clear HB; have HO_26 := n0_; have HO_28 := n1_; have HO_36 := n2_; have HB := n3_; clear n0_ n1_ n2_ n3_; (try clear hb); (try clear hb2); (try clear hk); (try clear hi)) | (go_at_call 21; (with_reducible refine (impl_CountLeft.calls kj72 _ _ t154 t155 t167 true _ ?side1 ?side2 A107.out).mono ?_); (case side1 => repeat (first | exact (Kd.R_reads' HO_36.out).2.2 | (with_reducible refine Kd.C_alloc ?_ _) | (with_reducible refine Kd.C_drewN ?_ _) | (with_reducible refine Kd.C_drew ?_))); (case side2 => exact (Kd.R_reads' HO_36.out).2.1); rintro e w112 ⟨rfl, hb⟩; have n0_ := Aside0.mk (HO_26.mv hb); have n1_ := Aside0.mk (HO_28.mv hb); have n2_ := Aside0.mk (HO_36.mv hb); have n3_ := Aside0.mk (HB.mv hb); clear HO_26; clear HO_28; clear HO_36; clear HB; have HO_26 := n0_; have HO_28 := n1_; have HO_36 := n2_; have HB := n3_; clear n0_ n1_ n2_ n3_; (try clear hb); (try clear hb2); (try clear hk); (try clear hi))))
                     go_ret
                     exact ⟨by first | rfl | (simp [errW_none, errW_some] <;> rfl) | (simp [*, errW_none, errW_some] <;> rfl), by apply_rules only [HB.out, below_alloc, pw_below_drewN, below_drew1]⟩
                    ·replace c108 := Bool.eq_false_iff.mpr c108
                     subst c108
                     rw [if_neg (show ¬ (false = true) by decide)] at H
                     exact absurd H (by simp)
                   ·replace c106 := Bool.eq_false_iff.mpr c106
                    subst c106
                    have H1 : (some true) = some true := rfl
                    clear H
                    have H := H1
                    clear H1
                    clear H
                    obtain ⟨Ao113, co113, eo113⟩ := Kd.R_slice HO_28.out
                    subst eo113
                    go_wp2_with (first | (go_at_call 14; (with_reducible refine (impl_IsCover.calls kj72 _ _ t142 t139 true true _ ?side1 ?side2 A98.out).mono ?_); (case side1 => repeat (first | exact (Kd.R_reads' HO_28.out).2.2 | (with_reducible refine Kd.C_alloc ?_ _) | (with_reducible refine Kd.C_drewN ?_ _) | (with_reducible refine Kd.C_drew ?_))); (case side2 => exact (Kd.R_reads' HO_28.out).2.1); rintro e w114 ⟨rfl, hb⟩; have n0_ := Aside0.mk (HO_26.mv hb); have n1_ := Aside0.mk (HO_28.mv hb); have n2_ := Aside0.mk (HO_36.mv hb); have n3_ := Aside0.mk (HB.mv hb); clear HO_26; clear HO_28; clear HO_36; clear HB; have HO_26 := n0_; have HO_28 := n1_; have HO_36 := n2_; have HB := n3_; clear n0_ n1_ n2_ n3_; (try clear hb); (try clear hb2); (try clear hk); (try clear hi)) | (go_at_call 13; (with_reducible refine (impl_CountCovers.calls kj72 _ _ t138 (wrap64 (t139 - 1)) t165 true _ ?side1 ?side2 A103.out).mono ?_); (case side1 => repeat (first | exact (Kd.R_reads' HO_26.out).2.2 | (with_reducible refine Kd.C_alloc ?_ _) | (with_reducible refine Kd.C_drewN ?_ _) | (with_reducible refine Kd.C_drew ?_))); (case side2 => exact (Kd.R_reads' HO_26.out).2.1); rintro e w115 ⟨rfl, hb⟩; have n0_ := Aside0.mk (HO_26.mv hb); have n1_ := Aside0.mk (HO_28.mv hb); have n2_ := Aside0.mk (HO_36.mv hb); have n3_ := Aside0.mk (HB.mv hb); clear HO_26; clear HO_28; clear HO_36; clear HB; have HO_26 := n0_; have HO_28 := n1_; have HO_36 := n2_; have HB := n3_; clear n0_ n1_ n2_ n3_; (try clear hb); (try clear hb2); (try clear hk); (try clear hi)))
                    repeat (go_quiet (first | (go_at_call 14; (with_reducible refine (impl_IsCover.calls kj72 _ _ t142 t139 true true _ ?side1 ?side2 A98.out).mono ?_); (case side1 => repeat (first | exact (Kd.R_reads' HO_28.out).2.2 | (with_reducible refine Kd.C_alloc ?_ _) | (with_reducible refine Kd.C_drewN ?_ _) | (with_reducible refine Kd.C_drew ?_))); (case side2 => exact (Kd.R_reads' HO_28.out).2.1); rintro e w114 ⟨rfl, hb⟩; have n0_ := Aside0.mk (HO_26.mv hb); have n1_ := Aside0.mk (HO_28.mv hb); have n2_ := Aside0.mk (HO_36.mv hb); have n3_ := Aside0.mk (HB.mv hb); clear HO_26; clear HO_28; clear HO_36; clear HB; have HO_26 := n0_; have HO_28 := n1_; have HO_36 := n2_; have HB := n3_; clear n0_ n1_ n2_ n3_; (try clear hb); (try clear hb2); (try clear hk); (try clear hi)) | (go_at_call 13; (with_reducible refine (impl_CountCovers.calls kj72 _ _ t138 (wrap64 (t139 - 1)) t165 true _ ?side1 ?side2 A103.out).mono ?_); (case side1 => repeat (first | exact (Kd.R_reads' HO_26.out).2.2 | (with_reducible refine Kd.C_alloc ?_ _) | (with_reducible refine Kd.C_drewN ?_ _) | (with_reducible refine Kd.C_drew ?_))); (case side2 => exact (Kd.R_reads' HO_26.out).2.1); rintro e w115 ⟨rfl, hb⟩; have n0_ := Aside0.mk (HO_26.mv hb); have n1_ := Aside0.mk (HO_28.mv hb); have n2_ := Aside0.mk (HO_36.mv hb); have n3_ := Aside0.mk (HB.mv hb); clear HO_26; clear HO_28; clear HO_36; clear HB; have HO_26 := n0_; have HO_28 := n1_; have HO_36 := n2_; have HB := n3_; clear n0_ n1_ n2_ n3_; (try clear hb); (try clear hb2); (try clear hk); (try clear hi))); try go_wp2_with (first | (go_at_call 14; (with_reducible refine (impl_IsCover.calls kj72 _ _ t142 t139 true true _ ?side1 ?side2 A98.out).mono ?_); (case side1 => repeat (first | exact (Kd.R_reads' HO_28.out).2.2 | (with_reducible refine Kd.C_alloc ?_ _) | (with_reducible refine Kd.C_drewN ?_ _) | (with_reducible refine Kd.C_drew ?_))); (case side2 => exact (Kd.R_reads' HO_28.out).2.1); rintro e w114 ⟨rfl, hb⟩; have n0_ := Aside0.mk (HO_26.mv hb); have n1_ := Aside0.mk (HO_28.mv hb); have n2_ := Aside0.mk (HO_36.mv hb); have n3_ := Aside0.mk (HB.mv hb); clear HO_26; clear HO_28; clear HO_36; clear HB; have HO_26 := n0_; have HO_28 := n1_; have HO_36 := n2_; have HB := n3_; clear n0_ n1_ n2_ n3_; (try clear hb); (try clear hb2); (try clear hk); (try clear hi)) | (go_at_call 13; (with_reducible refine (impl_CountCovers.calls kj72 _ _ t138 (wrap64 (t139 - 1)) t165 true _ ?side1 ?side2 A103.out).mono ?_); (case side1 => repeat (first | exact (Kd.R_reads' HO_26.out).2.2 | (with_reducible refine Kd.C_alloc ?_ _) | (with_reducible refine Kd.C_drewN ?_ _) | (with_reducible refine Kd.C_drew ?_))); (case side2 => exact (Kd.R_reads' HO_26.out).2.1); rintro e w115 ⟨rfl, hb⟩; have n0_ := Aside0.mk (HO_26.mv hb); have n1_ := Aside0.mk (HO_28.mv hb); have n2_ := Aside0.mk (HO_36.mv hb); have n3_ := Aside0.mk (HB.mv hb); clear HO_26; clear HO_28; clear HO_36; clear HB; have HO_26 := n0_; have HO_28 := n1_; have HO_36 := n2_; have HB := n3_; clear n0_ n1_ n2_ n3_; (try clear hb); (try clear hb2); (try clear hk); (try clear hi))))
                    go_ret
                    exact ⟨by first | rfl | (simp [errW_none, errW_some] <;> rfl) | (simp [*, errW_none, errW_some] <;> rfl), by apply_rules only [HB.out, below_alloc, pw_below_drewN, below_drew1]⟩
                 ·replace c104 := Bool.eq_false_iff.mpr c104
                  subst c104
                  rw [if_neg (show ¬ (false = true) by decide)] at H
                  exact absurd H (by simp)
                ·rw [if_neg c102] at H
                 have c102b0 : decide (0 < t139) = false := decide_eq_false c102
                 clear c102
                 by_cases c116 : t159 = true
                 ·subst c116
                  rw [if_pos rfl] at H
                  replace H := Option.bind_eq_some_iff.mp H
                  obtain ⟨⟨t169, t170⟩, A1170, H⟩ := H
                  (try dsimp only at H)
                  have A117 := Aside0.mk A1170
                  clear A1170
                  by_cases c118 : t170 = true
                  ·subst c118
                   rw [if_pos rfl] at H
                   have HV_ := Option.some.inj H
                   try subst HV_
                   obtain ⟨Ao119, co119, eo119⟩ := Kd.R_slice HO_28.out
                   subst eo119
                   go_wp2_with (first | (go_at_call 14; (with_reducible refine (impl_IsCover.calls kj72 _ _ t142 t139 true true _ ?side1 ?side2 A98.out).mono ?_); (case side1 => repeat (first | exact (Kd.R_reads' HO_28.out).2.2 | (with_reducible refine Kd.C_alloc ?_ _) | (with_reducible refine Kd.C_drewN ?_ _) | (with_reducible refine Kd.C_drew ?_))); (case side2 => exact (Kd.R_reads' HO_28.out).2.1); rintro e w120 ⟨rfl, hb⟩; have n0_ := Aside0.mk (HO_26.mv hb); have n1_ := Aside0.mk (HO_28.mv hb); have n2_ := Aside0.mk (HO_36.mv hb); have n3_ := Aside0.mk (HB.mv hb); clear HO_26; clear HO_28; clear HO_36; clear HB; have HO_26 := n0_; have HO_28 := n1_; have HO_36 := n2_; have HB := n3_; clear n0_ n1_ n2_ n3_; (try clear hb); (try clear hb2); (try clear hk); (try clear hi)) | (go_at_call 21; (with_reducible refine (impl_CountLeft.calls kj72 _ _ t154 t155 t169 true _ ?side1 ?side2 A117.out).mono ?_); (case side1 => repeat (first | exact (Kd.R_reads' HO_36.out).2.2 | (with_reducible refine Kd.C_alloc ?_ _) | (with_reducible refine Kd.C_drewN ?_ _) | (with_reducible refine Kd.C_drew ?_))); (case side2 => exact (Kd.R_reads' HO_36.out).2.1); rintro e w121 ⟨rfl, hb⟩; have n0_ := Aside0.mk (HO_26.mv hb); have n1_ := Aside0.mk (HO_28.mv hb); have n2_ := Aside0.mk (HO_36.mv hb); have n3_ := Aside0.mk (HB.mv hb); clear HO_26; clear HO_28; clear HO_36; clear HB; have HO_26 := n0_; have HO_28 := n1_; have HO_36 := n2_; have HB := n3_; clear n0_ n1_ n2_ n3_; (try clear hb); (try clear hb2); (try clear hk); (try clear hi)))
                   repeat (go_quiet (first | (go_at_call 14; (with_reducible refine (impl_IsCover.calls kj72 _ _ t142 t139 true true _ ?side1 ?side2 A98.out).mono ?_); (case side1 => repeat (first | exact (Kd.R_reads' HO_28.out).2.2 | (with_reducible refine Kd.C_alloc ?_ _) | (with_reducible refine Kd.C_drewN ?_ _) | (with_reducible refine Kd.C_drew ?_))); (case side2 => exact (Kd.R_reads' HO_28.out).2.1); rintro e w120 ⟨rfl, hb⟩; have n0_ := Aside0.mk (HO_26.mv hb); have n1_ := Aside0.mk (HO_28.mv hb); have n2_ := Aside0.mk (HO_36.mv hb); have n3_ := Aside0.mk (HB.mv hb); clear HO_26; clear HO_28; clear HO_36; clear HB; have HO_26 := n0_; have HO_28 := n1_; have HO_36 := n2_; have HB := n3_; clear n0_ n1_ n2_ n3_; (try clear hb); (try clear hb2); (try clear hk); (try clear hi)) | (go_at_call 21; (with_reducible refine (impl_CountLeft.calls kj72 _ _ t154 t155 t169 true _ ?side1 ?side2 A117.out).mono ?_); (case side1 => repeat (first | exact (Kd.R_reads' HO_36.out).2.2 | (with_reducible refine Kd.C_alloc ?_ _) | (with_reducible refine Kd.C_drewN ?_ _) | (with_reducible refine Kd.C_drew ?_))); (case side2 => exact (Kd.R_reads' HO_36.out).2.1); rintro e w121 ⟨rfl, hb⟩; have n0_ := Aside0.mk (HO_26.mv hb); have n1_ := Aside0.mk (HO_28.mv hb); have n2_ := Aside0.mk (HO_36.mv hb); have n3_ := Aside0.mk (HB.mv hb); clear HO_26; clear HO_28; clear HO_36; clear HB; have HO_26 := n0_; have HO_28 := n1_; have HO_36 := n2_; have HB := n3_; clear n0_ n1_ n2_ n3_; (try clear hb); (try clear hb2); (try clear hk); (try clear hi))); try go_wp2_with (first | (go_at_call 14; (with_reducible refine (impl_IsCover.calls kj72 _ _ t142 t139 true true _ ?side1 ?side2 A98.out).mono ?_); (case side1 => repeat (first | exact (Kd.R_reads' HO_28.out).2.2 | (with_reducible refine Kd.C_alloc ?_ _) | (with_reducible refine Kd.C_drewN ?_ _) | (with_reducible refine Kd.C_drew ?_))); (case side2 => exact (Kd.R_reads' HO_28.out).2.1); rintro e w120 ⟨rfl, hb⟩; have n0_ := Aside0.mk (HO_26.mv hb); have n1_ := Aside0.mk (HO_28.mv hb); have n2_ := Aside0.mk (HO_36.mv hb); have n3_ := Aside0.mk (HB.mv hb); clear HO_26; clear HO_28; clear HO_36; clear HB; have HO_26 := n0_; have HO_28 := n1_; have HO_36 := n2_; have HB := n3_; clear n0_ n1_ n2_ n3_; (try clear hb); (try clear hb2); (try clear hk); (try clear hi)) | (go_at_call 21; (with_reducible refine (impl_CountLeft.calls kj72 _ _ t154 t155 t169 true _ ?side1 ?side2 A117.out).mono ?_); (case side1 => repeat (first | exact (Kd.R_reads' HO_36.out).2.2 | (with_reducible refine Kd.C_alloc ?_ _) | (with_reducible refine Kd.C_drewN ?_ _) | (with_reducible refine Kd.C_drew ?_))); (case side2 => exact (Kd.R_reads' HO_36.out).2.1); rintro e w121 ⟨rfl, hb⟩; have n0_ := Aside0.mk (HO_26.mv hb); have n1_ := Aside0.mk (HO_28.mv hb); have n2_ := Aside0.mk (HO_36.mv hb); have n3_ := Aside0.mk (HB.mv hb); clear HO_26; clear HO_28; clear HO_36; clear HB; have HO_26 := n0_; have HO_28 := n1_; have HO_36 := n2_; have HB := n3_; clear n0_ n1_ n2_ n3_; (try clear hb); (try clear hb2); (try clear hk); (try clear hi))))
                   go_ret
                   exact ⟨by first | rfl | (simp [errW_none, errW_some] <;> rfl) | (simp [*, errW_none, errW_some] <;> rfl), by apply_rules only [HB.out, below_alloc, pw_below_drewN, below_drew1]⟩
                  ·replace c118 := Bool.eq_false_iff.mpr c118
                   subst c118
                   rw [if_neg (show ¬ (false = true) by decide)] at H
                   exact absurd H (by simp)
                 ·replace c116 := Bool.eq_false_iff.mpr c116
                  subst c116
                  have H1 : (some true) = some true := rfl
                  clear H
                  have H := H1
                  clear H1
                  clear H
                  obtain ⟨Ao122, co122, eo122⟩ := Kd.R_slice HO_28.out
                  subst eo122
                  go_wp2_with (first | (go_at_call 14; (with_reducible refine (impl_IsCover.calls kj72 _ _ t142 t139 true true _ ?side1 ?side2 A98.out).mono ?_); (case side1 => repeat (first | exact (Kd.R_reads' HO_28.out).2.2 | (with_reducible refine Kd.C_alloc ?_ _) | (with_reducible refine Kd.C_drewN ?_ _) | (with_reducible refine Kd.C_drew ?_))); (case side2 => exact (Kd.R_reads' HO_28.out).2.1); rintro e w123 ⟨rfl, hb⟩; have n0_ := Aside0.mk (HO_26.mv hb); have n1_ := Aside0.mk (HO_28.mv hb); have n2_ := Aside0.mk (HO_36.mv hb); have n3_ := Aside0.mk (HB.mv hb); clear HO_26; clear HO_28; clear HO_36; clear HB; have HO_26 := n0_; have HO_28 := n1_; have HO_36 := n2_; have HB := n3_; clear n0_ n1_ n2_ n3_; (try clear hb); (try clear hb2); (try clear hk); (try clear hi)))
                  repeat (go_quiet (first | (go_at_call 14; (with_reducible refine (impl_IsCover.calls kj72 _ _ t142 t139 true true _ ?side1 ?side2 A98.out).mono ?_); (case side1 => repeat (first | exact (Kd.R_reads' HO_28.out).2.2 | (with_reducible refine Kd.C_alloc ?_ _) | (with_reducible refine Kd.C_drewN ?_ _) | (with_reducible refine Kd.C_drew ?_))); (case side2 => exact (Kd.R_reads' HO_28.out).2.1); rintro e w123 ⟨rfl, hb⟩; have n0_ := Aside0.mk (HO_26.mv hb); have n1_ := Aside0.mk (HO_28.mv hb); have n2_ := Aside0.mk (HO_36.mv hb); have n3_ := Aside0.mk (HB.mv hb); clear HO_26; clear HO_28; clear HO_36; clear HB; have HO_26 := n0_; have HO_28 := n1_; have HO_36 := n2_; have HB := n3_; clear n0_ n1_ n2_ n3_; (try clear hb); (try clear hb2); (try clear hk); (try clear hi))); try go_wp2_with (first | (go_at_call 14; (with_reducible refine (impl_IsCover.calls kj72 _ _ t142 t139 true true _ ?side1 ?side2 A98.out).mono ?_); (case side1 => repeat (first | exact (Kd.R_reads' HO_28.out).2.2 | (with_reducible refine Kd.C_alloc ?_ _) | (with_reducible refine Kd.C_drewN ?_ _) | (with_reducible refine Kd.C_drew ?_))); (case side2 => exact (Kd.R_reads' HO_28.out).2.1); rintro e w123 ⟨rfl, hb⟩; have n0_ := Aside0.mk (HO_26.mv hb); have n1_ := Aside0.mk (HO_28.mv hb); have n2_ := Aside0.mk (HO_36.mv hb); have n3_ := Aside0.mk (HB.mv hb); clear HO_26; clear HO_28; clear HO_36; clear HB; have HO_26 := n0_; have HO_28 := n1_; have HO_36 := n2_; have HB := n3_; clear n0_ n1_ n2_ n3_; (try clear hb); (try clear hb2); (try clear hk); (try clear hi))))
                  go_ret
                  exact ⟨by first | rfl | (simp [errW_none, errW_some] <;> rfl) | (simp [*, errW_none, errW_some] <;> rfl), by apply_rules only [HB.out, below_alloc, pw_below_drewN, below_drew1]⟩
               ·rw [if_neg c101] at H
                have c101b0 : ((t142.length : Int) == (t138.length : Int)) = false := beq_eq_false_iff_ne.mpr c101
                have c101b1 : ((t142.length : Int) != (t138.length : Int)) = true := bne_iff_ne.mpr c101
                have c101b2 : (t142.length == t138.length) = false := by first | simpa using c101 | (simp at c101 ⊢; omega)
                exact absurd H (by simp)
              ·replace c100 := Bool.eq_false_iff.mpr c100
               subst c100
               rw [if_neg (show ¬ (false = true) by decide)] at H
               exact absurd H (by simp)
             ·replace c99 := Bool.eq_false_iff.mpr c99
              subst c99
              rw [if_neg (show ¬ (false = true) by decide)] at H
              exact absurd H (by simp)
            ·replace c97 := Bool.eq_false_iff.mpr c97
             subst c97
             rw [if_neg (show ¬ (false = true) by decide)] at H
             by_cases c124 : t159 = true
             ·subst c124
              rw [if_pos rfl] at H
              replace H := Option.bind_eq_some_iff.mp H
              obtain ⟨⟨t171, t172⟩, A1250, H⟩ := H
              (try dsimp only at H)
              have A125 := Aside0.mk A1250
              clear A1250
              by_cases c126 : t172 = true
              ·subst c126
               rw [if_pos rfl] at H
               have HV_ := Option.some.inj H
               try subst HV_
               go_wp2_with (first | (go_at_call 21; (with_reducible refine (impl_CountLeft.calls kj72 _ _ t154 t155 t171 true _ ?side1 ?side2 A125.out).mono ?_); (case side1 => repeat (first | exact (Kd.R_reads' HO_36.out).2.2 | (with_reducible refine Kd.C_alloc ?_ _) | (with_reducible refine Kd.C_drewN ?_ _) | (with_reducible refine Kd.C_drew ?_))); (case side2 => exact (Kd.R_reads' HO_36.out).2.1); rintro e w127 ⟨rfl, hb⟩; have n0_ := Aside0.mk (HO_26.mv hb); have n1_ := Aside0.mk (HO_28.mv hb); have n2_ := Aside0.mk (HO_36.mv hb); have n3_ := Aside0.mk (HB.mv hb); clear HO_26; clear HO_28; clear HO_36; clear HB; have HO_26 := n0_; have HO_28 := n1_; have HO_36 := n2_; have HB := n3_; clear n0_ n1_ n2_ n3_; (try clear hb); (try clear hb2); (try clear hk); (try clear hi)))
               repeat (go_quiet (first | (go_at_call 21; (with_reducible refine (impl_CountLeft.calls kj72 _ _ t154 t155 t171 true _ ?side1 ?side2 A125.out).mono ?_); (case side1 => repeat (first | exact (Kd.R_reads' HO_36.out).2.2 | (with_reducible refine Kd.C_alloc ?_ _) | (with_reducible refine Kd.C_drewN ?_ _) | (with_reducible refine Kd.C_drew ?_))); (case side2 => exact (Kd.R_reads' HO_36.out).2.1); rintro e w127 ⟨rfl, hb⟩; have n0_ := Aside0.mk (HO_26.mv hb); have n1_ := Aside0.mk (HO_28.mv hb); have n2_ := Aside0.mk (HO_36.mv hb); have n3_ := Aside0.mk (HB.mv hb); clear HO_26; clear HO_28; clear HO_36; clear HB; have HO_26 := n0_; have HO_28 := n1_; have HO_36 := n2_; have HB := n3_; clear n0_ n1_ n2_ n3_; (try clear hb); (try clear hb2); (try clear hk); (try clear hi))); try go_wp2_with (first | (go_at_call 21; (with_reducible refine (impl_CountLeft.calls kj72 _ _ t154 t155 t171 true _ ?side1 ?side2 A125.out).mono ?_); (case side1 => repeat (first | exact (Kd.R_reads' HO_36.out).2.2 | (with_reducible refine Kd.C_alloc ?_ _) | (with_reducible refine Kd.C_drewN ?_ _) | (with_reducible refine Kd.C_drew ?_))); (case side2 => exact (Kd.R_reads' HO_36.out).2.1); rintro e w127 ⟨rfl, hb⟩; have n0_ := Aside0.mk (HO_26.mv hb); have n1_ := Aside0.mk (HO_28.mv hb); have n2_ := Aside0.mk (HO_36.mv hb); have n3_ := Aside0.mk (HB.mv hb); clear HO_26; clear HO_28; clear HO_36; clear HB; have HO_26 := n0_; have HO_28 := n1_; have HO_36 := n2_; have HB := n3_; clear n0_ n1_ n2_ n3_; (try clear hb); (try clear hb2); (try clear hk); (try clear hi))))
               go_ret
               exact ⟨by first | rfl | (simp [errW_none, errW_some] <;> rfl) | (simp [*, errW_none, errW_some] <;> rfl), by apply_rules only [HB.out, below_alloc, pw_below_drewN, below_drew1]⟩
              ·replace c126 := Bool.eq_false_iff.mpr c126
               subst c126
               rw [if_neg (show ¬ (false = true) by decide)] at H
               exact absurd H (by simp)
             ·replace c124 := Bool.eq_false_iff.mpr c124
              subst c124
              have H1 : (some true) = some true := rfl
              clear H
              have H := H1
              clear H1
              clear H
              go_wp2
              repeat (go_quiet (fail); try go_wp2)
              go_ret
              exact ⟨by first | rfl | (simp [errW_none, errW_some] <;> rfl) | (simp [*, errW_none, errW_some] <;> rfl), by apply_rules only [HB.out, below_alloc, pw_below_drewN, below_drew1]⟩
     ·replace c14 := Bool.eq_false_iff.mpr c14
      subst c14
      rw [if_neg (show ¬ (false = true) by decide)] at H
      exact absurd H (by simp)
   ·rw [if_neg c11] at H
    have c11b0 : (t105 == t107) = false := beq_eq_false_iff_ne.mpr c11
    have c11b1 : (t105 != t107) = true := bne_iff_ne.mpr c11
    exact absurd H (by simp)
def laws_FnCoversFound.Pure : Prop := ∀ (l0 : List Int) (l1 : List Int), l0.length ≤ 9223372036854775807 → (∀ z_ ∈ l0, (Lit.int .u8 z_).wf = true) → l1.length ≤ 9223372036854775807 → (∀ z_ ∈ l1, (Lit.int .u8 z_).wf = true) → ∃ k, laws_FnCoversFound.f k l0 l1 = some true
end Go.Proofs.Ytdcijdeiaefjpaa.P
namespace Go.Proofs.Ytdcijdeiaefjpaa.P
open Go.RowKit Go.Proofs.YtdcijdeiaefjpaaW.PrintWords Go.Proofs.YtdcijdeiaefjpaaW.PrintLast Go.Proofs.YtdcijdeiaefjpaaW.PrintMore
attribute [local go_sem] max2_int min2_int max_two min_two max_three min_three max_four min_four
set_option linter.unusedVariables false
set_option linter.unusedSimpArgs false
mutual
def spec_gpLeft.j0 : Nat → List (SRule) → Bool → Option (List Int × Bool)
 | 0, _, _ => none
 | k + 1, x0, x13 => if x13 = true then (some (([] : List Int), false)) else (spec_gpLeft.l0 k x0 ([] : List Int) 0)
def spec_gpLeft.l0 : Nat → List (SRule) → List Int → Int → Option (List Int × Bool)
 | 0, _, _, _ => none
 | k + 1, x0, x4, x5 => (spec_siPeriod.f k x0).bind fun t103 => (if x5 < t103 then ((spec_siLeft.f k x0 x5).bind fun t104 => (if t104 = true then (if x4.length < 17592186044416 then (spec_gpLeft.l0 k x0 (x4 ++ [x5]) (wrap64 (x5 + 1))) else (none)) else (spec_gpLeft.l0 k x0 x4 (wrap64 (x5 + 1))))) else (some (x4, decide ((x4.length : Int) > 0))))
end
def spec_gpLeft.f (k : Nat) (l0 : List (SRule)) : Option (List Int × Bool) := (spec_siGood.f k l0).bind fun t101 => (if t101 = true then ((spec_siPeriod.f k l0).bind fun t102 => (spec_gpLeft.j0 k l0 (t102 == 0))) else (spec_gpLeft.j0 k l0 true))
set_option maxHeartbeats 8000000 in
set_option maxRecDepth 100000 in
theorem spec_gpLeft.calls (k : Nat) (A0 : Option Addr) (c0 : Nat) (l0 : List (SRule)) (r1 : List Int) (r2 : Bool) (w : World) (hr0 : Kd.C kRule w A0 l0.length l0) (hc0 : l0.length ≤ c0) (h : spec_gpLeft.f k l0 = some (r1, r2)) :
  Calls Try.prog 86 #[.slice A0 l0.length c0] w fun e w' => ∃ v0_ : Value, e = .returned (.tuple #[v0_, .bool r2]) ∧ Kd.R (Kd.int .i64) 3 w' w.heap.size (fun _ => True) v0_ r1 ∧ Below w.heap.size w w' := by
 have HR0 := Aside0.mk hr0
 have HC0 := Aside0.mk hc0
 clear hr0 hc0
 have HB := Aside0.mk (Below.refl w.heap.size w)
 have H : ((spec_siGood.f k l0).bind fun t101 => (if t101 = true then ((spec_siPeriod.f k l0).bind fun t102 => (spec_gpLeft.j0 k l0 (t102 == 0))) else (spec_gpLeft.j0 k l0 true))) = some (r1, r2) := h
 clear h
 have HC2 := Aside0.mk H
 clear H
 go_enter Try.func86, Try.ntmps86
 go_upto_region 1 with (fail)
 go_cut [13] (fun v13 wc => ∃ (kq : Nat) (x13_1 : Bool), v13 = .bool x13_1 ∧ Aside0 (spec_gpLeft.j0 kq l0 x13_1 = some (r1, r2)) ∧ Aside0 (kq ≤ k) ∧ Aside0 (Below w.heap.size w wc))
 case first =>
  have H := HC2.out
  clear HC2
  replace H := Option.bind_eq_some_iff.mp H
  obtain ⟨t101, A30, H⟩ := H
  (try dsimp only at H)
  have A3 := Aside0.mk A30
  clear A30
  by_cases c4 : t101 = true
  ·subst c4
   rw [if_pos rfl] at H
   replace H := Option.bind_eq_some_iff.mp H
   obtain ⟨t102, A50, H⟩ := H
   (try dsimp only at H)
   have A5 := Aside0.mk A50
   clear A50
   have H' := Aside0.mk H
   clear H
   go_wp2_with (first | ((with_reducible refine gate_callee (f := 68) rfl ?_); refine goesL_ (some 7) rfl rfl Try.func68 (by kernel_rfl) rfl #[.slice A0 l0.length c0] rfl (by (try simp only [List.map_toArray, List.map_cons, List.map_nil]); first | done | rfl | (simp only [List.length_drop, List.length_take]; rfl)) ?_; (with_reducible refine (spec_siGood.calls k _ _ l0 true _ ?side1 ?side2 A3.out).mono ?_); (case side1 => repeat (first | exact (Kd.C_below HR0.out HB.out) | (with_reducible refine Kd.C_alloc ?_ _) | (with_reducible refine Kd.C_drewN ?_ _) | (with_reducible refine Kd.C_drew ?_))); (case side2 => exact HC0.out); rintro e w6 ⟨rfl, hb⟩; refine ⟨_, rfl, ?_⟩; have n0_ := Aside0.mk (HB.mv hb); clear HB; have HB := n0_; clear n0_; (try clear hb); (try clear hb2); (try clear hk); (try clear hi)) | (go_at_call 101; (with_reducible refine (spec_siPeriod.calls k _ _ l0 t102 _ ?side1 ?side2 A5.out).mono ?_); (case side1 => repeat (first | exact (Kd.C_below HR0.out HB.out) | (with_reducible refine Kd.C_alloc ?_ _) | (with_reducible refine Kd.C_drewN ?_ _) | (with_reducible refine Kd.C_drew ?_))); (case side2 => exact HC0.out); rintro e w7 ⟨rfl, hb⟩; have n0_ := Aside0.mk (HB.mv hb); clear HB; have HB := n0_; clear n0_; (try clear hb); (try clear hb2); (try clear hk); (try clear hi)))
   go_meet
   case rel => exact ⟨_, ((t102 == 0)), (by first | rfl | (simp; done) | (simp [*]; done)), H', ⟨by first | omega | exact Nat.le_refl _⟩, ⟨by apply_rules only [HB.out, below_alloc, pw_below_drewN, below_drew1]⟩⟩
  ·replace c4 := Bool.eq_false_iff.mpr c4
   subst c4
   rw [if_neg (show ¬ (false = true) by decide)] at H
   have H' := Aside0.mk H
   clear H
   go_wp2_with (first | ((with_reducible refine gate_callee (f := 68) rfl ?_); refine goesL_ (some 7) rfl rfl Try.func68 (by kernel_rfl) rfl #[.slice A0 l0.length c0] rfl (by (try simp only [List.map_toArray, List.map_cons, List.map_nil]); first | done | rfl | (simp only [List.length_drop, List.length_take]; rfl)) ?_; (with_reducible refine (spec_siGood.calls k _ _ l0 false _ ?side1 ?side2 A3.out).mono ?_); (case side1 => repeat (first | exact (Kd.C_below HR0.out HB.out) | (with_reducible refine Kd.C_alloc ?_ _) | (with_reducible refine Kd.C_drewN ?_ _) | (with_reducible refine Kd.C_drew ?_))); (case side2 => exact HC0.out); rintro e w8 ⟨rfl, hb⟩; refine ⟨_, rfl, ?_⟩; have n0_ := Aside0.mk (HB.mv hb); clear HB; have HB := n0_; clear n0_; (try clear hb); (try clear hb2); (try clear hk); (try clear hi)))
   go_meet
   case rel => exact ⟨_, (true), (by first | rfl | (simp; done) | (simp [*]; done)), H', ⟨by first | omega | exact Nat.le_refl _⟩, ⟨by apply_rules only [HB.out, below_alloc, pw_below_drewN, below_drew1]⟩⟩
 case rest =>
  clear HC2
  obtain ⟨kq, x13_1, rfl, HA, HJ1, HB⟩ := hcut
  cases kq with
  | zero => exact absurd HA.out (by simp [spec_gpLeft.j0])
  | succ kj1 =>
   have H := HA.out
   clear HA
   simp only [spec_gpLeft.j0] at H
   by_cases c9 : x13_1 = true
   ·subst c9
    rw [if_pos rfl] at H
    simp only [Option.some.injEq, Prod.mk.injEq] at H
    obtain ⟨rfl, rfl⟩ := H
    go_wp2
    go_ret2
    exact ⟨_, by first | rfl | (simp [errW_none, errW_some] <;> rfl) | (simp [*, errW_none, errW_some] <;> rfl), by first | exact Kd.R_nil _ _ _ _ _ | exact Kd.N_nil _ _ _ _ _ | exact Kd.V_nil _ _ _ _ _ | exact Kd.Q_nil _ _ _ _ _ | exact Kd.S_nil _ _ _ _ _, by apply_rules only [HB.out, below_alloc, pw_below_drewN, below_drew1]⟩
   ·replace c9 := Bool.eq_false_iff.mpr c9
    subst c9
    rw [if_neg (show ¬ (false = true) by decide)] at H
    have H' := Aside0.mk H
    clear H
    go_wp2
    go_loopg [4, 5] kj1 (fun kq v4 v5 w' => ∃ (x4_2 : List Int) (x5_2 : Int), v5 = .int .i64 x5_2 ∧ Aside0 (spec_gpLeft.l0 kq l0 x4_2 x5_2 = some (r1, r2)) ∧ Aside0 (kq ≤ kj1) ∧ Aside0 (Kd.R (Kd.int .i64) 3 w' w.heap.size (fun _ => True) v4 x4_2) ∧ Aside0 (Below w.heap.size w w'))
    case atStart => exact ⟨(([] : List Int)), (0), (by first | rfl | (simp; done) | (simp [*]; done)), H', ⟨Nat.le_refl _⟩, ⟨by first | exact Kd.R_nil _ _ _ _ _ | exact Kd.N_nil _ _ _ _ _ | exact Kd.V_nil _ _ _ _ _ | exact Kd.Q_nil _ _ _ _ _ | exact Kd.S_nil _ _ _ _ _⟩, ⟨by apply_rules only [HB.out, below_alloc, pw_below_drewN, below_drew1]⟩⟩
    case round =>
     clear H'
     (try clear c9)
     obtain ⟨x4_2, x5_2, rfl, HA, HK2, HO_4, HB⟩ := hrel
     cases gk with
     | zero => exact absurd HA.out (by simp [spec_gpLeft.l0])
     | succ k2 =>
      have H := HA.out
      clear HA
      simp only [spec_gpLeft.l0] at H
      replace H := Option.bind_eq_some_iff.mp H
      obtain ⟨t103, A100, H⟩ := H
      (try dsimp only at H)
      have A10 := Aside0.mk A100
      clear A100
      by_cases c11 : x5_2 < t103
      ·rw [if_pos c11] at H
       have c11b0 : decide (x5_2 < t103) = true := decide_eq_true c11
       clear c11
       replace H := Option.bind_eq_some_iff.mp H
       obtain ⟨t104, A120, H⟩ := H
       (try dsimp only at H)
       have A12 := Aside0.mk A120
       clear A120
       by_cases c13 : t104 = true
       ·subst c13
        rw [if_pos rfl] at H
        by_cases c14 : x4_2.length < 17592186044416
        ·rw [if_pos c14] at H
         have LMc14 := Aside0.mk c14
         clear c14
         obtain ⟨y105, hy105⟩ : ∃ y_ : List Int, y_ = (x4_2 ++ [x5_2]) := ⟨_, rfl⟩
         replace H : (spec_gpLeft.l0 k2 l0 y105 (wrap64 (x5_2 + 1))) = some (r1, r2) := by first | (rw [hy105]; with_reducible exact H) | (have H2_ := (Option.bind_some _ _).symm.trans H; rw [hy105]; with_reducible exact H2_) | (have H2_ := (Option.bind_some _ _).symm.trans H; with_reducible exact H2_) | with_reducible exact H | (rw [hy105]; exact H) | exact H
         have Ny105 := Aside0.mk hy105
         clear hy105
         have H' := Aside0.mk H
         clear H
         go_wp2_with (first | ((with_reducible refine gate_callee (f := 101) rfl ?_); refine goesL_ (some 16) rfl rfl Try.func101 (by kernel_rfl) rfl #[.slice A0 l0.length c0] rfl (by (try simp only [List.map_toArray, List.map_cons, List.map_nil]); first | done | rfl | (simp only [List.length_drop, List.length_take]; rfl)) ?_; (with_reducible refine (spec_siPeriod.calls k2 _ _ l0 t103 _ ?side1 ?side2 A10.out).mono ?_); (case side1 => repeat (first | exact (Kd.C_below HR0.out HB.out) | (with_reducible refine Kd.C_alloc ?_ _) | (with_reducible refine Kd.C_drewN ?_ _) | (with_reducible refine Kd.C_drew ?_))); (case side2 => exact HC0.out); rintro e w15 ⟨rfl, hb⟩; refine ⟨_, rfl, ?_⟩; have n0_ := Aside0.mk (HO_4.mv hb); have n1_ := Aside0.mk (HB.mv hb); clear HO_4; clear HB; have HO_4 := n0_; have HB := n1_; clear n0_ n1_; (try clear hb); (try clear hb2); (try clear hk); (try clear hi)) | ((with_reducible refine gate_callee (f := 87) rfl ?_); refine goesL_ (some 22) rfl rfl Try.func87 (by kernel_rfl) rfl #[.slice A0 l0.length c0, .int .i64 x5_2] rfl (by (try simp only [List.map_toArray, List.map_cons, List.map_nil]); first | done | rfl | (simp only [List.length_drop, List.length_take]; rfl)) ?_; (with_reducible refine (spec_siLeft.calls k2 _ _ l0 x5_2 true _ ?side1 ?side2 A12.out).mono ?_); (case side1 => repeat (first | exact (Kd.C_below HR0.out HB.out) | (with_reducible refine Kd.C_alloc ?_ _) | (with_reducible refine Kd.C_drewN ?_ _) | (with_reducible refine Kd.C_drew ?_))); (case side2 => exact HC0.out); rintro e w16 ⟨rfl, hb⟩; refine ⟨_, rfl, ?_⟩; have n0_ := Aside0.mk (HO_4.mv hb); have n1_ := Aside0.mk (HB.mv hb); clear HO_4; clear HB; have HO_4 := n0_; have HB := n1_; clear n0_ n1_; (try clear hb); (try clear hb2); (try clear hk); (try clear hi)) | ((with_reducible refine gate_builtin (b := .append) (xs := #[.tmp 23, .tmp 25]) rfl ?_); at_builtin; refine Kd.R_append (Kd.int .i64) (w0 := w) w.heap.size rfl (.tmp 23) (.tmp 25) 24 3 (.int .i64 0) 8 rfl Try.underlying24 info3 rfl (by decide) (by omega) u4 x4_2 x5_2 [.int .i64 x5_2] (fun _ => True) (fun _ => False) rfl rfl ?aP (fun _ hk => hk.elim) ?aF ?aO ?aB ?aS ?aL ?_; (case aP => exact rfl); (case aB => exact (by apply_rules only [HB.out, below_alloc, pw_below_drewN, below_drew1])); (case aF => exact (fun _ _ => trivial)); (case aO => exact (by apply_rules only [HO_4.out, Kd.R_alloc, Kd.R_drewN, Kd.R_drew])); (case aS => exact (below_size (by apply_rules only [HB.out, below_alloc, pw_below_drewN, below_drew1]))); (case aL => have := LMc14.out; omega); intro v106 w17 ho hb hg hat; rw [← Ny105.out] at ho; have n0_ := Aside0.mk (hb); have n1_ := Aside0.mk (ho); clear HB; clear HO_4; have HB := n0_; have HO107 := n1_; clear n0_ n1_; clear ho hb hg hat))
         go_roundg k2
         case measure => have := HJ1.out; have := HK2.out; omega
         case rel => exact ⟨(y105), (wrap64 (x5_2 + 1)), (by first | rfl | (simp; done) | (simp [*]; done)), H', ⟨by have := HJ1.out; have := HK2.out; omega⟩, ⟨by apply_rules only [HO107.out, Kd.R_alloc, Kd.R_drewN, Kd.R_drew]⟩, ⟨by apply_rules only [HB.out, below_alloc, pw_below_drewN, below_drew1]⟩⟩
        ·rw [if_neg c14] at H
         exact absurd H (by simp)
       ·replace c13 := Bool.eq_false_iff.mpr c13
        subst c13
        rw [if_neg (show ¬ (false = true) by decide)] at H
        have H' := Aside0.mk H
        clear H
        go_wp2_with (first | ((with_reducible refine gate_callee (f := 101) rfl ?_); refine goesL_ (some 16) rfl rfl Try.func101 (by kernel_rfl) rfl #[.slice A0 l0.length c0] rfl (by (try simp only [List.map_toArray, List.map_cons, List.map_nil]); first | done | rfl | (simp only [List.length_drop, List.length_take]; rfl)) ?_; (with_reducible refine (spec_siPeriod.calls k2 _ _ l0 t103 _ ?side1 ?side2 A10.out).mono ?_); (case side1 => repeat (first | exact (Kd.C_below HR0.out HB.out) | (with_reducible refine Kd.C_alloc ?_ _) | (with_reducible refine Kd.C_drewN ?_ _) | (with_reducible refine Kd.C_drew ?_))); (case side2 => exact HC0.out); rintro e w18 ⟨rfl, hb⟩; refine ⟨_, rfl, ?_⟩; have n0_ := Aside0.mk (HO_4.mv hb); have n1_ := Aside0.mk (HB.mv hb); clear HO_4; clear HB; have HO_4 := n0_; have HB := n1_; clear n0_ n1_; (try clear hb); (try clear hb2); (try clear hk); (try clear hi)) | ((with_reducible refine gate_callee (f := 87) rfl ?_); refine goesL_ (some 22) rfl rfl Try.func87 (by kernel_rfl) rfl #[.slice A0 l0.length c0, .int .i64 x5_2] rfl (by (try simp only [List.map_toArray, List.map_cons, List.map_nil]); first | done | rfl | (simp only [List.length_drop, List.length_take]; rfl)) ?_; (with_reducible refine (spec_siLeft.calls k2 _ _ l0 x5_2 false _ ?side1 ?side2 A12.out).mono ?_); (case side1 => repeat (first | exact (Kd.C_below HR0.out HB.out) | (with_reducible refine Kd.C_alloc ?_ _) | (with_reducible refine Kd.C_drewN ?_ _) | (with_reducible refine Kd.C_drew ?_))); (case side2 => exact HC0.out); rintro e w19 ⟨rfl, hb⟩; refine ⟨_, rfl, ?_⟩; have n0_ := Aside0.mk (HO_4.mv hb); have n1_ := Aside0.mk (HB.mv hb); clear HO_4; clear HB; have HO_4 := n0_; have HB := n1_; clear n0_ n1_; (try clear hb); (try clear hb2); (try clear hk); (try clear hi)))
        go_roundg k2
        case measure => have := HJ1.out; have := HK2.out; omega
        case rel => exact ⟨(x4_2), (wrap64 (x5_2 + 1)), (by first | rfl | (simp; done) | (simp [*]; done)), H', ⟨by have := HJ1.out; have := HK2.out; omega⟩, ⟨by apply_rules only [HO_4.out, Kd.R_alloc, Kd.R_drewN, Kd.R_drew]⟩, ⟨by apply_rules only [HB.out, below_alloc, pw_below_drewN, below_drew1]⟩⟩
      ·rw [if_neg c11] at H
       have c11b0 : decide (x5_2 < t103) = false := decide_eq_false c11
       clear c11
       simp only [Option.some.injEq, Prod.mk.injEq] at H
       obtain ⟨rfl, rfl⟩ := H
       go_wp2_with (first | ((with_reducible refine gate_callee (f := 101) rfl ?_); refine goesL_ (some 16) rfl rfl Try.func101 (by kernel_rfl) rfl #[.slice A0 l0.length c0] rfl (by (try simp only [List.map_toArray, List.map_cons, List.map_nil]); first | done | rfl | (simp only [List.length_drop, List.length_take]; rfl)) ?_; (with_reducible refine (spec_siPeriod.calls k2 _ _ l0 t103 _ ?side1 ?side2 A10.out).mono ?_); (case side1 => repeat (first | exact (Kd.C_below HR0.out HB.out) | (with_reducible refine Kd.C_alloc ?_ _) | (with_reducible refine Kd.C_drewN ?_ _) | (with_reducible refine Kd.C_drew ?_))); (case side2 => exact HC0.out); rintro e w20 ⟨rfl, hb⟩; refine ⟨_, rfl, ?_⟩; have n0_ := Aside0.mk (HO_4.mv hb); have n1_ := Aside0.mk (HB.mv hb); clear HO_4; clear HB; have HO_4 := n0_; have HB := n1_; clear n0_ n1_; (try clear hb); (try clear hb2); (try clear hk); (try clear hi); obtain ⟨Ao21, co21, eo21⟩ := Kd.R_slice HO_4.out; subst eo21))
       go_ret2
       exact ⟨_, by first | rfl | (simp [errW_none, errW_some] <;> rfl) | (simp [*, errW_none, errW_some] <;> rfl), by (with_reducible repeat (first | apply Kd.R_alloc | apply Kd.R_drewN | apply Kd.R_drew)); exact HO_4.out, by apply_rules only [HB.out, below_alloc, pw_below_drewN, below_drew1]⟩
end Go.Proofs.Ytdcijdeiaefjpaa.P
namespace Go.Proofs.Ytdcijdeiaefjpaa.P
open Go.RowKit Go.Proofs.YtdcijdeiaefjpaaW.PrintWords Go.Proofs.YtdcijdeiaefjpaaW.PrintLast Go.Proofs.YtdcijdeiaefjpaaW.PrintMore
attribute [local go_sem] max2_int min2_int max_two min_two max_three min_three max_four min_four
set_option linter.unusedVariables false
set_option linter.unusedSimpArgs false
def spec_gpGaps.l0 : Nat → List (SRule) → List Int → List Int → List Int → Int → Int → Option (List Int × List Int × Bool)
 | 0, _, _, _, _, _, _ => none
 | k + 1, x0, x5, x7, x18, x19, x20 => if x20 < x19 then (if 0 ≤ x20 then (if x20 < (x18.length : Int) then (if 0 < (x5.length : Int) then ((spec_siPeriod.f k x0).bind fun t107 => (if (wrap64 (x20 + 1)) < (x5.length : Int) then (if 0 ≤ (wrap64 (x20 + 1)) then (if x7.length < 17592186044416 then (spec_gpGaps.l0 k x0 x5 (x7 ++ [wrap64 ((rd x5 (wrap64 (x20 + 1))) - (rd x18 x20))]) x18 x19 (wrap64 (x20 + 1))) else (none)) else (none)) else (if x7.length < 17592186044416 then (spec_gpGaps.l0 k x0 x5 (x7 ++ [wrap64 ((wrap64 ((rd x5 0) + t107)) - (rd x18 x20))]) x18 x19 (wrap64 (x20 + 1))) else (none)))) else (none)) else (none)) else (none)) else (some (x7, x5, true))
def spec_gpGaps.f (k : Nat) (l0 : List (SRule)) : Option (List Int × List Int × Bool) := (spec_gpLeft.f k l0).bind fun bt101 => (if bt101.2 = true then (spec_gpGaps.l0 k l0 bt101.1 ([] : List Int) bt101.1 (bt101.1.length : Int) 0) else (some (([] : List Int), ([] : List Int), false)))
set_option maxHeartbeats 8000000 in
set_option maxRecDepth 100000 in
theorem spec_gpGaps.calls (k : Nat) (A0 : Option Addr) (c0 : Nat) (l0 : List (SRule)) (r1 : List Int) (r2 : List Int) (r3 : Bool) (w : World) (hr0 : Kd.C kRule w A0 l0.length l0) (hc0 : l0.length ≤ c0) (h : spec_gpGaps.f k l0 = some (r1, r2, r3)) :
  Calls Try.prog 73 #[.slice A0 l0.length c0] w fun e w' => ∃ v0_ v1_ : Value, e = .returned (.tuple #[v0_, v1_, .bool r3]) ∧ Kd.R (Kd.int .i64) 3 w' w.heap.size (fun k_ => some k_ ≠ (v1_ : Value).ownBlock) v0_ r1 ∧ Kd.R (Kd.int .i64) 3 w' w.heap.size (fun k_ => some k_ ≠ (v0_ : Value).ownBlock) v1_ r2 ∧ Below w.heap.size w w' := by
 have HR0 := Aside0.mk hr0
 have HC0 := Aside0.mk hc0
 clear hr0 hc0
 have HB := Aside0.mk (Below.refl w.heap.size w)
 have H : ((spec_gpLeft.f k l0).bind fun bt101 => (if bt101.2 = true then (spec_gpGaps.l0 k l0 bt101.1 ([] : List Int) bt101.1 (bt101.1.length : Int) 0) else (some (([] : List Int), ([] : List Int), false)))) = some (r1, r2, r3) := h
 clear h
 replace H := Option.bind_eq_some_iff.mp H
 obtain ⟨⟨t101, t102⟩, A20, H⟩ := H
 (try dsimp only at H)
 have A2 := Aside0.mk A20
 clear A20
 by_cases c3 : t102 = true
 ·subst c3
  rw [if_pos rfl] at H
  have H' := Aside0.mk H
  clear H
  go_enter Try.func73, Try.ntmps73
  go_wp2_with (first | ((with_reducible refine gate_callee (f := 86) rfl ?_); refine goesL_ (some 13) rfl rfl Try.func86 (by kernel_rfl) rfl #[.slice A0 l0.length c0] rfl (by (try simp only [List.map_toArray, List.map_cons, List.map_nil]); first | done | rfl | (simp only [List.length_drop, List.length_take]; rfl)) ?_; (with_reducible refine (spec_gpLeft.calls k _ _ l0 t101 true _ ?side1 ?side2 A2.out).mono ?_); (case side1 => repeat (first | exact HR0.out | (with_reducible refine Kd.C_alloc ?_ _) | (with_reducible refine Kd.C_drewN ?_ _) | (with_reducible refine Kd.C_drew ?_))); (case side2 => exact HC0.out); rintro e w4 ⟨v103, rfl, ho0, hb⟩; refine ⟨_, rfl, ?_⟩; have n0_ := Aside0.mk (Kd.R_lower ho0 (below_size (by apply_rules only [HB.out, below_alloc, pw_below_drewN, below_drew1]))); have n1_ := Aside0.mk (HB.mv hb); clear HB; have HO104 := n0_; have HB := n1_; clear n0_ n1_; (try clear hb); (try clear hb2); (try clear hk); (try clear hi); (try clear ho0); obtain ⟨Ao5, co5, eo5⟩ := Kd.R_slice HO104.out; subst eo5))
  go_loopg [7, 20] k (fun kq v7 v20 w' => ∃ (x7_1 : List Int) (x20_1 : Int), v20 = .int .i64 x20_1 ∧ Aside0 (spec_gpGaps.l0 kq l0 t101 x7_1 t101 (t101.length : Int) x20_1 = some (r1, r2, r3)) ∧ Aside0 (kq ≤ k) ∧ Aside0 (Kd.R (Kd.int .i64) 3 w' w.heap.size (fun k_ => some k_ ≠ (v7 : Value).ownBlock) (.slice Ao5 t101.length co5) t101) ∧ Aside0 (Kd.R (Kd.int .i64) 3 w' w.heap.size (fun k_ => some k_ ≠ ((.slice Ao5 t101.length co5) : Value).ownBlock ∧ some k_ ≠ ((.slice Ao5 t101.length co5) : Value).ownBlock) v7 x7_1) ∧ Aside0 (Kd.R (Kd.int .i64) 3 w' w.heap.size (fun k_ => some k_ ≠ (v7 : Value).ownBlock) (.slice Ao5 t101.length co5) t101) ∧ Aside0 (Below w.heap.size w w'))
  case atStart => exact ⟨(([] : List Int)), (0), (by first | rfl | (simp; done) | (simp [*]; done)), H', ⟨Nat.le_refl _⟩, ⟨by (with_reducible repeat (first | apply Kd.R_alloc | apply Kd.R_drewN | apply Kd.R_drew)); exact Kd.R_mono HO104.out (fun _ hk => (by simp [Value.ownBlock]))⟩, ⟨by first | exact Kd.R_nil _ _ _ _ _ | exact Kd.N_nil _ _ _ _ _ | exact Kd.V_nil _ _ _ _ _ | exact Kd.Q_nil _ _ _ _ _ | exact Kd.S_nil _ _ _ _ _⟩, ⟨by (with_reducible repeat (first | apply Kd.R_alloc | apply Kd.R_drewN | apply Kd.R_drew)); exact Kd.R_mono HO104.out (fun _ hk => (by simp [Value.ownBlock]))⟩, ⟨by apply_rules only [HB.out, below_alloc, pw_below_drewN, below_drew1]⟩⟩
  case round =>
   clear H'
   (try clear c3)
   obtain ⟨x7_1, x20_1, rfl, HA, HK1, HO_5, HO_7, HO_18, HB⟩ := hrel
   cases gk with
   | zero => exact absurd HA.out (by simp [spec_gpGaps.l0])
   | succ k1 =>
    have H := HA.out
    clear HA
    simp only [spec_gpGaps.l0] at H
    by_cases c6 : x20_1 < (t101.length : Int)
    ·rw [if_pos c6] at H
     have c6b0 : decide (x20_1 < (t101.length : Int)) = true := decide_eq_true c6
     clear c6
     by_cases c7 : 0 ≤ x20_1
     ·rw [if_pos c7] at H
      have c7b0 : decide (0 ≤ x20_1) = true := decide_eq_true c7
      clear c7
      by_cases c8 : x20_1 < (t101.length : Int)
      ·rw [if_pos c8] at H
       have c8b0 : decide (x20_1 < (t101.length : Int)) = true := decide_eq_true c8
       clear c8
       by_cases c9 : 0 < (t101.length : Int)
       ·rw [if_pos c9] at H
        have c9b0 : decide (0 < (t101.length : Int)) = true := decide_eq_true c9
        have c9b1 : decide (0 < t101.length) = true := decide_eq_true (by omega)
        clear c9
        replace H := Option.bind_eq_some_iff.mp H
        obtain ⟨t107, A100, H⟩ := H
        (try dsimp only at H)
        have A10 := Aside0.mk A100
        clear A100
        by_cases c11 : (wrap64 (x20_1 + 1)) < (t101.length : Int)
        ·rw [if_pos c11] at H
         have c11b0 : decide ((wrap64 (x20_1 + 1)) < (t101.length : Int)) = true := decide_eq_true c11
         clear c11
         obtain ⟨ji12, hji12⟩ : ∃ j_ : Int, (wrap64 (x20_1 + 1)) = j_ := ⟨_, rfl⟩
         replace H : (if 0 ≤ (ji12) then (if x7_1.length < 17592186044416 then (spec_gpGaps.l0 k1 l0 t101 (x7_1 ++ [wrap64 ((rd t101 (ji12)) - (rd t101 x20_1))]) t101 (t101.length : Int) ji12) else (none)) else (none)) = some (r1, r2, r3) := by first | (rw [hji12] at H; exact H) | (simp only [hji12] at H ⊢; exact H)
         (try rw [hji12] at c11b0)
         (try rw [hji12] at A10)
         have hji12w : (IntKind.i64.wrap (x20_1 + 1)) = ji12 := (i64_w _).trans hji12
         by_cases c13 : 0 ≤ (ji12)
         ·rw [if_pos c13] at H
          have c13b0 : decide (0 ≤ (ji12)) = true := decide_eq_true c13
          clear c13
          by_cases c14 : x7_1.length < 17592186044416
          ·rw [if_pos c14] at H
           have LMc14 := Aside0.mk c14
           clear c14
           obtain ⟨y109, hy109⟩ : ∃ y_ : List Int, y_ = (x7_1 ++ [wrap64 ((rd t101 (ji12)) - (rd t101 x20_1))]) := ⟨_, rfl⟩
           replace H : (spec_gpGaps.l0 k1 l0 t101 y109 t101 (t101.length : Int) ji12) = some (r1, r2, r3) := by first | (rw [hy109]; with_reducible exact H) | (have H2_ := (Option.bind_some _ _).symm.trans H; rw [hy109]; with_reducible exact H2_) | (have H2_ := (Option.bind_some _ _).symm.trans H; with_reducible exact H2_) | with_reducible exact H | (rw [hy109]; exact H) | exact H
           have Ny109 := Aside0.mk hy109
           clear hy109
           have H' := Aside0.mk H
           clear H
           have p105 : 0 ≤ (x20_1 : Int) := of_decide_eq_true (by first | (with_reducible assumption) | assumption)
           have q105 : x20_1 < (t101.length : Int) := of_decide_eq_true (by first | (with_reducible assumption) | assumption)
           obtain ⟨ad105, e105, hx105_0⟩ := Kd.at_int (Kd.R_reads' HO_18.out).2.2 x20_1 p105 q105
           cases e105
           replace p105 := eq_true p105
           replace q105 := eq_true q105
           try go_wp2
           have n0_ := Aside0.mk (Kd.R_drew HO_5.out)
           have n1_ := Aside0.mk (Kd.R_drew HO_7.out)
           have n2_ := Aside0.mk (Kd.R_drew HO_18.out)
           have n3_ := Aside0.mk (below_drew1 HB.out)
           clear HO_5
           clear HO_7
           clear HO_18
           clear HB
           have HO_5 := n0_
           have HO_7 := n1_
           have HO_18 := n2_
           have HB := n3_
           clear n0_ n1_ n2_ n3_
           have p106 : 0 ≤ (0 : Int) := (by omega)
           have q106 : 0 < (t101.length : Int) := of_decide_eq_true (by first | (with_reducible assumption) | assumption)
           obtain ⟨ad106, e106, hx106_0⟩ := Kd.at_int (Kd.R_reads' HO_5.out).2.2 0 p106 q106
           obtain rfl : ad105 = ad106 := (by injection e106)
           have qi106 : (0 < t101.length) = True := eq_true (by omega)
           (try rw [show ((0 : Int)).toNat = 0 from rfl] at hx106_0)
           (try rw [Addr.add_zero'] at hx106_0)
           replace p106 := eq_true p106
           replace q106 := eq_true q106
           refine start_ (n := 7) (S := fun w' => w'.cell? ad105 = some (.int .i64 (rd t101 0))) (ds := []) #[false, false, false, false, false, false, false] (by kernel_rfl) rfl rfl (hx106_0) (fun hHeld => ?_)
           generalize wr.drew = w15 at HO_5 HO_7 HO_18 HB hx106_0 hHeld ⊢
           refine pure_ (i := 0) (N := some 25) (v := ?_) (a' := ?_) #[true, false, false, false, false, false, false] rfl rfl (by kernel_rfl) (fun _ _ _ h => h) (Or.inl ⟨by rfl, ?_⟩) ?_ ?_
           rotate_left
           ·intro w'
            go_simp
            with_reducible rfl
           rotate_left
           ·simp only [Act.put, List.setIfInBounds_toArray, List.set_cons_zero, List.set_cons_succ, i64_w, i32_w]
            rfl
           refine pure_ (i := 1) (N := some 26) (v := ?_) (a' := ?_) #[true, true, false, false, false, false, false] rfl rfl (by kernel_rfl) (fun _ _ _ h => h) (Or.inl ⟨by rfl, ?_⟩) ?_ ?_
           rotate_left
           ·intro w'
            go_simp
            with_reducible rfl
           rotate_left
           ·simp only [Act.put, List.setIfInBounds_toArray, List.set_cons_zero, List.set_cons_succ, i64_w, i32_w]
            rfl
           refine pure_ (i := 3) (N := some 28) (v := ?_) (a' := ?_) #[true, true, false, true, false, false, false] rfl rfl (by kernel_rfl) (fun _ _ _ h => h) (Or.inl ⟨by rfl, ?_⟩) ?_ ?_
           rotate_left
           ·intro w'
            go_simp
            with_reducible rfl
           rotate_left
           ·simp only [Act.put, List.setIfInBounds_toArray, List.set_cons_zero, List.set_cons_succ, i64_w, i32_w]
            rfl
           refine take_ (i := 2) (N := some 27) (v := ?_) (a' := ?_) #[true, true, true, true, false, false, false] rfl rfl (by kernel_rfl) (fun _ _ _ h => h) (Or.inl ⟨by rfl, ?_⟩) hHeld ?_ ?_
           rotate_left
           ·intro w' s0
            go_simp
            with_reducible rfl
           rotate_left
           ·simp only [Act.put, List.setIfInBounds_toArray, List.set_cons_zero, List.set_cons_succ, i64_w, i32_w]
            rfl
           refine one_ (i := 4) (N := some 29) #[true, true, true, true, true, false, false] rfl rfl (by kernel_rfl) (by decide) (fun K hK => ?_)
           refine goes_ Try.func101 (by kernel_rfl) rfl #[.slice A0 l0.length c0] (by rfl) rfl rfl (by (try simp only [List.map_toArray, List.map_cons, List.map_nil]); first | done | rfl | (simp only [List.length_drop, List.length_take]; rfl)) ?_
           with_reducible refine (spec_siPeriod.calls k1 _ _ l0 t107 _ ?side1 ?side2 A10.out).mono ?_
           (case side1 => repeat (first | exact (Kd.C_below HR0.out HB.out) | (with_reducible refine Kd.C_alloc ?_ _) | (with_reducible refine Kd.C_drewN ?_ _) | (with_reducible refine Kd.C_drew ?_)))
           (case side2 => exact HC0.out)
           rintro e w16 ⟨rfl, hb⟩
           have HS0_ := (hb.cell (World.block_lt_of_cell? _ _ (hHeld))).trans (hHeld)
           refine ⟨_, rfl, ?_⟩
           have n0_ := Aside0.mk (HO_5.mv hb)
           have n1_ := Aside0.mk (HO_7.mv hb)
           have n2_ := Aside0.mk (HO_18.mv hb)
           have n3_ := Aside0.mk (HB.mv hb)
           clear HO_5
           clear HO_7
           clear HO_18
           clear HB
           have HO_5 := n0_
           have HO_7 := n1_
           have HO_18 := n2_
           have HB := n3_
           clear n0_ n1_ n2_ n3_
           (try clear hb)
           (try clear hb2)
           (try clear hk)
           (try clear hi)
           refine hK.out _ _ (HS0_) (fun hHeld => ?_)
           clear hK K
           refine norm_ (a' := ?_) ?_ ?_
           rotate_left
           ·show Act.put _ (some 29) _ = _
            simp only [Act.put, List.setIfInBounds_toArray, List.set_cons_zero, List.set_cons_succ, i64_w, i32_w]
            rfl
           refine pure_ (i := 5) (N := some 30) (v := ?_) (a' := ?_) #[true, true, true, true, true, true, false] rfl rfl (by kernel_rfl) (fun _ _ _ h => h) (Or.inl ⟨by rfl, ?_⟩) ?_ ?_
           rotate_left
           ·intro w'
            go_simp
            with_reducible rfl
           rotate_left
           ·simp only [Act.put, List.setIfInBounds_toArray, List.set_cons_zero, List.set_cons_succ, i64_w, i32_w]
            rfl
           refine pure_ (i := 6) (N := some 10) (v := ?_) (a' := ?_) #[true, true, true, true, true, true, true] rfl rfl (by kernel_rfl) (fun _ _ _ h => h) (Or.inl ⟨by rfl, ?_⟩) ?_ ?_
           rotate_left
           ·intro w'
            go_simp
            with_reducible rfl
           rotate_left
           ·simp only [Act.put, List.setIfInBounds_toArray, List.set_cons_zero, List.set_cons_succ, i64_w, i32_w]
            rfl
           refine done_ (by kernel_rfl) ?_
           have p108 : 0 ≤ ((ji12) : Int) := of_decide_eq_true (by first | (with_reducible assumption) | assumption)
           have q108 : (ji12) < (t101.length : Int) := of_decide_eq_true (by first | (with_reducible assumption) | assumption)
           obtain ⟨ad108, e108, hx108_0⟩ := Kd.at_int (Kd.R_reads' HO_5.out).2.2 (ji12) p108 q108
           obtain rfl : ad105 = ad108 := (by injection e108)
           replace p108 := eq_true p108
           replace q108 := eq_true q108
           try go_wp2_with (first | ((with_reducible refine gate_builtin (b := .append) (xs := #[.tmp 41, .tmp 45]) rfl ?_); at_builtin; refine Kd.R_append (Kd.int .i64) (w0 := w) w.heap.size rfl (.tmp 41) (.tmp 45) 24 3 (.int .i64 0) 8 rfl Try.underlying24 info3 rfl (by decide) (by omega) u7 x7_1 (wrap64 ((rd t101 (ji12)) - (rd t101 x20_1))) [.int .i64 (wrap64 ((rd t101 (ji12)) - (rd t101 x20_1)))] (fun k_ => some k_ ≠ (.slice (some ad105) t101.length co5 : Value).ownBlock ∧ some k_ ≠ (.slice (some ad105) t101.length co5 : Value).ownBlock) (fun _ => False) rfl rfl ?aP (fun _ hk => hk.elim) ?aF ?aO ?aB ?aS ?aL ?_; (case aP => exact rfl); (case aB => exact (by apply_rules only [HB.out, below_alloc, pw_below_drewN, below_drew1])); (case aF => exact (fun k_ hk => ⟨Kd.fresh' (Kd.R_lt (by apply_rules only [HO_5.out, Kd.R_alloc, Kd.R_drewN, Kd.R_drew])) k_ hk, Kd.fresh' (Kd.R_lt (by apply_rules only [HO_18.out, Kd.R_alloc, Kd.R_drewN, Kd.R_drew])) k_ hk⟩)); (case aO => exact (by apply_rules only [HO_7.out, Kd.R_alloc, Kd.R_drewN, Kd.R_drew])); (case aS => exact (below_size (by apply_rules only [HB.out, below_alloc, pw_below_drewN, below_drew1]))); (case aL => have := LMc14.out; omega); intro v110 w17 ho hb hg hat; rw [← Ny109.out] at ho; have n0_ := Aside0.mk (Kd.R_after (ok := (fun _ => True)) (by (with_reducible repeat (first | apply Kd.R_alloc | apply Kd.R_drewN | apply Kd.R_drew)); exact Kd.R_mono HO_5.out (fun _ hk => ⟨trivial, hk⟩)) hg hat); have n1_ := Aside0.mk (Kd.R_after (ok := (fun _ => True)) (by (with_reducible repeat (first | apply Kd.R_alloc | apply Kd.R_drewN | apply Kd.R_drew)); exact Kd.R_mono HO_18.out (fun _ hk => ⟨trivial, hk⟩)) hg hat); have n2_ := Aside0.mk (hb); have n3_ := Aside0.mk (ho); clear HO_5; clear HO_18; clear HB; clear HO_7; have HO_5 := n0_; have HO_18 := n1_; have HB := n2_; have HO111 := n3_; clear n0_ n1_ n2_ n3_; clear ho hb hg hat))
           go_roundg k1
           case measure => have := HK1.out; omega
           case rel => exact ⟨(y109), (ji12), (by first | rfl | (simp; done) | (simp only [← hji12] <;> (first | rfl | simp)) | (simp [*]; done)), H', ⟨by have := HK1.out; omega⟩, ⟨by (with_reducible repeat (first | apply Kd.R_alloc | apply Kd.R_drewN | apply Kd.R_drew)); exact Kd.R_mono HO_5.out (fun _ hk => hk.2)⟩, ⟨by apply_rules only [HO111.out, Kd.R_alloc, Kd.R_drewN, Kd.R_drew]⟩, ⟨by (with_reducible repeat (first | apply Kd.R_alloc | apply Kd.R_drewN | apply Kd.R_drew)); exact Kd.R_mono HO_18.out (fun _ hk => hk.2)⟩, ⟨by apply_rules only [HB.out, below_alloc, pw_below_drewN, below_drew1]⟩⟩
          ·rw [if_neg c14] at H
           exact absurd H (by simp)
         ·rw [if_neg c13] at H
          exact absurd H (by simp)
        ·rw [if_neg c11] at H
         have c11b0 : decide ((wrap64 (x20_1 + 1)) < (t101.length : Int)) = false := decide_eq_false c11
         clear c11
         by_cases c18 : x7_1.length < 17592186044416
         ·rw [if_pos c18] at H
          have LMc18 := Aside0.mk c18
          clear c18
          obtain ⟨y112, hy112⟩ : ∃ y_ : List Int, y_ = (x7_1 ++ [wrap64 ((wrap64 ((rd t101 0) + t107)) - (rd t101 x20_1))]) := ⟨_, rfl⟩
          replace H : (spec_gpGaps.l0 k1 l0 t101 y112 t101 (t101.length : Int) (wrap64 (x20_1 + 1))) = some (r1, r2, r3) := by first | (rw [hy112]; with_reducible exact H) | (have H2_ := (Option.bind_some _ _).symm.trans H; rw [hy112]; with_reducible exact H2_) | (have H2_ := (Option.bind_some _ _).symm.trans H; with_reducible exact H2_) | with_reducible exact H | (rw [hy112]; exact H) | exact H
          have Ny112 := Aside0.mk hy112
          clear hy112
          have H' := Aside0.mk H
          clear H
          have p105 : 0 ≤ (x20_1 : Int) := of_decide_eq_true (by first | (with_reducible assumption) | assumption)
          have q105 : x20_1 < (t101.length : Int) := of_decide_eq_true (by first | (with_reducible assumption) | assumption)
          obtain ⟨ad105, e105, hx105_0⟩ := Kd.at_int (Kd.R_reads' HO_18.out).2.2 x20_1 p105 q105
          cases e105
          replace p105 := eq_true p105
          replace q105 := eq_true q105
          try go_wp2
          have n0_ := Aside0.mk (Kd.R_drew HO_5.out)
          have n1_ := Aside0.mk (Kd.R_drew HO_7.out)
          have n2_ := Aside0.mk (Kd.R_drew HO_18.out)
          have n3_ := Aside0.mk (below_drew1 HB.out)
          clear HO_5
          clear HO_7
          clear HO_18
          clear HB
          have HO_5 := n0_
          have HO_7 := n1_
          have HO_18 := n2_
          have HB := n3_
          clear n0_ n1_ n2_ n3_
          have p106 : 0 ≤ (0 : Int) := (by omega)
          have q106 : 0 < (t101.length : Int) := of_decide_eq_true (by first | (with_reducible assumption) | assumption)
          obtain ⟨ad106, e106, hx106_0⟩ := Kd.at_int (Kd.R_reads' HO_5.out).2.2 0 p106 q106
          obtain rfl : ad105 = ad106 := (by injection e106)
          have qi106 : (0 < t101.length) = True := eq_true (by omega)
          (try rw [show ((0 : Int)).toNat = 0 from rfl] at hx106_0)
          (try rw [Addr.add_zero'] at hx106_0)
          replace p106 := eq_true p106
          replace q106 := eq_true q106
          refine start_ (n := 7) (S := fun w' => w'.cell? ad105 = some (.int .i64 (rd t101 0))) (ds := []) #[false, false, false, false, false, false, false] (by kernel_rfl) rfl rfl (hx106_0) (fun hHeld => ?_)
          generalize wr.drew = w19 at HO_5 HO_7 HO_18 HB hx106_0 hHeld ⊢
          refine pure_ (i := 0) (N := some 25) (v := ?_) (a' := ?_) #[true, false, false, false, false, false, false] rfl rfl (by kernel_rfl) (fun _ _ _ h => h) (Or.inl ⟨by rfl, ?_⟩) ?_ ?_
          rotate_left
          ·intro w'
           go_simp
           with_reducible rfl
          rotate_left
          ·simp only [Act.put, List.setIfInBounds_toArray, List.set_cons_zero, List.set_cons_succ, i64_w, i32_w]
           rfl
          refine pure_ (i := 1) (N := some 26) (v := ?_) (a' := ?_) #[true, true, false, false, false, false, false] rfl rfl (by kernel_rfl) (fun _ _ _ h => h) (Or.inl ⟨by rfl, ?_⟩) ?_ ?_
          rotate_left
          ·intro w'
           go_simp
           with_reducible rfl
          rotate_left
          ·simp only [Act.put, List.setIfInBounds_toArray, List.set_cons_zero, List.set_cons_succ, i64_w, i32_w]
           rfl
          refine pure_ (i := 3) (N := some 28) (v := ?_) (a' := ?_) #[true, true, false, true, false, false, false] rfl rfl (by kernel_rfl) (fun _ _ _ h => h) (Or.inl ⟨by rfl, ?_⟩) ?_ ?_
          rotate_left
          ·intro w'
           go_simp
           with_reducible rfl
          rotate_left
          ·simp only [Act.put, List.setIfInBounds_toArray, List.set_cons_zero, List.set_cons_succ, i64_w, i32_w]
           rfl
          refine take_ (i := 2) (N := some 27) (v := ?_) (a' := ?_) #[true, true, true, true, false, false, false] rfl rfl (by kernel_rfl) (fun _ _ _ h => h) (Or.inl ⟨by rfl, ?_⟩) hHeld ?_ ?_
          rotate_left
          ·intro w' s0
           go_simp
           with_reducible rfl
          rotate_left
          ·simp only [Act.put, List.setIfInBounds_toArray, List.set_cons_zero, List.set_cons_succ, i64_w, i32_w]
           rfl
          refine one_ (i := 4) (N := some 29) #[true, true, true, true, true, false, false] rfl rfl (by kernel_rfl) (by decide) (fun K hK => ?_)
          refine goes_ Try.func101 (by kernel_rfl) rfl #[.slice A0 l0.length c0] (by rfl) rfl rfl (by (try simp only [List.map_toArray, List.map_cons, List.map_nil]); first | done | rfl | (simp only [List.length_drop, List.length_take]; rfl)) ?_
          with_reducible refine (spec_siPeriod.calls k1 _ _ l0 t107 _ ?side1 ?side2 A10.out).mono ?_
          (case side1 => repeat (first | exact (Kd.C_below HR0.out HB.out) | (with_reducible refine Kd.C_alloc ?_ _) | (with_reducible refine Kd.C_drewN ?_ _) | (with_reducible refine Kd.C_drew ?_)))
          (case side2 => exact HC0.out)
          rintro e w20 ⟨rfl, hb⟩
          have HS0_ := (hb.cell (World.block_lt_of_cell? _ _ (hHeld))).trans (hHeld)
          refine ⟨_, rfl, ?_⟩
          have n0_ := Aside0.mk (HO_5.mv hb)
          have n1_ := Aside0.mk (HO_7.mv hb)
          have n2_ := Aside0.mk (HO_18.mv hb)
          have n3_ := Aside0.mk (HB.mv hb)
          clear HO_5
          clear HO_7
          clear HO_18
          clear HB
          have HO_5 := n0_
          have HO_7 := n1_
          have HO_18 := n2_
          have HB := n3_
          clear n0_ n1_ n2_ n3_
          (try clear hb)
          (try clear hb2)
          (try clear hk)
          (try clear hi)
          refine hK.out _ _ (HS0_) (fun hHeld => ?_)
          clear hK K
          refine norm_ (a' := ?_) ?_ ?_
          rotate_left
          ·show Act.put _ (some 29) _ = _
           simp only [Act.put, List.setIfInBounds_toArray, List.set_cons_zero, List.set_cons_succ, i64_w, i32_w]
           rfl
          refine pure_ (i := 5) (N := some 30) (v := ?_) (a' := ?_) #[true, true, true, true, true, true, false] rfl rfl (by kernel_rfl) (fun _ _ _ h => h) (Or.inl ⟨by rfl, ?_⟩) ?_ ?_
          rotate_left
          ·intro w'
           go_simp
           with_reducible rfl
          rotate_left
          ·simp only [Act.put, List.setIfInBounds_toArray, List.set_cons_zero, List.set_cons_succ, i64_w, i32_w]
           rfl
          refine pure_ (i := 6) (N := some 10) (v := ?_) (a' := ?_) #[true, true, true, true, true, true, true] rfl rfl (by kernel_rfl) (fun _ _ _ h => h) (Or.inl ⟨by rfl, ?_⟩) ?_ ?_
          rotate_left
          ·intro w'
           go_simp
           with_reducible rfl
          rotate_left
          ·simp only [Act.put, List.setIfInBounds_toArray, List.set_cons_zero, List.set_cons_succ, i64_w, i32_w]
           rfl
          refine done_ (by kernel_rfl) ?_
          try go_wp2_with (first | ((with_reducible refine gate_builtin (b := .append) (xs := #[.tmp 41, .tmp 45]) rfl ?_); at_builtin; refine Kd.R_append (Kd.int .i64) (w0 := w) w.heap.size rfl (.tmp 41) (.tmp 45) 24 3 (.int .i64 0) 8 rfl Try.underlying24 info3 rfl (by decide) (by omega) u7 x7_1 (wrap64 ((wrap64 ((rd t101 0) + t107)) - (rd t101 x20_1))) [.int .i64 (wrap64 ((wrap64 ((rd t101 0) + t107)) - (rd t101 x20_1)))] (fun k_ => some k_ ≠ (.slice (some ad105) t101.length co5 : Value).ownBlock ∧ some k_ ≠ (.slice (some ad105) t101.length co5 : Value).ownBlock) (fun _ => False) rfl rfl ?aP (fun _ hk => hk.elim) ?aF ?aO ?aB ?aS ?aL ?_; (case aP => exact rfl); (case aB => exact (by apply_rules only [HB.out, below_alloc, pw_below_drewN, below_drew1])); (case aF => exact (fun k_ hk => ⟨Kd.fresh' (Kd.R_lt (by apply_rules only [HO_5.out, Kd.R_alloc, Kd.R_drewN, Kd.R_drew])) k_ hk, Kd.fresh' (Kd.R_lt (by apply_rules only [HO_18.out, Kd.R_alloc, Kd.R_drewN, Kd.R_drew])) k_ hk⟩)); (case aO => exact (by apply_rules only [HO_7.out, Kd.R_alloc, Kd.R_drewN, Kd.R_drew])); (case aS => exact (below_size (by apply_rules only [HB.out, below_alloc, pw_below_drewN, below_drew1]))); (case aL => have := LMc18.out; omega); intro v113 w21 ho hb hg hat; rw [← Ny112.out] at ho; have n0_ := Aside0.mk (Kd.R_after (ok := (fun _ => True)) (by (with_reducible repeat (first | apply Kd.R_alloc | apply Kd.R_drewN | apply Kd.R_drew)); exact Kd.R_mono HO_5.out (fun _ hk => ⟨trivial, hk⟩)) hg hat); have n1_ := Aside0.mk (Kd.R_after (ok := (fun _ => True)) (by (with_reducible repeat (first | apply Kd.R_alloc | apply Kd.R_drewN | apply Kd.R_drew)); exact Kd.R_mono HO_18.out (fun _ hk => ⟨trivial, hk⟩)) hg hat); have n2_ := Aside0.mk (hb); have n3_ := Aside0.mk (ho); clear HO_5; clear HO_18; clear HB; clear HO_7; have HO_5 := n0_; have HO_18 := n1_; have HB := n2_; have HO114 := n3_; clear n0_ n1_ n2_ n3_; clear ho hb hg hat))
          go_roundg k1
          case measure => have := HK1.out; omega
          case rel => exact ⟨(y112), (wrap64 (x20_1 + 1)), (by first | rfl | (simp; done) | (simp [*]; done)), H', ⟨by have := HK1.out; omega⟩, ⟨by (with_reducible repeat (first | apply Kd.R_alloc | apply Kd.R_drewN | apply Kd.R_drew)); exact Kd.R_mono HO_5.out (fun _ hk => hk.2)⟩, ⟨by apply_rules only [HO114.out, Kd.R_alloc, Kd.R_drewN, Kd.R_drew]⟩, ⟨by (with_reducible repeat (first | apply Kd.R_alloc | apply Kd.R_drewN | apply Kd.R_drew)); exact Kd.R_mono HO_18.out (fun _ hk => hk.2)⟩, ⟨by apply_rules only [HB.out, below_alloc, pw_below_drewN, below_drew1]⟩⟩
         ·rw [if_neg c18] at H
          exact absurd H (by simp)
       ·rw [if_neg c9] at H
        exact absurd H (by simp)
      ·rw [if_neg c8] at H
       exact absurd H (by simp)
     ·rw [if_neg c7] at H
      exact absurd H (by simp)
    ·rw [if_neg c6] at H
     have c6b0 : decide (x20_1 < (t101.length : Int)) = false := decide_eq_false c6
     clear c6
     simp only [Option.some.injEq, Prod.mk.injEq] at H
     obtain ⟨rfl, rfl, rfl⟩ := H
     go_wp2
     go_ret3
     exact ⟨_, _, by first | rfl | (simp [errW_none, errW_some] <;> rfl) | (simp [*, errW_none, errW_some] <;> rfl), by (with_reducible repeat (first | apply Kd.R_alloc | apply Kd.R_drewN | apply Kd.R_drew)); exact Kd.R_mono HO_7.out (fun _ hk => hk.1), by (with_reducible repeat (first | apply Kd.R_alloc | apply Kd.R_drewN | apply Kd.R_drew)); exact HO_5.out, by apply_rules only [HB.out, below_alloc, pw_below_drewN, below_drew1]⟩
 ·replace c3 := Bool.eq_false_iff.mpr c3
  subst c3
  rw [if_neg (show ¬ (false = true) by decide)] at H
  simp only [Option.some.injEq, Prod.mk.injEq] at H
  obtain ⟨rfl, rfl, rfl⟩ := H
  go_enter Try.func73, Try.ntmps73
  go_wp2_with (first | ((with_reducible refine gate_callee (f := 86) rfl ?_); refine goesL_ (some 13) rfl rfl Try.func86 (by kernel_rfl) rfl #[.slice A0 l0.length c0] rfl (by (try simp only [List.map_toArray, List.map_cons, List.map_nil]); first | done | rfl | (simp only [List.length_drop, List.length_take]; rfl)) ?_; (with_reducible refine (spec_gpLeft.calls k _ _ l0 t101 false _ ?side1 ?side2 A2.out).mono ?_); (case side1 => repeat (first | exact HR0.out | (with_reducible refine Kd.C_alloc ?_ _) | (with_reducible refine Kd.C_drewN ?_ _) | (with_reducible refine Kd.C_drew ?_))); (case side2 => exact HC0.out); rintro e w22 ⟨v103, rfl, ho0, hb⟩; refine ⟨_, rfl, ?_⟩; have n0_ := Aside0.mk (Kd.R_lower ho0 (below_size (by apply_rules only [HB.out, below_alloc, pw_below_drewN, below_drew1]))); have n1_ := Aside0.mk (HB.mv hb); clear HB; have HO104 := n0_; have HB := n1_; clear n0_ n1_; (try clear hb); (try clear hb2); (try clear hk); (try clear hi); (try clear ho0)))
  go_ret3
  exact ⟨_, _, by first | rfl | (simp [errW_none, errW_some] <;> rfl) | (simp [*, errW_none, errW_some] <;> rfl), by first | exact Kd.R_nil _ _ _ _ _ | exact Kd.N_nil _ _ _ _ _ | exact Kd.V_nil _ _ _ _ _ | exact Kd.Q_nil _ _ _ _ _ | exact Kd.S_nil _ _ _ _ _, by first | exact Kd.R_nil _ _ _ _ _ | exact Kd.N_nil _ _ _ _ _ | exact Kd.V_nil _ _ _ _ _ | exact Kd.Q_nil _ _ _ _ _ | exact Kd.S_nil _ _ _ _ _, by apply_rules only [HB.out, below_alloc, pw_below_drewN, below_drew1]⟩
end Go.Proofs.Ytdcijdeiaefjpaa.P
namespace Go.Proofs.Ytdcijdeiaefjpaa.P
open Go.RowKit Go.Proofs.YtdcijdeiaefjpaaW.PrintWords Go.Proofs.YtdcijdeiaefjpaaW.PrintLast Go.Proofs.YtdcijdeiaefjpaaW.PrintMore
attribute [local go_sem] max2_int min2_int max_two min_two max_three min_three max_four min_four
set_option linter.unusedVariables false
set_option linter.unusedSimpArgs false
def spec_l1Most.f (a0 : Int) (a1 : Int) : Option (Int) := if a0 > a1 then (some a0) else (some a1)
set_option maxHeartbeats 8000000 in
set_option maxRecDepth 100000 in
theorem spec_l1Most.calls (a0 : Int) (a1 : Int) (r : Int) (w : World) (h : spec_l1Most.f a0 a1 = some r) :
  Calls Try.prog 75 #[.int .i64 a0, .int .i64 a1] w fun e w' => e = .returned (.int .i64 r) ∧ Drawn0 w w' := by
 have H : (if a0 > a1 then (some a0) else (some a1)) = some r := h
 clear h
 by_cases c3 : a0 > a1
 ·rw [if_pos c3] at H
  have c3b0 : decide (a1 < a0) = true := decide_eq_true c3
  clear c3
  obtain rfl := Option.some.inj H
  go_enter Try.func75, Try.ntmps75
  go_wp2
  go_ret
  exact ⟨by first | rfl | (simp; done) | (simp [*]; done), by repeat (first | exact Drawn0.refl _ | apply Drawn0.step)⟩
 ·rw [if_neg c3] at H
  have c3b0 : decide (a1 < a0) = false := decide_eq_false c3
  clear c3
  obtain rfl := Option.some.inj H
  go_enter Try.func75, Try.ntmps75
  go_wp2
  go_ret
  exact ⟨by first | rfl | (simp; done) | (simp [*]; done), by repeat (first | exact Drawn0.refl _ | apply Drawn0.step)⟩
end Go.Proofs.Ytdcijdeiaefjpaa.P
namespace Go.Proofs.Ytdcijdeiaefjpaa.P
open Go.RowKit Go.Proofs.YtdcijdeiaefjpaaW.PrintWords Go.Proofs.YtdcijdeiaefjpaaW.PrintLast Go.Proofs.YtdcijdeiaefjpaaW.PrintMore
attribute [local go_sem] max2_int min2_int max_two min_two max_three min_three max_four min_four
set_option linter.unusedVariables false
set_option linter.unusedSimpArgs false
def spec_LongestRunOut.l0 : Nat → Int → List Int → Int → Int → Option (Int × Bool)
 | 0, _, _, _, _ => none
 | k + 1, x7, x18, x19, x20 => if x20 < x19 then (if 0 ≤ x20 then (if x20 < (x18.length : Int) then ((spec_l1Most.f x7 (wrap64 ((rd x18 x20) - 1))).bind fun t109 => (spec_LongestRunOut.l0 k t109 x18 x19 (wrap64 (x20 + 1)))) else (none)) else (none)) else (some (x7, true))
def spec_LongestRunOut.f (k : Nat) (l0 : List (SRule)) : Option (Int × Bool) := (spec_gpGaps.f k l0).bind fun bt101 => (if bt101.2.2 = true then (spec_LongestRunOut.l0 k 0 bt101.1 (bt101.1.length : Int) 0) else (some (0, false)))
set_option maxHeartbeats 8000000 in
set_option maxRecDepth 100000 in
theorem spec_LongestRunOut.calls (k : Nat) (A0 : Option Addr) (c0 : Nat) (l0 : List (SRule)) (r1 : Int) (r2 : Bool) (w : World) (hr0 : Kd.C kRule w A0 l0.length l0) (hc0 : l0.length ≤ c0) (h : spec_LongestRunOut.f k l0 = some (r1, r2)) :
  Calls Try.prog 27 #[.slice A0 l0.length c0] w fun e w' => e = .returned (.tuple #[.int .i64 r1, .bool r2]) ∧ Below w.heap.size w w' := by
 have HR0 := Aside0.mk hr0
 have HC0 := Aside0.mk hc0
 clear hr0 hc0
 have HB := Aside0.mk (Below.refl w.heap.size w)
 have H : ((spec_gpGaps.f k l0).bind fun bt101 => (if bt101.2.2 = true then (spec_LongestRunOut.l0 k 0 bt101.1 (bt101.1.length : Int) 0) else (some (0, false)))) = some (r1, r2) := h
 clear h
 replace H := Option.bind_eq_some_iff.mp H
 obtain ⟨⟨t101, t102, t103⟩, A20, H⟩ := H
 (try dsimp only at H)
 have A2 := Aside0.mk A20
 clear A20
 by_cases c3 : t103 = true
 ·subst c3
  rw [if_pos rfl] at H
  have H' := Aside0.mk H
  clear H
  go_enter Try.func27, Try.ntmps27
  go_wp2_with (first | ((with_reducible refine gate_callee (f := 73) rfl ?_); refine goesL_ (some 12) rfl rfl Try.func73 (by kernel_rfl) rfl #[.slice A0 l0.length c0] rfl (by (try simp only [List.map_toArray, List.map_cons, List.map_nil]); first | done | rfl | (simp only [List.length_drop, List.length_take]; rfl)) ?_; (with_reducible refine (spec_gpGaps.calls k _ _ l0 t101 t102 true _ ?side1 ?side2 A2.out).mono ?_); (case side1 => repeat (first | exact HR0.out | (with_reducible refine Kd.C_alloc ?_ _) | (with_reducible refine Kd.C_drewN ?_ _) | (with_reducible refine Kd.C_drew ?_))); (case side2 => exact HC0.out); rintro e w4 ⟨v104, v106, rfl, ho0, ho1, hb⟩; refine ⟨_, rfl, ?_⟩; have n0_ := Aside0.mk (Kd.R_lower ho0 (below_size (by apply_rules only [HB.out, below_alloc, pw_below_drewN, below_drew1]))); have n1_ := Aside0.mk (Kd.R_lower ho1 (below_size (by apply_rules only [HB.out, below_alloc, pw_below_drewN, below_drew1]))); have n2_ := Aside0.mk (HB.mv hb); clear HB; have HO105 := n0_; have HO107 := n1_; have HB := n2_; clear n0_ n1_ n2_; (try clear hb); (try clear hb2); (try clear hk); (try clear hi); (try clear ho0); (try clear ho1); obtain ⟨Ao5, co5, eo5⟩ := Kd.R_slice HO105.out; subst eo5))
  go_loopg [7, 20] k (fun kq v7 v20 w' => ∃ (x7_1 : Int) (x20_1 : Int), v7 = .int .i64 x7_1 ∧ v20 = .int .i64 x20_1 ∧ Aside0 (spec_LongestRunOut.l0 kq x7_1 t101 (t101.length : Int) x20_1 = some (r1, r2)) ∧ Aside0 (kq ≤ k) ∧ Aside0 (Kd.R (Kd.int .i64) 3 w' w.heap.size (fun _ => True) (.slice Ao5 t101.length co5) t101) ∧ Aside0 (Below w.heap.size w w'))
  case atStart => exact ⟨(0), (0), (by first | rfl | (simp; done) | (simp [*]; done)), (by first | rfl | (simp; done) | (simp [*]; done)), H', ⟨Nat.le_refl _⟩, ⟨by (with_reducible repeat (first | apply Kd.R_alloc | apply Kd.R_drewN | apply Kd.R_drew)); exact Kd.R_mono HO105.out (fun _ hk => trivial)⟩, ⟨by apply_rules only [HB.out, below_alloc, pw_below_drewN, below_drew1]⟩⟩
  case round =>
   clear H'
   (try clear c3)
   obtain ⟨x7_1, x20_1, rfl, rfl, HA, HK1, HO_18, HB⟩ := hrel
   cases gk with
   | zero => exact absurd HA.out (by simp [spec_LongestRunOut.l0])
   | succ k1 =>
    have H := HA.out
    clear HA
    simp only [spec_LongestRunOut.l0] at H
    by_cases c6 : x20_1 < (t101.length : Int)
    ·rw [if_pos c6] at H
     have c6b0 : decide (x20_1 < (t101.length : Int)) = true := decide_eq_true c6
     clear c6
     by_cases c7 : 0 ≤ x20_1
     ·rw [if_pos c7] at H
      have c7b0 : decide (0 ≤ x20_1) = true := decide_eq_true c7
      clear c7
      by_cases c8 : x20_1 < (t101.length : Int)
      ·rw [if_pos c8] at H
       have c8b0 : decide (x20_1 < (t101.length : Int)) = true := decide_eq_true c8
       clear c8
       replace H := Option.bind_eq_some_iff.mp H
       obtain ⟨t109, A90, H⟩ := H
       (try dsimp only at H)
       have A9 := Aside0.mk A90
       clear A90
       have H' := Aside0.mk H
       clear H
       have p108 : 0 ≤ (x20_1 : Int) := of_decide_eq_true (by first | (with_reducible assumption) | assumption)
       have q108 : x20_1 < (t101.length : Int) := of_decide_eq_true (by first | (with_reducible assumption) | assumption)
       obtain ⟨ad108, e108, hx108_0⟩ := Kd.at_int (Kd.R_reads' HO_18.out).2.2 x20_1 p108 q108
       cases e108
       replace p108 := eq_true p108
       replace q108 := eq_true q108
       go_wp2_with (first | ((with_reducible refine gate_callee (f := 75) rfl ?_); refine goesL_ (some 27) rfl rfl Try.func75 (by kernel_rfl) rfl #[.int .i64 x7_1, .int .i64 (wrap64 ((rd t101 x20_1) - 1))] rfl (by (try simp only [List.map_toArray, List.map_cons, List.map_nil]); first | done | rfl | (simp only [List.length_drop, List.length_take]; rfl)) ?_; (with_reducible refine (spec_l1Most.calls x7_1 (wrap64 ((rd t101 x20_1) - 1)) t109 _ A9.out).mono ?_); rintro e w' ⟨rfl, ⟨nd, rfl⟩⟩; refine ⟨_, rfl, ?_⟩))
       go_roundg k1
       case measure => have := HK1.out; omega
       case rel => exact ⟨(t109), (wrap64 (x20_1 + 1)), (by first | rfl | (simp; done) | (simp [*]; done)), (by first | rfl | (simp; done) | (simp [*]; done)), H', ⟨by have := HK1.out; omega⟩, ⟨by apply_rules only [HO_18.out, Kd.R_alloc, Kd.R_drewN, Kd.R_drew]⟩, ⟨by apply_rules only [HB.out, below_alloc, pw_below_drewN, below_drew1]⟩⟩
      ·rw [if_neg c8] at H
       exact absurd H (by simp)
     ·rw [if_neg c7] at H
      exact absurd H (by simp)
    ·rw [if_neg c6] at H
     have c6b0 : decide (x20_1 < (t101.length : Int)) = false := decide_eq_false c6
     clear c6
     simp only [Option.some.injEq, Prod.mk.injEq] at H
     obtain ⟨rfl, rfl⟩ := H
     go_wp2
     go_ret2
     exact ⟨by first | rfl | (simp [errW_none, errW_some] <;> rfl) | (simp [*, errW_none, errW_some] <;> rfl), by apply_rules only [HB.out, below_alloc, pw_below_drewN, below_drew1]⟩
 ·replace c3 := Bool.eq_false_iff.mpr c3
  subst c3
  rw [if_neg (show ¬ (false = true) by decide)] at H
  simp only [Option.some.injEq, Prod.mk.injEq] at H
  obtain ⟨rfl, rfl⟩ := H
  go_enter Try.func27, Try.ntmps27
  go_wp2_with (first | ((with_reducible refine gate_callee (f := 73) rfl ?_); refine goesL_ (some 12) rfl rfl Try.func73 (by kernel_rfl) rfl #[.slice A0 l0.length c0] rfl (by (try simp only [List.map_toArray, List.map_cons, List.map_nil]); first | done | rfl | (simp only [List.length_drop, List.length_take]; rfl)) ?_; (with_reducible refine (spec_gpGaps.calls k _ _ l0 t101 t102 false _ ?side1 ?side2 A2.out).mono ?_); (case side1 => repeat (first | exact HR0.out | (with_reducible refine Kd.C_alloc ?_ _) | (with_reducible refine Kd.C_drewN ?_ _) | (with_reducible refine Kd.C_drew ?_))); (case side2 => exact HC0.out); rintro e w10 ⟨v104, v106, rfl, ho0, ho1, hb⟩; refine ⟨_, rfl, ?_⟩; have n0_ := Aside0.mk (Kd.R_lower ho0 (below_size (by apply_rules only [HB.out, below_alloc, pw_below_drewN, below_drew1]))); have n1_ := Aside0.mk (Kd.R_lower ho1 (below_size (by apply_rules only [HB.out, below_alloc, pw_below_drewN, below_drew1]))); have n2_ := Aside0.mk (HB.mv hb); clear HB; have HO105 := n0_; have HO107 := n1_; have HB := n2_; clear n0_ n1_ n2_; (try clear hb); (try clear hb2); (try clear hk); (try clear hi); (try clear ho0); (try clear ho1)))
  go_ret2
  exact ⟨by first | rfl | (simp [errW_none, errW_some] <;> rfl) | (simp [*, errW_none, errW_some] <;> rfl), by apply_rules only [HB.out, below_alloc, pw_below_drewN, below_drew1]⟩
end Go.Proofs.Ytdcijdeiaefjpaa.P
namespace Go.Proofs.Ytdcijdeiaefjpaa.P
open Go.RowKit Go.Proofs.YtdcijdeiaefjpaaW.PrintWords Go.Proofs.YtdcijdeiaefjpaaW.PrintLast Go.Proofs.YtdcijdeiaefjpaaW.PrintMore
attribute [local go_sem] max2_int min2_int max_two min_two max_three min_three max_four min_four
set_option linter.unusedVariables false
set_option linter.unusedSimpArgs false
mutual
def impl_LongestRunLeft.j0 : Nat → List Int → Bool → Option (Int × Bool)
 | 0, _, _ => none
 | k + 1, x5, x23 => if x23 = true then (some (0, false)) else (impl_LongestRunLeft.l0 k x5 1 1 0)
def impl_LongestRunLeft.l0 : Nat → List Int → Int → Int → Int → Option (Int × Bool)
 | 0, _, _, _, _ => none
 | k + 1, x5, x7, x8, x24 => if x24 < 2 then (impl_LongestRunLeft.l1 k x5 x7 x8 x24 x5 (x5.length : Int) 0) else (some (x7, true))
def impl_LongestRunLeft.l1 : Nat → List Int → Int → Int → Int → List Int → Int → Int → Option (Int × Bool)
 | 0, _, _, _, _, _, _, _ => none
 | k + 1, x5, x7, x8, x24, x26, x27, x28 => if x28 < x27 then (if 0 ≤ x28 then (if x28 < (x26.length : Int) then (if (rd x26 x28) > 1 then (impl_LongestRunLeft.l1 k x5 (mx x7 1) 1 x24 x26 x27 (wrap64 (x28 + 1))) else (impl_LongestRunLeft.l1 k x5 (mx x7 (wrap64 (x8 + 1))) (wrap64 (x8 + 1)) x24 x26 x27 (wrap64 (x28 + 1)))) else (none)) else (none)) else (impl_LongestRunLeft.l0 k x5 x7 x8 (wrap64 (x24 + 1)))
end
def impl_LongestRunLeft.f (k : Nat) (l0 : List (SRule)) : Option (Int × Bool) := (impl_periodGaps.f k l0).bind fun bt101 => (if bt101.2.2 = true then (impl_LongestRunLeft.j0 k bt101.2.1 ((l0.length : Int) == 0)) else (impl_LongestRunLeft.j0 k bt101.2.1 true))
set_option maxHeartbeats 8000000 in
set_option maxRecDepth 100000 in
theorem impl_LongestRunLeft.calls (k : Nat) (A0 : Option Addr) (c0 : Nat) (l0 : List (SRule)) (r1 : Int) (r2 : Bool) (w : World) (hr0 : Kd.C kRule w A0 l0.length l0) (hc0 : l0.length ≤ c0) (h : impl_LongestRunLeft.f k l0 = some (r1, r2)) :
  Calls Try.prog 28 #[.slice A0 l0.length c0] w fun e w' => e = .returned (.tuple #[.int .i64 r1, .bool r2]) ∧ Below w.heap.size w w' := by
 have HR0 := Aside0.mk hr0
 have HC0 := Aside0.mk hc0
 clear hr0 hc0
 have HB := Aside0.mk (Below.refl w.heap.size w)
 have H : ((impl_periodGaps.f k l0).bind fun bt101 => (if bt101.2.2 = true then (impl_LongestRunLeft.j0 k bt101.2.1 ((l0.length : Int) == 0)) else (impl_LongestRunLeft.j0 k bt101.2.1 true))) = some (r1, r2) := h
 clear h
 replace H := Option.bind_eq_some_iff.mp H
 obtain ⟨⟨t101, t102, t103⟩, A20, H⟩ := H
 (try dsimp only at H)
 have A2 := Aside0.mk A20
 clear A20
 have HC3 := Aside0.mk H
 clear H
 go_enter Try.func28, Try.ntmps28
 go_upto_region 2 with (first | ((with_reducible refine gate_callee (f := 62) rfl ?_); refine goesL_ (some 13) rfl rfl Try.func62 (by kernel_rfl) rfl #[.slice A0 l0.length c0] rfl (by (try simp only [List.map_toArray, List.map_cons, List.map_nil]); first | done | rfl | (simp only [List.length_drop, List.length_take]; rfl)) ?_; (with_reducible refine (impl_periodGaps.calls k _ _ l0 t101 t102 t103 _ ?side1 ?side2 A2.out).mono ?_); (case side1 => repeat (first | exact HR0.out | (with_reducible refine Kd.C_alloc ?_ _) | (with_reducible refine Kd.C_drewN ?_ _) | (with_reducible refine Kd.C_drew ?_))); (case side2 => exact HC0.out); rintro e w4 ⟨v104, v106, rfl, ho0, ho1, hb⟩; refine ⟨_, rfl, ?_⟩; have n0_ := Aside0.mk (Kd.R_lower ho0 (below_size (by apply_rules only [HB.out, below_alloc, pw_below_drewN, below_drew1]))); have n1_ := Aside0.mk (Kd.R_lower ho1 (below_size (by apply_rules only [HB.out, below_alloc, pw_below_drewN, below_drew1]))); have n2_ := Aside0.mk (HB.mv hb); clear HB; have HO105 := n0_; have HO107 := n1_; have HB := n2_; clear n0_ n1_ n2_; (try clear hb); (try clear hb2); (try clear hk); (try clear hi); (try clear ho0); (try clear ho1)))
 (try simp only [Act.put, List.setIfInBounds_toArray, List.set_cons_zero, List.set_cons_succ])
 go_cut [23] (fun v23 wc => ∃ (kq : Nat) (x23_2 : Bool), v23 = .bool x23_2 ∧ Aside0 (impl_LongestRunLeft.j0 kq t102 x23_2 = some (r1, r2)) ∧ Aside0 (kq ≤ k) ∧ Aside0 (Kd.R (Kd.int .i64) 3 wc w.heap.size (fun _ => True) v106 t102) ∧ Aside0 (Below w.heap.size w wc))
 case first =>
  have H := HC3.out
  clear HC3
  by_cases c5 : t103 = true
  ·subst c5
   rw [if_pos rfl] at H
   have H' := Aside0.mk H
   clear H
   go_wp2
   go_meet
   case rel => exact ⟨_, (((l0.length : Int) == 0)), (by first | rfl | (simp; done) | (simp [*]; done)), H', ⟨by first | omega | exact Nat.le_refl _⟩, ⟨by (with_reducible repeat (first | apply Kd.R_alloc | apply Kd.R_drewN | apply Kd.R_drew)); exact Kd.R_mono HO107.out (fun _ hk => trivial)⟩, ⟨by apply_rules only [HB.out, below_alloc, pw_below_drewN, below_drew1]⟩⟩
  ·replace c5 := Bool.eq_false_iff.mpr c5
   subst c5
   rw [if_neg (show ¬ (false = true) by decide)] at H
   have H' := Aside0.mk H
   clear H
   go_wp2
   go_meet
   case rel => exact ⟨_, (true), (by first | rfl | (simp; done) | (simp [*]; done)), H', ⟨by first | omega | exact Nat.le_refl _⟩, ⟨by (with_reducible repeat (first | apply Kd.R_alloc | apply Kd.R_drewN | apply Kd.R_drew)); exact Kd.R_mono HO107.out (fun _ hk => trivial)⟩, ⟨by apply_rules only [HB.out, below_alloc, pw_below_drewN, below_drew1]⟩⟩
 case rest =>
  clear HC3
  obtain ⟨kq, x23_2, rfl, HA, HJ2, HO_5, HB⟩ := hcut
  cases kq with
  | zero => exact absurd HA.out (by simp [impl_LongestRunLeft.j0])
  | succ kj2 =>
   have H := HA.out
   clear HA
   simp only [impl_LongestRunLeft.j0] at H
   by_cases c6 : x23_2 = true
   ·subst c6
    rw [if_pos rfl] at H
    simp only [Option.some.injEq, Prod.mk.injEq] at H
    obtain ⟨rfl, rfl⟩ := H
    go_wp2
    go_ret2
    exact ⟨by first | rfl | (simp [errW_none, errW_some] <;> rfl) | (simp [*, errW_none, errW_some] <;> rfl), by apply_rules only [HB.out, below_alloc, pw_below_drewN, below_drew1]⟩
   ·replace c6 := Bool.eq_false_iff.mpr c6
    subst c6
    rw [if_neg (show ¬ (false = true) by decide)] at H
    have H' := Aside0.mk H
    clear H
    go_wp2
    go_loopg [7, 8, 24] kj2 (fun kq v7 v8 v24 w' => ∃ (x7_2 : Int) (x8_2 : Int) (x24_2 : Int), v7 = .int .i64 x7_2 ∧ v8 = .int .i64 x8_2 ∧ v24 = .int .i64 x24_2 ∧ Aside0 (impl_LongestRunLeft.l0 kq t102 x7_2 x8_2 x24_2 = some (r1, r2)) ∧ Aside0 (kq ≤ kj2) ∧ Aside0 (Kd.R (Kd.int .i64) 3 w' w.heap.size (fun _ => True) v106 t102) ∧ Aside0 (Below w.heap.size w w'))
    case atStart => exact ⟨(1), (1), (0), (by first | rfl | (simp; done) | (simp [*]; done)), (by first | rfl | (simp; done) | (simp [*]; done)), (by first | rfl | (simp; done) | (simp [*]; done)), H', ⟨Nat.le_refl _⟩, ⟨by apply_rules only [HO_5.out, Kd.R_alloc, Kd.R_drewN, Kd.R_drew]⟩, ⟨by apply_rules only [HB.out, below_alloc, pw_below_drewN, below_drew1]⟩⟩
    case round =>
     clear H'
     (try clear c6)
     obtain ⟨x7_2, x8_2, x24_2, rfl, rfl, rfl, HA, HK2, HO_5, HB⟩ := hrel
     cases gk with
     | zero => exact absurd HA.out (by simp [impl_LongestRunLeft.l0])
     | succ k2 =>
      have H := HA.out
      clear HA
      simp only [impl_LongestRunLeft.l0] at H
      by_cases c7 : x24_2 < 2
      ·rw [if_pos c7] at H
       have c7b0 : decide (x24_2 < 2) = true := decide_eq_true c7
       clear c7
       have H' := Aside0.mk H
       clear H
       obtain ⟨Ao8, co8, eo8⟩ := Kd.R_slice HO_5.out
       subst eo8
       go_wp2
       go_loopg [7, 8, 28] k2 (fun kq v7 v8 v28 w' => ∃ (x7_3 : Int) (x8_3 : Int) (x28_3 : Int), v7 = .int .i64 x7_3 ∧ v8 = .int .i64 x8_3 ∧ v28 = .int .i64 x28_3 ∧ Aside0 (impl_LongestRunLeft.l1 kq t102 x7_3 x8_3 x24_2 t102 (t102.length : Int) x28_3 = some (r1, r2)) ∧ Aside0 (kq ≤ k2) ∧ Aside0 (Kd.R (Kd.int .i64) 3 w' w.heap.size (fun _ => True) (.slice Ao8 t102.length co8) t102) ∧ Aside0 (Kd.R (Kd.int .i64) 3 w' w.heap.size (fun _ => True) (.slice Ao8 t102.length co8) t102) ∧ Aside0 (Below w.heap.size w w'))
       case atStart => exact ⟨(x7_2), (x8_2), (0), (by first | rfl | (simp; done) | (simp [*]; done)), (by first | rfl | (simp; done) | (simp [*]; done)), (by first | rfl | (simp; done) | (simp [*]; done)), H', ⟨Nat.le_refl _⟩, ⟨by apply_rules only [HO_5.out, Kd.R_alloc, Kd.R_drewN, Kd.R_drew]⟩, ⟨by apply_rules only [HO_5.out, Kd.R_alloc, Kd.R_drewN, Kd.R_drew]⟩, ⟨by apply_rules only [HB.out, below_alloc, pw_below_drewN, below_drew1]⟩⟩
       case round =>
        clear H'
        (try clear c6); (try clear c7); (try clear c7b0)
        obtain ⟨x7_3, x8_3, x28_3, rfl, rfl, rfl, HA, HK3, HO_5, HO_26, HB⟩ := hrel
        cases gk with
        | zero => exact absurd HA.out (by simp [impl_LongestRunLeft.l1])
        | succ k3 =>
         have H := HA.out
         clear HA
         simp only [impl_LongestRunLeft.l1] at H
         by_cases c9 : x28_3 < (t102.length : Int)
         ·rw [if_pos c9] at H
          have c9b0 : decide (x28_3 < (t102.length : Int)) = true := decide_eq_true c9
          clear c9
          by_cases c10 : 0 ≤ x28_3
          ·rw [if_pos c10] at H
           have c10b0 : decide (0 ≤ x28_3) = true := decide_eq_true c10
           clear c10
           by_cases c11 : x28_3 < (t102.length : Int)
           ·rw [if_pos c11] at H
            have c11b0 : decide (x28_3 < (t102.length : Int)) = true := decide_eq_true c11
            clear c11
            by_cases c12 : (rd t102 x28_3) > 1
            ·rw [if_pos c12] at H
             have c12b0 : decide (1 < (rd t102 x28_3)) = true := decide_eq_true c12
             clear c12
             obtain ⟨ji13, hji13⟩ : ∃ j_ : Int, (mx x7_3 1) = j_ := ⟨_, rfl⟩
             replace H : (impl_LongestRunLeft.l1 k3 t102 ji13 1 x24_2 t102 (t102.length : Int) (wrap64 (x28_3 + 1))) = some (r1, r2) := by first | (rw [hji13] at H; exact H) | (simp only [hji13] at H ⊢; exact H)
             have hji13_ : (if x7_3 < 1 then 1 else x7_3) = ji13 := hji13
             have H' := Aside0.mk H
             clear H
             have p108 : 0 ≤ (x28_3 : Int) := of_decide_eq_true (by first | (with_reducible assumption) | assumption)
             have q108 : x28_3 < (t102.length : Int) := of_decide_eq_true (by first | (with_reducible assumption) | assumption)
             obtain ⟨ad108, e108, hx108_0⟩ := Kd.at_int (Kd.R_reads' HO_26.out).2.2 x28_3 p108 q108
             cases e108
             replace p108 := eq_true p108
             replace q108 := eq_true q108
             go_wp2
             go_roundg k3
             case measure => have := HJ2.out; have := HK2.out; have := HK3.out; omega
             case rel => exact ⟨(ji13), (1), (wrap64 (x28_3 + 1)), (by first | rfl | (simp; done) | (simp only [← hji13] <;> (first | rfl | simp)) | (simp [*]; done)), (by first | rfl | (simp; done) | (simp [*]; done)), (by first | rfl | (simp; done) | (simp [*]; done)), H', ⟨by have := HJ2.out; have := HK2.out; have := HK3.out; omega⟩, ⟨by apply_rules only [HO_5.out, Kd.R_alloc, Kd.R_drewN, Kd.R_drew]⟩, ⟨by apply_rules only [HO_26.out, Kd.R_alloc, Kd.R_drewN, Kd.R_drew]⟩, ⟨by apply_rules only [HB.out, below_alloc, pw_below_drewN, below_drew1]⟩⟩
            ·rw [if_neg c12] at H
             have c12b0 : decide (1 < (rd t102 x28_3)) = false := decide_eq_false c12
             clear c12
             obtain ⟨ji14, hji14⟩ : ∃ j_ : Int, (mx x7_3 (wrap64 (x8_3 + 1))) = j_ := ⟨_, rfl⟩
             replace H : (impl_LongestRunLeft.l1 k3 t102 ji14 (wrap64 (x8_3 + 1)) x24_2 t102 (t102.length : Int) (wrap64 (x28_3 + 1))) = some (r1, r2) := by first | (rw [hji14] at H; exact H) | (simp only [hji14] at H ⊢; exact H)
             have hji14_ : (if x7_3 < (wrap64 (x8_3 + 1)) then (wrap64 (x8_3 + 1)) else x7_3) = ji14 := hji14
             have H' := Aside0.mk H
             clear H
             have p108 : 0 ≤ (x28_3 : Int) := of_decide_eq_true (by first | (with_reducible assumption) | assumption)
             have q108 : x28_3 < (t102.length : Int) := of_decide_eq_true (by first | (with_reducible assumption) | assumption)
             obtain ⟨ad108, e108, hx108_0⟩ := Kd.at_int (Kd.R_reads' HO_26.out).2.2 x28_3 p108 q108
             cases e108
             replace p108 := eq_true p108
             replace q108 := eq_true q108
             go_wp2
             go_roundg k3
             case measure => have := HJ2.out; have := HK2.out; have := HK3.out; omega
             case rel => exact ⟨(ji14), (wrap64 (x8_3 + 1)), (wrap64 (x28_3 + 1)), (by first | rfl | (simp; done) | (simp only [← hji14] <;> (first | rfl | simp)) | (simp [*]; done)), (by first | rfl | (simp; done) | (simp [*]; done)), (by first | rfl | (simp; done) | (simp [*]; done)), H', ⟨by have := HJ2.out; have := HK2.out; have := HK3.out; omega⟩, ⟨by apply_rules only [HO_5.out, Kd.R_alloc, Kd.R_drewN, Kd.R_drew]⟩, ⟨by apply_rules only [HO_26.out, Kd.R_alloc, Kd.R_drewN, Kd.R_drew]⟩, ⟨by apply_rules only [HB.out, below_alloc, pw_below_drewN, below_drew1]⟩⟩
           ·rw [if_neg c11] at H
            exact absurd H (by simp)
          ·rw [if_neg c10] at H
           exact absurd H (by simp)
         ·rw [if_neg c9] at H
          have c9b0 : decide (x28_3 < (t102.length : Int)) = false := decide_eq_false c9
          clear c9
          have H' := Aside0.mk H
          clear H
          go_wp2
          go_roundg k3
          case measure => have := HJ2.out; have := HK2.out; have := HK3.out; omega
          case rel => exact ⟨(x7_3), (x8_3), (wrap64 (x24_2 + 1)), (by first | rfl | (simp; done) | (simp [*]; done)), (by first | rfl | (simp; done) | (simp [*]; done)), (by first | rfl | (simp; done) | (simp [*]; done)), H', ⟨by have := HJ2.out; have := HK2.out; have := HK3.out; omega⟩, ⟨by apply_rules only [HO_5.out, Kd.R_alloc, Kd.R_drewN, Kd.R_drew]⟩, ⟨by apply_rules only [HB.out, below_alloc, pw_below_drewN, below_drew1]⟩⟩
      ·rw [if_neg c7] at H
       have c7b0 : decide (x24_2 < 2) = false := decide_eq_false c7
       clear c7
       simp only [Option.some.injEq, Prod.mk.injEq] at H
       obtain ⟨rfl, rfl⟩ := H
       go_wp2
       go_ret2
       exact ⟨by first | rfl | (simp [errW_none, errW_some] <;> rfl) | (simp [*, errW_none, errW_some] <;> rfl), by apply_rules only [HB.out, below_alloc, pw_below_drewN, below_drew1]⟩
end Go.Proofs.Ytdcijdeiaefjpaa.P
namespace Go.Proofs.Ytdcijdeiaefjpaa.P
open Go.RowKit Go.Proofs.YtdcijdeiaefjpaaW.PrintWords Go.Proofs.YtdcijdeiaefjpaaW.PrintLast Go.Proofs.YtdcijdeiaefjpaaW.PrintMore
attribute [local go_sem] max2_int min2_int max_two min_two max_three min_three max_four min_four
set_option linter.unusedVariables false
set_option linter.unusedSimpArgs false
mutual
def spec_LongestRunLeft.j0 : Nat → List Int → Bool → Option (Int × Bool)
 | 0, _, _ => none
 | k + 1, x4, x22 => if x22 = true then (some (0, false)) else (spec_LongestRunLeft.l0 k x4 1 1 0)
def spec_LongestRunLeft.l0 : Nat → List Int → Int → Int → Int → Option (Int × Bool)
 | 0, _, _, _, _ => none
 | k + 1, x4, x7, x8, x9 => if x9 < (wrap64 (2 * (x4.length : Int))) then (if (x4.length : Int) = 0 then (none) else (if 0 ≤ (Int.tmod x9 (x4.length : Int)) then (if (Int.tmod x9 (x4.length : Int)) < (x4.length : Int) then (if (rd x4 (Int.tmod x9 (x4.length : Int))) = 1 then ((spec_l1Most.f x7 (wrap64 (x8 + 1))).bind fun t109 => (spec_LongestRunLeft.l0 k x4 t109 (wrap64 (x8 + 1)) (wrap64 (x9 + 1)))) else ((spec_l1Most.f x7 1).bind fun t110 => (spec_LongestRunLeft.l0 k x4 t110 1 (wrap64 (x9 + 1))))) else (none)) else (none))) else (some (x7, true))
end
def spec_LongestRunLeft.f (k : Nat) (l0 : List (SRule)) : Option (Int × Bool) := (spec_gpGaps.f k l0).bind fun bt101 => (if bt101.2.2 = true then (spec_LongestRunLeft.j0 k bt101.1 ((l0.length : Int) == 0)) else (spec_LongestRunLeft.j0 k bt101.1 true))
set_option maxHeartbeats 8000000 in
set_option maxRecDepth 100000 in
theorem spec_LongestRunLeft.calls (k : Nat) (A0 : Option Addr) (c0 : Nat) (l0 : List (SRule)) (r1 : Int) (r2 : Bool) (w : World) (hr0 : Kd.C kRule w A0 l0.length l0) (hc0 : l0.length ≤ c0) (h : spec_LongestRunLeft.f k l0 = some (r1, r2)) :
  Calls Try.prog 29 #[.slice A0 l0.length c0] w fun e w' => e = .returned (.tuple #[.int .i64 r1, .bool r2]) ∧ Below w.heap.size w w' := by
 have HR0 := Aside0.mk hr0
 have HC0 := Aside0.mk hc0
 clear hr0 hc0
 have HB := Aside0.mk (Below.refl w.heap.size w)
 have H : ((spec_gpGaps.f k l0).bind fun bt101 => (if bt101.2.2 = true then (spec_LongestRunLeft.j0 k bt101.1 ((l0.length : Int) == 0)) else (spec_LongestRunLeft.j0 k bt101.1 true))) = some (r1, r2) := h
 clear h
 replace H := Option.bind_eq_some_iff.mp H
 obtain ⟨⟨t101, t102, t103⟩, A20, H⟩ := H
 (try dsimp only at H)
 have A2 := Aside0.mk A20
 clear A20
 have HC3 := Aside0.mk H
 clear H
 go_enter Try.func29, Try.ntmps29
 go_upto_region 2 with (first | ((with_reducible refine gate_callee (f := 73) rfl ?_); refine goesL_ (some 12) rfl rfl Try.func73 (by kernel_rfl) rfl #[.slice A0 l0.length c0] rfl (by (try simp only [List.map_toArray, List.map_cons, List.map_nil]); first | done | rfl | (simp only [List.length_drop, List.length_take]; rfl)) ?_; (with_reducible refine (spec_gpGaps.calls k _ _ l0 t101 t102 t103 _ ?side1 ?side2 A2.out).mono ?_); (case side1 => repeat (first | exact HR0.out | (with_reducible refine Kd.C_alloc ?_ _) | (with_reducible refine Kd.C_drewN ?_ _) | (with_reducible refine Kd.C_drew ?_))); (case side2 => exact HC0.out); rintro e w4 ⟨v104, v106, rfl, ho0, ho1, hb⟩; refine ⟨_, rfl, ?_⟩; have n0_ := Aside0.mk (Kd.R_lower ho0 (below_size (by apply_rules only [HB.out, below_alloc, pw_below_drewN, below_drew1]))); have n1_ := Aside0.mk (Kd.R_lower ho1 (below_size (by apply_rules only [HB.out, below_alloc, pw_below_drewN, below_drew1]))); have n2_ := Aside0.mk (HB.mv hb); clear HB; have HO105 := n0_; have HO107 := n1_; have HB := n2_; clear n0_ n1_ n2_; (try clear hb); (try clear hb2); (try clear hk); (try clear hi); (try clear ho0); (try clear ho1)))
 (try simp only [Act.put, List.setIfInBounds_toArray, List.set_cons_zero, List.set_cons_succ])
 go_cut [22] (fun v22 wc => ∃ (kq : Nat) (x22_2 : Bool), v22 = .bool x22_2 ∧ Aside0 (spec_LongestRunLeft.j0 kq t101 x22_2 = some (r1, r2)) ∧ Aside0 (kq ≤ k) ∧ Aside0 (Kd.R (Kd.int .i64) 3 wc w.heap.size (fun _ => True) v104 t101) ∧ Aside0 (Below w.heap.size w wc))
 case first =>
  have H := HC3.out
  clear HC3
  by_cases c5 : t103 = true
  ·subst c5
   rw [if_pos rfl] at H
   have H' := Aside0.mk H
   clear H
   go_wp2
   go_meet
   case rel => exact ⟨_, (((l0.length : Int) == 0)), (by first | rfl | (simp; done) | (simp [*]; done)), H', ⟨by first | omega | exact Nat.le_refl _⟩, ⟨by (with_reducible repeat (first | apply Kd.R_alloc | apply Kd.R_drewN | apply Kd.R_drew)); exact Kd.R_mono HO105.out (fun _ hk => trivial)⟩, ⟨by apply_rules only [HB.out, below_alloc, pw_below_drewN, below_drew1]⟩⟩
  ·replace c5 := Bool.eq_false_iff.mpr c5
   subst c5
   rw [if_neg (show ¬ (false = true) by decide)] at H
   have H' := Aside0.mk H
   clear H
   go_wp2
   go_meet
   case rel => exact ⟨_, (true), (by first | rfl | (simp; done) | (simp [*]; done)), H', ⟨by first | omega | exact Nat.le_refl _⟩, ⟨by (with_reducible repeat (first | apply Kd.R_alloc | apply Kd.R_drewN | apply Kd.R_drew)); exact Kd.R_mono HO105.out (fun _ hk => trivial)⟩, ⟨by apply_rules only [HB.out, below_alloc, pw_below_drewN, below_drew1]⟩⟩
 case rest =>
  clear HC3
  obtain ⟨kq, x22_2, rfl, HA, HJ2, HO_4, HB⟩ := hcut
  cases kq with
  | zero => exact absurd HA.out (by simp [spec_LongestRunLeft.j0])
  | succ kj2 =>
   have H := HA.out
   clear HA
   simp only [spec_LongestRunLeft.j0] at H
   by_cases c6 : x22_2 = true
   ·subst c6
    rw [if_pos rfl] at H
    simp only [Option.some.injEq, Prod.mk.injEq] at H
    obtain ⟨rfl, rfl⟩ := H
    go_wp2
    go_ret2
    exact ⟨by first | rfl | (simp [errW_none, errW_some] <;> rfl) | (simp [*, errW_none, errW_some] <;> rfl), by apply_rules only [HB.out, below_alloc, pw_below_drewN, below_drew1]⟩
   ·replace c6 := Bool.eq_false_iff.mpr c6
    subst c6
    rw [if_neg (show ¬ (false = true) by decide)] at H
    have H' := Aside0.mk H
    clear H
    go_wp2
    go_loopg [7, 8, 9] kj2 (fun kq v7 v8 v9 w' => ∃ (x7_2 : Int) (x8_2 : Int) (x9_2 : Int), v7 = .int .i64 x7_2 ∧ v8 = .int .i64 x8_2 ∧ v9 = .int .i64 x9_2 ∧ Aside0 (spec_LongestRunLeft.l0 kq t101 x7_2 x8_2 x9_2 = some (r1, r2)) ∧ Aside0 (kq ≤ kj2) ∧ Aside0 (Kd.R (Kd.int .i64) 3 w' w.heap.size (fun _ => True) v104 t101) ∧ Aside0 (Below w.heap.size w w'))
    case atStart => exact ⟨(1), (1), (0), (by first | rfl | (simp; done) | (simp [*]; done)), (by first | rfl | (simp; done) | (simp [*]; done)), (by first | rfl | (simp; done) | (simp [*]; done)), H', ⟨Nat.le_refl _⟩, ⟨by apply_rules only [HO_4.out, Kd.R_alloc, Kd.R_drewN, Kd.R_drew]⟩, ⟨by apply_rules only [HB.out, below_alloc, pw_below_drewN, below_drew1]⟩⟩
    case round =>
     clear H'
     (try clear c6)
     obtain ⟨x7_2, x8_2, x9_2, rfl, rfl, rfl, HA, HK2, HO_4, HB⟩ := hrel
     cases gk with
     | zero => exact absurd HA.out (by simp [spec_LongestRunLeft.l0])
     | succ k2 =>
      have H := HA.out
      clear HA
      simp only [spec_LongestRunLeft.l0] at H
      by_cases c7 : x9_2 < (wrap64 (2 * (t101.length : Int)))
      ·rw [if_pos c7] at H
       have c7b0 : decide (x9_2 < (wrap64 (2 * (t101.length : Int)))) = true := decide_eq_true c7
       clear c7
       by_cases c8 : (t101.length : Int) = 0
       ·rw [if_pos c8] at H
        exact absurd H (by simp)
       ·rw [if_neg c8] at H
        have c8b0 : ((t101.length : Int) == 0) = false := beq_eq_false_iff_ne.mpr c8
        have c8b1 : ((t101.length : Int) != 0) = true := bne_iff_ne.mpr c8
        have c8b2 : ¬ (t101 = []) := fun h_ => c8 (by rw [h_]; rfl)
        obtain ⟨ji9, hji9⟩ : ∃ j_ : Int, (Int.tmod x9_2 (t101.length : Int)) = j_ := ⟨_, rfl⟩
        replace H : (if 0 ≤ (ji9) then (if (ji9) < (t101.length : Int) then (if (rd t101 (ji9)) = 1 then ((spec_l1Most.f x7_2 (wrap64 (x8_2 + 1))).bind fun t109 => (spec_LongestRunLeft.l0 k2 t101 t109 (wrap64 (x8_2 + 1)) (wrap64 (x9_2 + 1)))) else ((spec_l1Most.f x7_2 1).bind fun t110 => (spec_LongestRunLeft.l0 k2 t101 t110 1 (wrap64 (x9_2 + 1))))) else (none)) else (none)) = some (r1, r2) := by first | (rw [hji9] at H; exact H) | (simp only [hji9] at H ⊢; exact H)
        by_cases c10 : 0 ≤ (ji9)
        ·rw [if_pos c10] at H
         have c10b0 : decide (0 ≤ (ji9)) = true := decide_eq_true c10
         clear c10
         by_cases c11 : (ji9) < (t101.length : Int)
         ·rw [if_pos c11] at H
          have c11b0 : decide ((ji9) < (t101.length : Int)) = true := decide_eq_true c11
          clear c11
          by_cases c12 : (rd t101 (ji9)) = 1
          ·rw [if_pos c12] at H
           have c12b0 : ((rd t101 (ji9)) == 1) = true := beq_iff_eq.mpr c12
           have c12b1 : ((rd t101 (ji9)) != 1) = false := bne_eq_false_iff_eq.mpr c12
           clear c12
           replace H := Option.bind_eq_some_iff.mp H
           obtain ⟨t109, A130, H⟩ := H
           (try dsimp only at H)
           have A13 := Aside0.mk A130
           clear A130
           have H' := Aside0.mk H
           clear H
           obtain ⟨Ao14, co14, eo14⟩ := Kd.R_slice HO_4.out
           subst eo14
           have p108 : 0 ≤ ((ji9) : Int) := of_decide_eq_true (by first | (with_reducible assumption) | assumption)
           have q108 : (ji9) < (t101.length : Int) := of_decide_eq_true (by first | (with_reducible assumption) | assumption)
           obtain ⟨ad108, e108, hx108_0⟩ := Kd.at_int (Kd.R_reads' HO_4.out).2.2 (ji9) p108 q108
           cases e108
           replace p108 := eq_true p108
           replace q108 := eq_true q108
           go_wp2_with (first | ((with_reducible refine gate_callee (f := 75) rfl ?_); refine goesL_ (some 42) rfl rfl Try.func75 (by kernel_rfl) rfl #[.int .i64 x7_2, .int .i64 (wrap64 (x8_2 + 1))] rfl (by (try simp only [List.map_toArray, List.map_cons, List.map_nil]); first | done | rfl | (simp only [List.length_drop, List.length_take]; rfl)) ?_; (with_reducible refine (spec_l1Most.calls x7_2 (wrap64 (x8_2 + 1)) t109 _ A13.out).mono ?_); rintro e w' ⟨rfl, ⟨nd, rfl⟩⟩; refine ⟨_, rfl, ?_⟩))
           go_roundg k2
           case measure => have := HJ2.out; have := HK2.out; omega
           case rel => exact ⟨(t109), (wrap64 (x8_2 + 1)), (wrap64 (x9_2 + 1)), (by first | rfl | (simp; done) | (simp [*]; done)), (by first | rfl | (simp; done) | (simp [*]; done)), (by first | rfl | (simp; done) | (simp [*]; done)), H', ⟨by have := HJ2.out; have := HK2.out; omega⟩, ⟨by apply_rules only [HO_4.out, Kd.R_alloc, Kd.R_drewN, Kd.R_drew]⟩, ⟨by apply_rules only [HB.out, below_alloc, pw_below_drewN, below_drew1]⟩⟩
          ·rw [if_neg c12] at H
           have c12b0 : ((rd t101 (ji9)) == 1) = false := beq_eq_false_iff_ne.mpr c12
           have c12b1 : ((rd t101 (ji9)) != 1) = true := bne_iff_ne.mpr c12
           replace H := Option.bind_eq_some_iff.mp H
           obtain ⟨t110, A150, H⟩ := H
           (try dsimp only at H)
           have A15 := Aside0.mk A150
           clear A150
           have H' := Aside0.mk H
           clear H
           obtain ⟨Ao16, co16, eo16⟩ := Kd.R_slice HO_4.out
           subst eo16
           have p108 : 0 ≤ ((ji9) : Int) := of_decide_eq_true (by first | (with_reducible assumption) | assumption)
           have q108 : (ji9) < (t101.length : Int) := of_decide_eq_true (by first | (with_reducible assumption) | assumption)
           obtain ⟨ad108, e108, hx108_0⟩ := Kd.at_int (Kd.R_reads' HO_4.out).2.2 (ji9) p108 q108
           cases e108
           replace p108 := eq_true p108
           replace q108 := eq_true q108
           go_wp2_with (first | ((with_reducible refine gate_callee (f := 75) rfl ?_); refine goesL_ (some 42) rfl rfl Try.func75 (by kernel_rfl) rfl #[.int .i64 x7_2, .int .i64 1] rfl (by (try simp only [List.map_toArray, List.map_cons, List.map_nil]); first | done | rfl | (simp only [List.length_drop, List.length_take]; rfl)) ?_; (with_reducible refine (spec_l1Most.calls x7_2 1 t110 _ A15.out).mono ?_); rintro e w' ⟨rfl, ⟨nd, rfl⟩⟩; refine ⟨_, rfl, ?_⟩))
           go_roundg k2
           case measure => have := HJ2.out; have := HK2.out; omega
           case rel => exact ⟨(t110), (1), (wrap64 (x9_2 + 1)), (by first | rfl | (simp; done) | (simp [*]; done)), (by first | rfl | (simp; done) | (simp [*]; done)), (by first | rfl | (simp; done) | (simp [*]; done)), H', ⟨by have := HJ2.out; have := HK2.out; omega⟩, ⟨by apply_rules only [HO_4.out, Kd.R_alloc, Kd.R_drewN, Kd.R_drew]⟩, ⟨by apply_rules only [HB.out, below_alloc, pw_below_drewN, below_drew1]⟩⟩
         ·rw [if_neg c11] at H
          exact absurd H (by simp)
        ·rw [if_neg c10] at H
         exact absurd H (by simp)
      ·rw [if_neg c7] at H
       have c7b0 : decide (x9_2 < (wrap64 (2 * (t101.length : Int)))) = false := decide_eq_false c7
       clear c7
       simp only [Option.some.injEq, Prod.mk.injEq] at H
       obtain ⟨rfl, rfl⟩ := H
       obtain ⟨Ao17, co17, eo17⟩ := Kd.R_slice HO_4.out
       subst eo17
       go_wp2
       go_ret2
       exact ⟨by first | rfl | (simp [errW_none, errW_some] <;> rfl) | (simp [*, errW_none, errW_some] <;> rfl), by apply_rules only [HB.out, below_alloc, pw_below_drewN, below_drew1]⟩
end Go.Proofs.Ytdcijdeiaefjpaa.P
