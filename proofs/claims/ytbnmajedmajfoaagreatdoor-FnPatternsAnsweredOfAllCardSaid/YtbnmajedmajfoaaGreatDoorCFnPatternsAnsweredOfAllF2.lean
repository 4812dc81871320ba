/- What functions of the program answer. Proved in this text: its theorems. Conditions: as each theorem states them. -/
import Derived.Test.YtbnmajedmajfoaaGreatDoorCFnPatternsAnsweredOfAllP
import Derived.Test.YtbnmajedmajfoaaGreatDoorCFnPatternsAnsweredOfAllF0
import Derived.Test.YtbnmajedmajfoaaGreatDoorCFnPatternsAnsweredOfAllF1
namespace Go.Proofs.YtbnmajedmajfoaaGreatDoor.P
open Go.RowKit Go.Proofs.YtbnmajedmajfoaaGreatDoorW.PrintWords Go.Proofs.YtbnmajedmajfoaaGreatDoorW.PrintLast Go.Proofs.YtbnmajedmajfoaaGreatDoorW.PrintMore
attribute [local go_sem] max2_int min2_int max_two min_two max_three min_three max_four min_four
set_option linter.unusedVariables false
set_option linter.unusedSimpArgs false
mutual
def impl_IsAnswer.j0 : Nat → List (SRule) → Bool → ByteArray → Int → Option (Bool × Bool)
 | 0, _, _, _, _ => none
 | k + 1, x1, x15, x102000, x102001 => if x15 = true then (some (false, false)) else (impl_IsAnswer.l0 k x1 x1 (x1.length : Int) 0 x102000 x102001)
def impl_IsAnswer.l0 : Nat → List (SRule) → List (SRule) → Int → Int → ByteArray → Int → Option (Bool × Bool)
 | 0, _, _, _, _, _, _ => none
 | k + 1, x1, x16, x17, x18, x102000, x102001 => if x18 < x17 then (if 0 ≤ x18 then (if x18 < (x16.length : Int) then (if ((rd_Rule x16 x18).f0) > 10 then (some (false, true)) else (if x18 > 0 then (if 0 ≤ (wrap64 (x18 - 1)) then (if (wrap64 (x18 - 1)) < (x1.length : Int) then ((impl_compareRules.f k ((rd_Rule x1 (wrap64 (x18 - 1))).f0) ((rd_Rule x1 (wrap64 (x18 - 1))).f1) ((rd_Rule x16 x18).f0) ((rd_Rule x16 x18).f1)).bind fun t107 => (if t107 ≥ 0 then (some (false, true)) else (impl_IsAnswer.l0 k x1 x16 x17 (wrap64 (x18 + 1)) x102000 x102001))) else (none)) else (none)) else (impl_IsAnswer.l0 k x1 x16 x17 (wrap64 (x18 + 1)) x102000 x102001))) else (none)) else (none)) else (if (x1.length : Int) = x102001 then ((impl_agrees.f k x102000 x1).bind fun t108 => (some (t108, true))) else (some (false, true)))
end
def impl_IsAnswer.f (k : Nat) (a0_0 : ByteArray) (a0_1 : Int) (l1 : List (SRule)) : Option (Bool × Bool) := (impl_isPuzzle.f a0_0 a0_1).bind fun t102 => (if t102 = true then ((impl_areRules.f l1).bind fun t103 => (impl_IsAnswer.j0 k l1 (!t103) a0_0 a0_1)) else (impl_IsAnswer.j0 k l1 true a0_0 a0_1))
def impl_IsAnswer.T6 : Bool × List (List Nat × List Nat) := (true, [([], []), ([0], [0]), ([1], [1]), ([2], [2]), ([3], [3]), ([4, 3], [3, 4]), ([5, 3, 3], [3, 5]), ([6], [6]), ([6], [6]), ([8, 6], [6, 8]), ([7, 9, 6], [6, 7, 9]), ([10, 6], [6, 10]), ([6], [6]), ([11, 12, 6, 6], [6, 11, 12]), ([13, 6], [6, 13]), ([6, 14, 3], [3, 6, 14]), ([3, 15], [3, 15])])
def impl_IsAnswer.B6 : List Nat := [0, 1, 3, 7, 15, 31, 63, 127, 127, 383, 1023, 2047, 127, 8191, 16383, 32767, 65535]
theorem impl_IsAnswer.tab6 : rtab .any (opsOf Tryz.f23 6) = impl_IsAnswer.T6 := by kernel_rfl
theorem impl_IsAnswer.bits6 : waitsOk impl_IsAnswer.T6.2 impl_IsAnswer.B6 = true := by kernel_rfl
set_option maxHeartbeats 8000000 in
set_option maxRecDepth 100000 in
theorem impl_IsAnswer.calls (k : Nat) (a0_0 : ByteArray) (a0_1 : Int) (A1 : Option Addr) (c1 : Nat) (l1 : List (SRule)) (r1 : Bool) (r2 : Bool) (w : World) (hr1 : Kd.C kRule w A1 l1.length l1) (hc1 : l1.length ≤ c1) (h : impl_IsAnswer.f k a0_0 a0_1 l1 = some (r1, r2)) :
  Calls Tryz.prog 23 #[.agg #[.string a0_0, .int .i64 a0_1], .slice A1 l1.length c1] w fun e w' => e = .returned (.tuple #[.bool r1, .bool r2]) ∧ Below w.heap.size w w' := by
 have hu23 := Tryz.underlying23
 have hu33 := Tryz.underlying33
 have HR1 := Aside0.mk hr1
 have HC1 := Aside0.mk hc1
 clear hr1 hc1
 have HB := Aside0.mk (Below.refl w.heap.size w)
 have H : ((impl_isPuzzle.f a0_0 a0_1).bind fun t102 => (if t102 = true then ((impl_areRules.f l1).bind fun t103 => (impl_IsAnswer.j0 k l1 (!t103) a0_0 a0_1)) else (impl_IsAnswer.j0 k l1 true a0_0 a0_1))) = some (r1, r2) := h
 clear h
 have HC3 := Aside0.mk H
 clear H
 go_enter Tryz.func23, Tryz.ntmps23
 go_upto_region 1 with (first | ((with_reducible refine gate_dst (N := 2) rfl ?_); refine box_event ?hg (N := 2) ?hd (cs := #[.string a0_0, .int .i64 a0_1]) (t := 23) ?hr ?_; (case hd => rfl); (case hg => rfl); (case hr => exact k94_); intro gb101 hg w4 hbox hb; have BK101 := Aside0.mk (hbox); have GW101 := Aside0.mk (HB.ge hg); have GE101 := Aside0.mk (HB.ge hg); replace HB := HB.mw hb; clear hb hbox hg))
 (try simp only [Act.put, List.setIfInBounds_toArray, List.set_cons_zero, List.set_cons_succ])
 go_cut [15] (fun v15 wc => ∃ (kq : Nat) (x15_2 : Bool), v15 = .bool x15_2 ∧ Aside0 (impl_IsAnswer.j0 kq l1 x15_2 a0_0 a0_1 = some (r1, r2)) ∧ Aside0 (kq ≤ k) ∧ Aside0 (wc.heap[gb101]? = some (.cells #[.string a0_0, .int .i64 a0_1] 23 (0, 0))) ∧ Aside0 (Below w.heap.size w wc))
 case first =>
  have H := HC3.out
  clear HC3
  obtain ⟨t102, A5, H⟩ := obnd_ H
  (try dsimp only at H)
  by_cases c6 : t102 = true
  ·subst c6
   rw [if_pos rfl] at H
   obtain ⟨t103, A7, H⟩ := obnd_ H
   (try dsimp only at H)
   have H' := Aside0.mk H
   clear H
   have hcz8_0 : w4.cell? ⟨gb101, 0, none⟩ = some (.string a0_0) := (blk_cell BK101.out 0).trans rfl
   have hcz8_1 : w4.cell? ⟨gb101, 1, none⟩ = some (.int .i64 a0_1) := (blk_cell BK101.out 1).trans rfl
   have hfz8_0 := blk_frozen BK101.out 0
   have hfz8_1 := blk_frozen BK101.out 1
   go_wp2_with (first | ((with_reducible refine gate_callee (f := 43) rfl ?_); refine goesL_ (some 9) rfl rfl Tryz.func43 (by kernel_rfl) rfl #[.agg #[.string a0_0, .int .i64 a0_1]] rfl k59_ ?_; (with_reducible refine (impl_isPuzzle.calls a0_0 a0_1 true _ A5.out).mono ?_); rintro e w9 ⟨rfl, hb⟩; refine ⟨_, rfl, ?_⟩; replace BK101 := BK101.mw hb; replace HB := Aside0.mk (below_step k71_ hb); (try clear hb)) | (go_at_call 51; (with_reducible refine (impl_areRules.calls _ _ l1 t103 _ ?side1 ?side2 A7.out).mono ?_); (case side1 => exact k48_); (case side2 => exact HC1.out); rintro e w10 ⟨rfl, hb⟩; replace BK101 := BK101.mw hb; replace HB := Aside0.mk (below_step k71_ hb); (try clear hb)))
   go_meet
   case rel => exact ⟨_, (!t103), k92_, H', ⟨k95_⟩, ⟨k85_⟩, ⟨k71_⟩⟩
  ·replace c6 := Bool.eq_false_iff.mpr c6
   subst c6
   rw [if_neg (show ¬ (false = true) by decide)] at H
   have H' := Aside0.mk H
   clear H
   have hcz11_0 : w4.cell? ⟨gb101, 0, none⟩ = some (.string a0_0) := (blk_cell BK101.out 0).trans rfl
   have hcz11_1 : w4.cell? ⟨gb101, 1, none⟩ = some (.int .i64 a0_1) := (blk_cell BK101.out 1).trans rfl
   have hfz11_0 := blk_frozen BK101.out 0
   have hfz11_1 := blk_frozen BK101.out 1
   go_wp2_with (first | ((with_reducible refine gate_callee (f := 43) rfl ?_); refine goesL_ (some 9) rfl rfl Tryz.func43 (by kernel_rfl) rfl #[.agg #[.string a0_0, .int .i64 a0_1]] rfl k59_ ?_; (with_reducible refine (impl_isPuzzle.calls a0_0 a0_1 false _ A5.out).mono ?_); rintro e w12 ⟨rfl, hb⟩; refine ⟨_, rfl, ?_⟩; replace BK101 := BK101.mw hb; replace HB := Aside0.mk (below_step k71_ hb); (try clear hb)))
   go_meet
   case rel => exact ⟨_, (true), k92_, H', ⟨k95_⟩, ⟨k85_⟩, ⟨k71_⟩⟩
 case rest =>
  clear HC3
  obtain ⟨kq, x15_2, rfl, HA, HJ2, BK101, HB⟩ := hcut
  cases kq with
  | zero => exact absurd HA.out (by simp [impl_IsAnswer.j0])
  | succ kj2 =>
   have H := HA.out
   clear HA
   simp only [impl_IsAnswer.j0] at H
   by_cases c13 : x15_2 = true
   ·subst c13
    rw [if_pos rfl] at H
    simp only [Option.some.injEq, Prod.mk.injEq] at H
    obtain ⟨rfl, rfl⟩ := H
    go_wp2
    go_ret2
    exact ⟨k70_, k71_⟩
   ·replace c13 := Bool.eq_false_iff.mpr c13
    subst c13
    rw [if_neg (show ¬ (false = true) by decide)] at H
    have H' := Aside0.mk H
    clear H
    go_wp2
    go_loopg [18] kj2 (fun kq v18 w' => ∃ (x18_2 : Int), v18 = .int .i64 x18_2 ∧ Aside0 (impl_IsAnswer.l0 kq l1 l1 (l1.length : Int) x18_2 a0_0 a0_1 = some (r1, r2)) ∧ Aside0 (kq ≤ kj2) ∧ Aside0 (w'.heap[gb101]? = some (.cells #[.string a0_0, .int .i64 a0_1] 23 (0, 0))) ∧ Aside0 (Below w.heap.size w w'))
    case atStart => exact ⟨(0), k92_, H', ⟨Nat.le_refl _⟩, ⟨k85_⟩, ⟨k71_⟩⟩
    case round =>
     clear H'
     (try clear c13)
     obtain ⟨x18_2, rfl, HA, HK2, BK101, HB⟩ := hrel
     cases gk with
     | zero => exact absurd HA.out (by simp [impl_IsAnswer.l0])
     | succ k2 =>
      have H := HA.out
      clear HA
      simp only [impl_IsAnswer.l0] at H
      by_cases c14 : x18_2 < (l1.length : Int)
      ·rw [if_pos c14] at H
       have c14b0 : decide (x18_2 < (l1.length : Int)) = true := decide_eq_true c14
       clear c14
       by_cases c15 : 0 ≤ x18_2
       ·rw [if_pos c15] at H
        have c15b0 : decide (0 ≤ x18_2) = true := decide_eq_true c15
        clear c15
        by_cases c16 : x18_2 < (l1.length : Int)
        ·rw [if_pos c16] at H
         have c16b0 : decide (x18_2 < (l1.length : Int)) = true := decide_eq_true c16
         clear c16
         by_cases c17 : ((rd_Rule l1 x18_2).f0) > 10
         ·rw [if_pos c17] at H
          have c17b0 : decide (10 < ((rd_Rule l1 x18_2).f0)) = true := decide_eq_true c17
          clear c17
          simp only [Option.some.injEq, Prod.mk.injEq] at H
          obtain ⟨rfl, rfl⟩ := H
          have p104 : 0 ≤ (x18_2 : Int) := of_decide_eq_true k91_
          have q104 : x18_2 < (l1.length : Int) := of_decide_eq_true k91_
          obtain ⟨ad104, e104, hx104_0, hx104_1⟩ := at_Rule HR1.out x18_2 p104 q104
          cases e104
          replace hx104_0 := (HB.out.cell (World.block_lt_of_cell? w _ hx104_0)).trans hx104_0
          replace hx104_1 := (HB.out.cell (World.block_lt_of_cell? w _ hx104_1)).trans hx104_1
          replace p104 := eq_true p104
          replace q104 := eq_true q104
          try go_wp2_with (first | ((with_reducible refine gate_dst (N := 7) rfl ?_); refine box_event ?hg (N := 7) ?hd (cs := #[.int .i64 0, .int .i64 0]) (t := 33) ?hr ?_; (case hd => rfl); (case hg => rfl); (case hr => exact k94_); intro gb105 hg w18 hbox hb; have BK105 := Aside0.mk (hbox); have GW105 := Aside0.mk ((by rw [hg]; exact (below_size k71_) : w.heap.size ≤ gb105)); have GE105 := Aside0.mk ((by rw [hg]; exact (below_size k71_) : w.heap.size ≤ gb105)); replace HB := Aside0.mk (below_step k71_ hb); have NB101_105 := Aside0.mk (BK101.ne hg); have NB105_101 := Aside0.mk (BK101.ne hg).symm; replace BK101 := BK101.mw hb; clear hb hbox hg; have hnb19 := NB105_101.out; have hnc19 := NB101_105.out; have hcz20_0 : w18.cell? ⟨gb105, 0, none⟩ = some (.int .i64 0) := (blk_cell BK105.out 0).trans rfl; have hcz20_1 : w18.cell? ⟨gb105, 1, none⟩ = some (.int .i64 0) := (blk_cell BK105.out 1).trans rfl; have hfz20_0 := blk_frozen BK105.out 0; have hfz20_1 := blk_frozen BK105.out 1))
          have n0_ : Aside0 (((w18.setCell ⟨gb105, 0, none⟩ (.int .i64 ((rd_Rule l1 x18_2).f0))).setCell ⟨gb105, 1, none⟩ (.int .i64 ((rd_Rule l1 x18_2).f1))).heap[gb101]? = some (.cells #[.string a0_0, .int .i64 a0_1] 23 (0, 0))) := ⟨k20_⟩
          have n1_ : Aside0 (((w18.setCell ⟨gb105, 0, none⟩ (.int .i64 ((rd_Rule l1 x18_2).f0))).setCell ⟨gb105, 1, none⟩ (.int .i64 ((rd_Rule l1 x18_2).f1))).heap[gb105]? = some (.cells #[.int .i64 ((rd_Rule l1 x18_2).f0), .int .i64 ((rd_Rule l1 x18_2).f1)] 33 (0, 0))) := ⟨k10_⟩
          have n2_ : Aside0 (Below w.heap.size w ((w18.setCell ⟨gb105, 0, none⟩ (.int .i64 ((rd_Rule l1 x18_2).f0))).setCell ⟨gb105, 1, none⟩ (.int .i64 ((rd_Rule l1 x18_2).f1)))) := ⟨k66_⟩
          (try clear BK101)
          (try clear BK105)
          (try clear HB)
          generalize ((w18.setCell ⟨gb105, 0, none⟩ (.int .i64 ((rd_Rule l1 x18_2).f0))).setCell ⟨gb105, 1, none⟩ (.int .i64 ((rd_Rule l1 x18_2).f1))) = w21 at n0_ n1_ n2_ ⊢
          have BK101 := n0_
          have BK105 := n1_
          have HB := n2_
          clear n0_ n1_ n2_
          replace BK101 := Aside0.mk (blk_drew BK101.out)
          replace BK105 := Aside0.mk (blk_drew BK105.out)
          replace HB := Aside0.mk (below_drew1 HB.out)
          refine start_ (n := 17) (S := fun w' => w'.cell? ⟨gb105, 0, none⟩ = some (.int .i64 ((rd_Rule l1 x18_2).f0)) ∧ w'.cell? ⟨gb105, 1, none⟩ = some (.int .i64 ((rd_Rule l1 x18_2).f1))) (ds := []) (rA_ [0, 17]) (by kernel_rfl) rfl rfl ⟨(blk_cell BK105.out 0).trans rfl, (blk_cell BK105.out 1).trans rfl⟩ (fun hHeld => ?_); refine with_tabW impl_IsAnswer.tab6 impl_IsAnswer.bits6 (fun HT_ HW_ => ?_)
          generalize w21.drew = w22 at BK101 BK105 HB hHeld ⊢
          refine pu_ 0 23 [1, 16] ?_
          refine ta2_ 1 24 [2, 15] ?_
          refine pu_ 2 25 [3, 14] ?_
          refine pu_ 3 26 [4, 13] ?_
          refine pz_ 4 27 [5, 12] ?_
          refine pz_ 5 28 [6, 11] ?_
          refine pz_ 6 29 [7, 10] ?_
          refine pz_ 7 30 [8, 9] ?_
          refine pz_ 8 31 [9, 8] ?_
          refine pz_ 9 32 [10, 7] ?_
          refine pz_ 10 33 [11, 6] ?_
          refine pz_ 11 34 [12, 5] ?_
          refine pz_ 12 35 [13, 4] ?_
          refine pz_ 13 36 [14, 3] ?_
          refine pz_ 14 37 [15, 2] ?_
          refine pz_ 15 38 [16, 1] ?_
          refine pu_ 16 39 [17] ?_
          refine done_ (done_of HT_.out (by kernel_rfl)) ?_
          try go_wp2
          go_ret2
          exact ⟨k70_, k66_⟩
         ·rw [if_neg c17] at H
          have c17b0 : decide (10 < ((rd_Rule l1 x18_2).f0)) = false := decide_eq_false c17
          clear c17
          by_cases c23 : x18_2 > 0
          ·rw [if_pos c23] at H
           have c23b0 : decide (0 < x18_2) = true := decide_eq_true c23
           clear c23
           obtain ⟨ji24, hji24⟩ : ∃ j_ : Int, (wrap64 (x18_2 - 1)) = j_ := ⟨_, rfl⟩
           replace H : (if 0 ≤ (ji24) then (if (ji24) < (l1.length : Int) then ((impl_compareRules.f k2 ((rd_Rule l1 (ji24)).f0) ((rd_Rule l1 (ji24)).f1) ((rd_Rule l1 x18_2).f0) ((rd_Rule l1 x18_2).f1)).bind fun t107 => (if t107 ≥ 0 then (some (false, true)) else (impl_IsAnswer.l0 k2 l1 l1 (l1.length : Int) (wrap64 (x18_2 + 1)) a0_0 a0_1))) else (none)) else (none)) = some (r1, r2) := by first | (rw [hji24] at H; exact H) | (simp only [hji24] at H ⊢; exact H)
           have hji24w : (IntKind.i64.wrap (x18_2 - 1)) = ji24 := (i64_w _).trans hji24
           by_cases c25 : 0 ≤ (ji24)
           ·rw [if_pos c25] at H
            have c25b0 : decide (0 ≤ (ji24)) = true := decide_eq_true c25
            clear c25
            by_cases c26 : (ji24) < (l1.length : Int)
            ·rw [if_pos c26] at H
             have c26b0 : decide ((ji24) < (l1.length : Int)) = true := decide_eq_true c26
             clear c26
             obtain ⟨t107, A27, H⟩ := obnd_ H
             (try dsimp only at H)
             by_cases c28 : t107 ≥ 0
             ·rw [if_pos c28] at H
              have c28b0 : decide (0 ≤ t107) = true := decide_eq_true c28
              clear c28
              simp only [Option.some.injEq, Prod.mk.injEq] at H
              obtain ⟨rfl, rfl⟩ := H
              have p104 : 0 ≤ (x18_2 : Int) := of_decide_eq_true k91_
              have q104 : x18_2 < (l1.length : Int) := of_decide_eq_true k91_
              obtain ⟨ad104, e104, hx104_0, hx104_1⟩ := at_Rule HR1.out x18_2 p104 q104
              cases e104
              replace hx104_0 := (HB.out.cell (World.block_lt_of_cell? w _ hx104_0)).trans hx104_0
              replace hx104_1 := (HB.out.cell (World.block_lt_of_cell? w _ hx104_1)).trans hx104_1
              replace p104 := eq_true p104
              replace q104 := eq_true q104
              try go_wp2_with (first | ((with_reducible refine gate_dst (N := 7) rfl ?_); refine box_event ?hg (N := 7) ?hd (cs := #[.int .i64 0, .int .i64 0]) (t := 33) ?hr ?_; (case hd => rfl); (case hg => rfl); (case hr => exact k94_); intro gb105 hg w29 hbox hb; have BK105 := Aside0.mk (hbox); have GW105 := Aside0.mk ((by rw [hg]; exact (below_size k71_) : w.heap.size ≤ gb105)); have GE105 := Aside0.mk ((by rw [hg]; exact (below_size k71_) : w.heap.size ≤ gb105)); replace HB := Aside0.mk (below_step k71_ hb); have NB101_105 := Aside0.mk (BK101.ne hg); have NB105_101 := Aside0.mk (BK101.ne hg).symm; replace BK101 := BK101.mw hb; clear hb hbox hg; have hnb30 := NB105_101.out; have hnc30 := NB101_105.out; have hcz31_0 : w29.cell? ⟨gb105, 0, none⟩ = some (.int .i64 0) := (blk_cell BK105.out 0).trans rfl; have hcz31_1 : w29.cell? ⟨gb105, 1, none⟩ = some (.int .i64 0) := (blk_cell BK105.out 1).trans rfl; have hfz31_0 := blk_frozen BK105.out 0; have hfz31_1 := blk_frozen BK105.out 1))
              have n0_ : Aside0 (((w29.setCell ⟨gb105, 0, none⟩ (.int .i64 ((rd_Rule l1 x18_2).f0))).setCell ⟨gb105, 1, none⟩ (.int .i64 ((rd_Rule l1 x18_2).f1))).heap[gb101]? = some (.cells #[.string a0_0, .int .i64 a0_1] 23 (0, 0))) := ⟨k20_⟩
              have n1_ : Aside0 (((w29.setCell ⟨gb105, 0, none⟩ (.int .i64 ((rd_Rule l1 x18_2).f0))).setCell ⟨gb105, 1, none⟩ (.int .i64 ((rd_Rule l1 x18_2).f1))).heap[gb105]? = some (.cells #[.int .i64 ((rd_Rule l1 x18_2).f0), .int .i64 ((rd_Rule l1 x18_2).f1)] 33 (0, 0))) := ⟨k10_⟩
              have n2_ : Aside0 (Below w.heap.size w ((w29.setCell ⟨gb105, 0, none⟩ (.int .i64 ((rd_Rule l1 x18_2).f0))).setCell ⟨gb105, 1, none⟩ (.int .i64 ((rd_Rule l1 x18_2).f1)))) := ⟨k66_⟩
              (try clear BK101)
              (try clear BK105)
              (try clear HB)
              generalize ((w29.setCell ⟨gb105, 0, none⟩ (.int .i64 ((rd_Rule l1 x18_2).f0))).setCell ⟨gb105, 1, none⟩ (.int .i64 ((rd_Rule l1 x18_2).f1))) = w32 at n0_ n1_ n2_ ⊢
              have BK101 := n0_
              have BK105 := n1_
              have HB := n2_
              clear n0_ n1_ n2_
              replace BK101 := Aside0.mk (blk_drew BK101.out)
              replace BK105 := Aside0.mk (blk_drew BK105.out)
              replace HB := Aside0.mk (below_drew1 HB.out)
              have p106 : 0 ≤ ((ji24) : Int) := of_decide_eq_true k91_
              have q106 : (ji24) < (l1.length : Int) := of_decide_eq_true k91_
              obtain ⟨ad106, e106, hx106_0, hx106_1⟩ := at_Rule HR1.out (ji24) p106 q106
              have hw106_1 := hx106_1
              have hw106_0 := hx106_0
              obtain rfl : ad104 = ad106 := (by injection e106)
              replace hx106_0 := (HB.out.cell (World.block_lt_of_cell? w _ hx106_0)).trans hx106_0
              replace hx106_1 := (HB.out.cell (World.block_lt_of_cell? w _ hx106_1)).trans hx106_1
              replace p106 := eq_true p106
              replace q106 := eq_true q106
              refine start_ (n := 17) (S := fun w' => w'.cell? ⟨gb105, 0, none⟩ = some (.int .i64 ((rd_Rule l1 x18_2).f0)) ∧ w'.cell? ⟨gb105, 1, none⟩ = some (.int .i64 ((rd_Rule l1 x18_2).f1)) ∧ w'.cell? (ad104.add (((ji24)).toNat * 2)) = some (.int .i64 ((rd_Rule l1 (ji24)).f0)) ∧ w'.cell? ⟨(ad104.add (((ji24)).toNat * 2)).block, (ad104.add (((ji24)).toNat * 2)).off + 1, none⟩ = some (.int .i64 ((rd_Rule l1 (ji24)).f1))) (ds := []) (rA_ [0, 17]) (by kernel_rfl) rfl rfl ⟨(blk_cell BK105.out 0).trans rfl, (blk_cell BK105.out 1).trans rfl, ((HB.out.cell (World.block_lt_of_cell? w _ hw106_0)).trans hw106_0), ((HB.out.cell (World.block_lt_of_cell? w _ hw106_1)).trans hw106_1)⟩ (fun hHeld => ?_); refine with_tabW impl_IsAnswer.tab6 impl_IsAnswer.bits6 (fun HT_ HW_ => ?_)
              generalize w32.drew = w33 at BK101 BK105 HB hx106_0 hx106_1 hHeld ⊢
              refine pu_ 0 23 [1, 16] ?_
              refine ta4_ 1 24 [2, 15] ?_
              refine pu_ 2 25 [3, 14] ?_
              refine pu_ 3 26 [4, 13] ?_
              refine pu_ 4 27 [5, 12] ?_
              refine pu_ 5 28 [6, 11] ?_
              refine pu_ 6 29 [7, 10] ?_
              refine pu_ 7 30 [8, 9] ?_
              refine pu_ 8 31 [9, 8] ?_
              refine pu_ 9 32 [10, 7] ?_
              refine pu_ 10 33 [11, 6] ?_
              refine ta4_ 11 34 [12, 5] ?_
              refine ta4_ 12 35 [13, 4] ?_
              refine one_ (i := 13) (N := some 36) (rA_ [14, 3]) rfl rfl (one_of HT_.out (by kernel_rfl)) (by decide) (fun K hK => ?_)
              refine goes_ Tryz.func52 (by kernel_rfl) rfl #[.agg #[.int .i64 ((rd_Rule l1 (ji24)).f0), .int .i64 ((rd_Rule l1 (ji24)).f1)], .agg #[.int .i64 ((rd_Rule l1 x18_2).f0), .int .i64 ((rd_Rule l1 x18_2).f1)]] (by rfl) rfl rfl (by (try simp only [List.map_toArray, List.map_cons, List.map_nil]); first | done | (simp only [hji24]; rfl) | rfl | (simp only [List.length_drop, List.length_take]; rfl)) ?_
              with_reducible refine (impl_compareRules.calls k2 ((rd_Rule l1 (ji24)).f0) ((rd_Rule l1 (ji24)).f1) ((rd_Rule l1 x18_2).f0) ((rd_Rule l1 x18_2).f1) t107 _ A27.out).mono ?_
              rintro e w34 ⟨rfl, hb⟩
              refine ⟨_, rfl, ?_⟩
              replace BK101 := BK101.mw hb
              replace BK105 := BK105.mw hb
              replace HB := Aside0.mk (below_step k66_ hb)
              (try clear hb)
              (try clear hb2)
              (try clear hk)
              (try clear hi)
              refine hK.out _ _ ⟨(blk_cell BK105.out 0).trans rfl, (blk_cell BK105.out 1).trans rfl, ((HB.out.cell (World.block_lt_of_cell? w _ hw106_0)).trans hw106_0), ((HB.out.cell (World.block_lt_of_cell? w _ hw106_1)).trans hw106_1)⟩ (fun hHeld => ?_)
              clear hK K
              refine nm_ 36 ?_
              refine pu_ 14 37 [15, 2] ?_
              refine pu_ 15 38 [16, 1] ?_
              refine pu_ 16 39 [17] ?_
              refine done_ (done_of HT_.out (by kernel_rfl)) ?_
              try go_wp2
              go_ret2
              exact ⟨by first | rfl | (simp [errW_none, errW_some] <;> rfl) | (simp only [← hji24]; first | rfl | (simp [errW_none, errW_some] <;> rfl)) | (simp [*, errW_none, errW_some] <;> rfl), k66_⟩
             ·rw [if_neg c28] at H
              have c28b0 : decide (0 ≤ t107) = false := decide_eq_false c28
              clear c28
              have H' := Aside0.mk H
              clear H
              have p104 : 0 ≤ (x18_2 : Int) := of_decide_eq_true k91_
              have q104 : x18_2 < (l1.length : Int) := of_decide_eq_true k91_
              obtain ⟨ad104, e104, hx104_0, hx104_1⟩ := at_Rule HR1.out x18_2 p104 q104
              cases e104
              replace hx104_0 := (HB.out.cell (World.block_lt_of_cell? w _ hx104_0)).trans hx104_0
              replace hx104_1 := (HB.out.cell (World.block_lt_of_cell? w _ hx104_1)).trans hx104_1
              replace p104 := eq_true p104
              replace q104 := eq_true q104
              try go_wp2_with (first | ((with_reducible refine gate_dst (N := 7) rfl ?_); refine box_event ?hg (N := 7) ?hd (cs := #[.int .i64 0, .int .i64 0]) (t := 33) ?hr ?_; (case hd => rfl); (case hg => rfl); (case hr => exact k94_); intro gb105 hg w35 hbox hb; have BK105 := Aside0.mk (hbox); have GW105 := Aside0.mk ((by rw [hg]; exact (below_size k71_) : w.heap.size ≤ gb105)); have GE105 := Aside0.mk ((by rw [hg]; exact (below_size k71_) : w.heap.size ≤ gb105)); replace HB := Aside0.mk (below_step k71_ hb); have NB101_105 := Aside0.mk (BK101.ne hg); have NB105_101 := Aside0.mk (BK101.ne hg).symm; replace BK101 := BK101.mw hb; clear hb hbox hg; have hnb36 := NB105_101.out; have hnc36 := NB101_105.out; have hcz37_0 : w35.cell? ⟨gb105, 0, none⟩ = some (.int .i64 0) := (blk_cell BK105.out 0).trans rfl; have hcz37_1 : w35.cell? ⟨gb105, 1, none⟩ = some (.int .i64 0) := (blk_cell BK105.out 1).trans rfl; have hfz37_0 := blk_frozen BK105.out 0; have hfz37_1 := blk_frozen BK105.out 1))
              have n0_ : Aside0 (((w35.setCell ⟨gb105, 0, none⟩ (.int .i64 ((rd_Rule l1 x18_2).f0))).setCell ⟨gb105, 1, none⟩ (.int .i64 ((rd_Rule l1 x18_2).f1))).heap[gb101]? = some (.cells #[.string a0_0, .int .i64 a0_1] 23 (0, 0))) := ⟨k20_⟩
              have n1_ : Aside0 (((w35.setCell ⟨gb105, 0, none⟩ (.int .i64 ((rd_Rule l1 x18_2).f0))).setCell ⟨gb105, 1, none⟩ (.int .i64 ((rd_Rule l1 x18_2).f1))).heap[gb105]? = some (.cells #[.int .i64 ((rd_Rule l1 x18_2).f0), .int .i64 ((rd_Rule l1 x18_2).f1)] 33 (0, 0))) := ⟨k10_⟩
              have n2_ : Aside0 (Below w.heap.size w ((w35.setCell ⟨gb105, 0, none⟩ (.int .i64 ((rd_Rule l1 x18_2).f0))).setCell ⟨gb105, 1, none⟩ (.int .i64 ((rd_Rule l1 x18_2).f1)))) := ⟨k66_⟩
              (try clear BK101)
              (try clear BK105)
              (try clear HB)
              generalize ((w35.setCell ⟨gb105, 0, none⟩ (.int .i64 ((rd_Rule l1 x18_2).f0))).setCell ⟨gb105, 1, none⟩ (.int .i64 ((rd_Rule l1 x18_2).f1))) = w38 at n0_ n1_ n2_ ⊢
              have BK101 := n0_
              have BK105 := n1_
              have HB := n2_
              clear n0_ n1_ n2_
              replace BK101 := Aside0.mk (blk_drew BK101.out)
              replace BK105 := Aside0.mk (blk_drew BK105.out)
              replace HB := Aside0.mk (below_drew1 HB.out)
              have p106 : 0 ≤ ((ji24) : Int) := of_decide_eq_true k91_
              have q106 : (ji24) < (l1.length : Int) := of_decide_eq_true k91_
              obtain ⟨ad106, e106, hx106_0, hx106_1⟩ := at_Rule HR1.out (ji24) p106 q106
              have hw106_1 := hx106_1
              have hw106_0 := hx106_0
              obtain rfl : ad104 = ad106 := (by injection e106)
              replace hx106_0 := (HB.out.cell (World.block_lt_of_cell? w _ hx106_0)).trans hx106_0
              replace hx106_1 := (HB.out.cell (World.block_lt_of_cell? w _ hx106_1)).trans hx106_1
              replace p106 := eq_true p106
              replace q106 := eq_true q106
              refine start_ (n := 17) (S := fun w' => w'.cell? ⟨gb105, 0, none⟩ = some (.int .i64 ((rd_Rule l1 x18_2).f0)) ∧ w'.cell? ⟨gb105, 1, none⟩ = some (.int .i64 ((rd_Rule l1 x18_2).f1)) ∧ w'.cell? (ad104.add (((ji24)).toNat * 2)) = some (.int .i64 ((rd_Rule l1 (ji24)).f0)) ∧ w'.cell? ⟨(ad104.add (((ji24)).toNat * 2)).block, (ad104.add (((ji24)).toNat * 2)).off + 1, none⟩ = some (.int .i64 ((rd_Rule l1 (ji24)).f1))) (ds := []) (rA_ [0, 17]) (by kernel_rfl) rfl rfl ⟨(blk_cell BK105.out 0).trans rfl, (blk_cell BK105.out 1).trans rfl, ((HB.out.cell (World.block_lt_of_cell? w _ hw106_0)).trans hw106_0), ((HB.out.cell (World.block_lt_of_cell? w _ hw106_1)).trans hw106_1)⟩ (fun hHeld => ?_); refine with_tabW impl_IsAnswer.tab6 impl_IsAnswer.bits6 (fun HT_ HW_ => ?_)
              generalize w38.drew = w39 at BK101 BK105 HB hx106_0 hx106_1 hHeld ⊢
              refine pu_ 0 23 [1, 16] ?_
              refine ta4_ 1 24 [2, 15] ?_
              refine pu_ 2 25 [3, 14] ?_
              refine pu_ 3 26 [4, 13] ?_
              refine pu_ 4 27 [5, 12] ?_
              refine pu_ 5 28 [6, 11] ?_
              refine pu_ 6 29 [7, 10] ?_
              refine pu_ 7 30 [8, 9] ?_
              refine pu_ 8 31 [9, 8] ?_
              refine pu_ 9 32 [10, 7] ?_
              refine pu_ 10 33 [11, 6] ?_
              refine ta4_ 11 34 [12, 5] ?_
              refine ta4_ 12 35 [13, 4] ?_
              refine one_ (i := 13) (N := some 36) (rA_ [14, 3]) rfl rfl (one_of HT_.out (by kernel_rfl)) (by decide) (fun K hK => ?_)
              refine goes_ Tryz.func52 (by kernel_rfl) rfl #[.agg #[.int .i64 ((rd_Rule l1 (ji24)).f0), .int .i64 ((rd_Rule l1 (ji24)).f1)], .agg #[.int .i64 ((rd_Rule l1 x18_2).f0), .int .i64 ((rd_Rule l1 x18_2).f1)]] (by rfl) rfl rfl (by (try simp only [List.map_toArray, List.map_cons, List.map_nil]); first | done | (simp only [hji24]; rfl) | rfl | (simp only [List.length_drop, List.length_take]; rfl)) ?_
              with_reducible refine (impl_compareRules.calls k2 ((rd_Rule l1 (ji24)).f0) ((rd_Rule l1 (ji24)).f1) ((rd_Rule l1 x18_2).f0) ((rd_Rule l1 x18_2).f1) t107 _ A27.out).mono ?_
              rintro e w40 ⟨rfl, hb⟩
              refine ⟨_, rfl, ?_⟩
              replace BK101 := BK101.mw hb
              replace BK105 := BK105.mw hb
              replace HB := Aside0.mk (below_step k66_ hb)
              (try clear hb)
              (try clear hb2)
              (try clear hk)
              (try clear hi)
              refine hK.out _ _ ⟨(blk_cell BK105.out 0).trans rfl, (blk_cell BK105.out 1).trans rfl, ((HB.out.cell (World.block_lt_of_cell? w _ hw106_0)).trans hw106_0), ((HB.out.cell (World.block_lt_of_cell? w _ hw106_1)).trans hw106_1)⟩ (fun hHeld => ?_)
              clear hK K
              refine nm_ 36 ?_
              refine pu_ 14 37 [15, 2] ?_
              refine pu_ 15 38 [16, 1] ?_
              refine pu_ 16 39 [17] ?_
              refine done_ (done_of HT_.out (by kernel_rfl)) ?_
              try go_wp2
              go_roundg k2
              case measure => have := HJ2.out; have := HK2.out; omega
              case rel => exact ⟨(wrap64 (x18_2 + 1)), k92_, H', ⟨by have := HJ2.out; have := HK2.out; omega⟩, ⟨k85_⟩, ⟨k66_⟩⟩
            ·rw [if_neg c26] at H
             exact absurd H (by simp)
           ·rw [if_neg c25] at H
            exact absurd H (by simp)
          ·rw [if_neg c23] at H
           have c23b0 : decide (0 < x18_2) = false := decide_eq_false c23
           clear c23
           have H' := Aside0.mk H
           clear H
           have p104 : 0 ≤ (x18_2 : Int) := of_decide_eq_true k91_
           have q104 : x18_2 < (l1.length : Int) := of_decide_eq_true k91_
           obtain ⟨ad104, e104, hx104_0, hx104_1⟩ := at_Rule HR1.out x18_2 p104 q104
           cases e104
           replace hx104_0 := (HB.out.cell (World.block_lt_of_cell? w _ hx104_0)).trans hx104_0
           replace hx104_1 := (HB.out.cell (World.block_lt_of_cell? w _ hx104_1)).trans hx104_1
           replace p104 := eq_true p104
           replace q104 := eq_true q104
           try go_wp2_with (first | ((with_reducible refine gate_dst (N := 7) rfl ?_); refine box_event ?hg (N := 7) ?hd (cs := #[.int .i64 0, .int .i64 0]) (t := 33) ?hr ?_; (case hd => rfl); (case hg => rfl); (case hr => exact k94_); intro gb105 hg w41 hbox hb; have BK105 := Aside0.mk (hbox); have GW105 := Aside0.mk ((by rw [hg]; exact (below_size k71_) : w.heap.size ≤ gb105)); have GE105 := Aside0.mk ((by rw [hg]; exact (below_size k71_) : w.heap.size ≤ gb105)); replace HB := Aside0.mk (below_step k71_ hb); have NB101_105 := Aside0.mk (BK101.ne hg); have NB105_101 := Aside0.mk (BK101.ne hg).symm; replace BK101 := BK101.mw hb; clear hb hbox hg; have hnb42 := NB105_101.out; have hnc42 := NB101_105.out; have hcz43_0 : w41.cell? ⟨gb105, 0, none⟩ = some (.int .i64 0) := (blk_cell BK105.out 0).trans rfl; have hcz43_1 : w41.cell? ⟨gb105, 1, none⟩ = some (.int .i64 0) := (blk_cell BK105.out 1).trans rfl; have hfz43_0 := blk_frozen BK105.out 0; have hfz43_1 := blk_frozen BK105.out 1))
           have n0_ : Aside0 (((w41.setCell ⟨gb105, 0, none⟩ (.int .i64 ((rd_Rule l1 x18_2).f0))).setCell ⟨gb105, 1, none⟩ (.int .i64 ((rd_Rule l1 x18_2).f1))).heap[gb101]? = some (.cells #[.string a0_0, .int .i64 a0_1] 23 (0, 0))) := ⟨k20_⟩
           have n1_ : Aside0 (((w41.setCell ⟨gb105, 0, none⟩ (.int .i64 ((rd_Rule l1 x18_2).f0))).setCell ⟨gb105, 1, none⟩ (.int .i64 ((rd_Rule l1 x18_2).f1))).heap[gb105]? = some (.cells #[.int .i64 ((rd_Rule l1 x18_2).f0), .int .i64 ((rd_Rule l1 x18_2).f1)] 33 (0, 0))) := ⟨k10_⟩
           have n2_ : Aside0 (Below w.heap.size w ((w41.setCell ⟨gb105, 0, none⟩ (.int .i64 ((rd_Rule l1 x18_2).f0))).setCell ⟨gb105, 1, none⟩ (.int .i64 ((rd_Rule l1 x18_2).f1)))) := ⟨k66_⟩
           (try clear BK101)
           (try clear BK105)
           (try clear HB)
           generalize ((w41.setCell ⟨gb105, 0, none⟩ (.int .i64 ((rd_Rule l1 x18_2).f0))).setCell ⟨gb105, 1, none⟩ (.int .i64 ((rd_Rule l1 x18_2).f1))) = w44 at n0_ n1_ n2_ ⊢
           have BK101 := n0_
           have BK105 := n1_
           have HB := n2_
           clear n0_ n1_ n2_
           replace BK101 := Aside0.mk (blk_drew BK101.out)
           replace BK105 := Aside0.mk (blk_drew BK105.out)
           replace HB := Aside0.mk (below_drew1 HB.out)
           refine start_ (n := 17) (S := fun w' => w'.cell? ⟨gb105, 0, none⟩ = some (.int .i64 ((rd_Rule l1 x18_2).f0)) ∧ w'.cell? ⟨gb105, 1, none⟩ = some (.int .i64 ((rd_Rule l1 x18_2).f1))) (ds := []) (rA_ [0, 17]) (by kernel_rfl) rfl rfl ⟨(blk_cell BK105.out 0).trans rfl, (blk_cell BK105.out 1).trans rfl⟩ (fun hHeld => ?_); refine with_tabW impl_IsAnswer.tab6 impl_IsAnswer.bits6 (fun HT_ HW_ => ?_)
           generalize w44.drew = w45 at BK101 BK105 HB hHeld ⊢
           refine pu_ 0 23 [1, 16] ?_
           refine ta2_ 1 24 [2, 15] ?_
           refine pu_ 2 25 [3, 14] ?_
           refine pu_ 3 26 [4, 13] ?_
           refine pu_ 4 27 [5, 12] ?_
           refine pu_ 5 28 [6, 11] ?_
           refine pu_ 6 29 [7, 10] ?_
           refine pz_ 7 30 [8, 9] ?_
           refine pz_ 8 31 [9, 8] ?_
           refine pz_ 9 32 [10, 7] ?_
           refine pz_ 10 33 [11, 6] ?_
           refine pz_ 11 34 [12, 5] ?_
           refine pz_ 12 35 [13, 4] ?_
           refine pz_ 13 36 [14, 3] ?_
           refine pz_ 14 37 [15, 2] ?_
           refine pu_ 15 38 [16, 1] ?_
           refine pu_ 16 39 [17] ?_
           refine done_ (done_of HT_.out (by kernel_rfl)) ?_
           try go_wp2
           go_roundg k2
           case measure => have := HJ2.out; have := HK2.out; omega
           case rel => exact ⟨(wrap64 (x18_2 + 1)), k92_, H', ⟨by have := HJ2.out; have := HK2.out; omega⟩, ⟨k85_⟩, ⟨k66_⟩⟩
        ·rw [if_neg c16] at H
         exact absurd H (by simp)
       ·rw [if_neg c15] at H
        exact absurd H (by simp)
      ·rw [if_neg c14] at H
       have c14b0 : decide (x18_2 < (l1.length : Int)) = false := decide_eq_false c14
       clear c14
       by_cases c46 : (l1.length : Int) = a0_1
       ·rw [if_pos c46] at H
        have c46b0 : ((l1.length : Int) == a0_1) = true := beq_iff_eq.mpr c46
        have c46b1 : ((l1.length : Int) != a0_1) = false := bne_eq_false_iff_eq.mpr c46
        clear c46
        obtain ⟨t108, A47, H⟩ := obnd_ H
        (try dsimp only at H)
        simp only [Option.some.injEq, Prod.mk.injEq] at H
        obtain ⟨rfl, rfl⟩ := H
        have hcz48_0 : wr.cell? ⟨gb101, 0, none⟩ = some (.string a0_0) := (blk_cell BK101.out 0).trans rfl
        have hcz48_1 : wr.cell? ⟨gb101, 1, none⟩ = some (.int .i64 a0_1) := (blk_cell BK101.out 1).trans rfl
        have hfz48_0 := blk_frozen BK101.out 0
        have hfz48_1 := blk_frozen BK101.out 1
        go_wp2_with (first | (go_at_call 53; (with_reducible refine (impl_agrees.calls k2 a0_0 _ _ l1 t108 _ ?side1 ?side2 A47.out).mono ?_); (case side1 => exact k48_); (case side2 => exact HC1.out); rintro e w49 ⟨rfl, hb⟩; replace BK101 := BK101.mw hb; replace HB := Aside0.mk (below_step k71_ hb); (try clear hb)))
        go_ret2
        exact ⟨k70_, k71_⟩
       ·rw [if_neg c46] at H
        have c46b0 : ((l1.length : Int) == a0_1) = false := beq_eq_false_iff_ne.mpr c46
        have c46b1 : ((l1.length : Int) != a0_1) = true := bne_iff_ne.mpr c46
        simp only [Option.some.injEq, Prod.mk.injEq] at H
        obtain ⟨rfl, rfl⟩ := H
        have hcz50_0 : wr.cell? ⟨gb101, 0, none⟩ = some (.string a0_0) := (blk_cell BK101.out 0).trans rfl
        have hcz50_1 : wr.cell? ⟨gb101, 1, none⟩ = some (.int .i64 a0_1) := (blk_cell BK101.out 1).trans rfl
        have hfz50_0 := blk_frozen BK101.out 0
        have hfz50_1 := blk_frozen BK101.out 1
        go_wp2
        go_ret2
        exact ⟨k70_, k71_⟩
end Go.Proofs.YtbnmajedmajfoaaGreatDoor.P
namespace Go.Proofs.YtbnmajedmajfoaaGreatDoor.P
open Go.RowKit Go.Proofs.YtbnmajedmajfoaaGreatDoorW.PrintWords Go.Proofs.YtbnmajedmajfoaaGreatDoorW.PrintLast Go.Proofs.YtbnmajedmajfoaaGreatDoorW.PrintMore
attribute [local go_sem] max2_int min2_int max_two min_two max_three min_three max_four min_four
set_option linter.unusedVariables false
set_option linter.unusedSimpArgs false
def impl_patternOf.l0 : Nat → List (SRule) → Int → ByteArray → Int → Option (ByteArray)
 | 0, _, _, _, _ => none
 | k + 1, x0, x1, x5, x6 => if x6 ≤ x1 then ((impl_isLeft.f x0 x6).bind fun t101 => (if t101 = true then (if x5.size + 1 ≤ 9223372036854775807 then (impl_patternOf.l0 k x0 x1 (x5 ++ (⟨#[111]⟩ : ByteArray)) (wrap64 (x6 + 1))) else (none)) else (if x5.size + 1 ≤ 9223372036854775807 then (impl_patternOf.l0 k x0 x1 (x5 ++ (⟨#[120]⟩ : ByteArray)) (wrap64 (x6 + 1))) else (none)))) else (some x5)
def impl_patternOf.f (k : Nat) (l0 : List (SRule)) (a1 : Int) : Option (ByteArray) := impl_patternOf.l0 k l0 a1 (⟨#[]⟩ : ByteArray) 1
set_option maxHeartbeats 8000000 in
set_option maxRecDepth 100000 in
theorem impl_patternOf.calls (k : Nat) (A0 : Option Addr) (c0 : Nat) (l0 : List (SRule)) (a1 : Int) (r : ByteArray) (w : World) (hr0 : Kd.C kRule w A0 l0.length l0) (hc0 : l0.length ≤ c0) (h : impl_patternOf.f k l0 a1 = some r) :
  Calls Tryz.prog 54 #[.slice A0 l0.length c0, .int .i64 a1] w fun e w' => e = .returned (.string r) ∧ Below w.heap.size w w' := by
 have HR0 := Aside0.mk hr0
 have HC0 := Aside0.mk hc0
 clear hr0 hc0
 have HB := Aside0.mk (Below.refl w.heap.size w)
 have H : (impl_patternOf.l0 k l0 a1 (⟨#[]⟩ : ByteArray) 1) = some r := h
 clear h
 have H' := Aside0.mk H
 clear H
 go_enter Tryz.func54, Tryz.ntmps54
 go_wp2
 go_loopg [5, 6] k (fun kq v5 v6 w' => ∃ (x5_1 : ByteArray) (x6_1 : Int), v5 = .string x5_1 ∧ v6 = .int .i64 x6_1 ∧ Aside0 (impl_patternOf.l0 kq l0 a1 x5_1 x6_1 = some r) ∧ Aside0 (kq ≤ k) ∧ Aside0 (Below w.heap.size w w'))
 case atStart => exact ⟨((⟨#[]⟩ : ByteArray)), (1), k92_, k92_, H', ⟨Nat.le_refl _⟩, ⟨k74_⟩⟩
 case round =>
  clear H'
  obtain ⟨x5_1, x6_1, rfl, rfl, HA, HK1, HB⟩ := hrel
  cases gk with
  | zero => exact absurd HA.out (by simp [impl_patternOf.l0])
  | succ k1 =>
   have H := HA.out
   clear HA
   simp only [impl_patternOf.l0] at H
   by_cases c3 : x6_1 ≤ a1
   ·rw [if_pos c3] at H
    have c3b0 : decide (x6_1 ≤ a1) = true := decide_eq_true c3
    clear c3
    obtain ⟨t101, A4, H⟩ := obnd_ H
    (try dsimp only at H)
    by_cases c5 : t101 = true
    ·subst c5
     rw [if_pos rfl] at H
     by_cases c6 : x5_1.size + 1 ≤ 9223372036854775807
     ·rw [if_pos c6] at H
      have c6b0 := eq_true c6
      have c6b1 : decide (x5_1.size + 1 ≤ 9223372036854775807) = true := decide_eq_true c6
      try have c6b2 : (9223372036854775807 < x5_1.size + 1) = False := eq_false (Nat.not_lt.2 c6)
      have H' := Aside0.mk H
      clear H
      go_wp2_with (first | ((with_reducible refine gate_callee (f := 82) rfl ?_); refine goesL_ (some 14) rfl rfl Tryz.func82 (by kernel_rfl) rfl #[.slice A0 l0.length c0, .int .i64 x6_1] rfl k59_ ?_; (with_reducible refine (impl_isLeft.calls _ _ l0 x6_1 true _ ?side1 ?side2 A4.out).mono ?_); (case side1 => exact k47_); (case side2 => exact HC0.out); rintro e w7 ⟨rfl, hb⟩; refine ⟨_, rfl, ?_⟩; replace HB := HB.mw hb; (try clear hb)))
      go_roundg k1
      case measure => have := HK1.out; omega
      case rel => exact ⟨(x5_1 ++ (⟨#[111]⟩ : ByteArray)), (wrap64 (x6_1 + 1)), k92_, k92_, H', ⟨k96_⟩, ⟨k74_⟩⟩
     ·rw [if_neg c6] at H
      exact absurd H (by simp)
    ·replace c5 := Bool.eq_false_iff.mpr c5
     subst c5
     rw [if_neg (show ¬ (false = true) by decide)] at H
     by_cases c8 : x5_1.size + 1 ≤ 9223372036854775807
     ·rw [if_pos c8] at H
      have c8b0 := eq_true c8
      have c8b1 : decide (x5_1.size + 1 ≤ 9223372036854775807) = true := decide_eq_true c8
      try have c8b2 : (9223372036854775807 < x5_1.size + 1) = False := eq_false (Nat.not_lt.2 c8)
      have H' := Aside0.mk H
      clear H
      go_wp2_with (first | ((with_reducible refine gate_callee (f := 82) rfl ?_); refine goesL_ (some 14) rfl rfl Tryz.func82 (by kernel_rfl) rfl #[.slice A0 l0.length c0, .int .i64 x6_1] rfl k59_ ?_; (with_reducible refine (impl_isLeft.calls _ _ l0 x6_1 false _ ?side1 ?side2 A4.out).mono ?_); (case side1 => exact k47_); (case side2 => exact HC0.out); rintro e w9 ⟨rfl, hb⟩; refine ⟨_, rfl, ?_⟩; replace HB := HB.mw hb; (try clear hb)))
      go_roundg k1
      case measure => have := HK1.out; omega
      case rel => exact ⟨(x5_1 ++ (⟨#[120]⟩ : ByteArray)), (wrap64 (x6_1 + 1)), k92_, k92_, H', ⟨k96_⟩, ⟨k74_⟩⟩
     ·rw [if_neg c8] at H
      exact absurd H (by simp)
   ·rw [if_neg c3] at H
    have c3b0 : decide (x6_1 ≤ a1) = false := decide_eq_false c3
    clear c3
    obtain rfl := Option.some.inj H
    go_wp2
    go_ret
    exact ⟨k70_, k74_⟩
end Go.Proofs.YtbnmajedmajfoaaGreatDoor.P
namespace Go.Proofs.YtbnmajedmajfoaaGreatDoor.P
open Go.RowKit Go.Proofs.YtbnmajedmajfoaaGreatDoorW.PrintWords Go.Proofs.YtbnmajedmajfoaaGreatDoorW.PrintLast Go.Proofs.YtbnmajedmajfoaaGreatDoorW.PrintMore
attribute [local go_sem] max2_int min2_int max_two min_two max_three min_three max_four min_four
set_option linter.unusedVariables false
set_option linter.unusedSimpArgs false
def impl_PatternOf.f (k : Nat) (l0 : List (SRule)) (a1 : Int) : Option (ByteArray × Bool) := (impl_areRules.f l0).bind fun t101 => (if t101 = true then (if a1 < 1 then (some ((⟨#[]⟩ : ByteArray), false)) else (if a1 > 48 then (some ((⟨#[]⟩ : ByteArray), false)) else ((impl_patternOf.f k l0 a1).bind fun t102 => (some (t102, true))))) else (some ((⟨#[]⟩ : ByteArray), false)))
set_option maxHeartbeats 8000000 in
set_option maxRecDepth 100000 in
theorem impl_PatternOf.calls (k : Nat) (A0 : Option Addr) (c0 : Nat) (l0 : List (SRule)) (a1 : Int) (r1 : ByteArray) (r2 : Bool) (w : World) (hr0 : Kd.C kRule w A0 l0.length l0) (hc0 : l0.length ≤ c0) (h : impl_PatternOf.f k l0 a1 = some (r1, r2)) :
  Calls Tryz.prog 24 #[.slice A0 l0.length c0, .int .i64 a1] w fun e w' => e = .returned (.tuple #[.string r1, .bool r2]) ∧ Below w.heap.size w w' := by
 have HR0 := Aside0.mk hr0
 have HC0 := Aside0.mk hc0
 clear hr0 hc0
 have HB := Aside0.mk (Below.refl w.heap.size w)
 have H : ((impl_areRules.f l0).bind fun t101 => (if t101 = true then (if a1 < 1 then (some ((⟨#[]⟩ : ByteArray), false)) else (if a1 > 48 then (some ((⟨#[]⟩ : ByteArray), false)) else ((impl_patternOf.f k l0 a1).bind fun t102 => (some (t102, true))))) else (some ((⟨#[]⟩ : ByteArray), false)))) = some (r1, r2) := h
 clear h
 obtain ⟨t101, A3, H⟩ := obnd_ H
 (try dsimp only at H)
 by_cases c4 : t101 = true
 ·subst c4
  rw [if_pos rfl] at H
  by_cases c5 : a1 < 1
  ·rw [if_pos c5] at H
   have c5b0 : decide (a1 < 1) = true := decide_eq_true c5
   clear c5
   simp only [Option.some.injEq, Prod.mk.injEq] at H
   obtain ⟨rfl, rfl⟩ := H
   go_enter Tryz.func24, Tryz.ntmps24
   go_wp2_with (first | ((with_reducible refine gate_callee (f := 51) rfl ?_); refine goesL_ (some 7) rfl rfl Tryz.func51 (by kernel_rfl) rfl #[.slice A0 l0.length c0] rfl k59_ ?_; (with_reducible refine (impl_areRules.calls _ _ l0 true _ ?side1 ?side2 A3.out).mono ?_); (case side1 => exact k55_); (case side2 => exact HC0.out); rintro e w6 ⟨rfl, hb⟩; refine ⟨_, rfl, ?_⟩; replace HB := HB.mw hb; (try clear hb)))
   go_ret2
   exact ⟨k70_, k74_⟩
  ·rw [if_neg c5] at H
   have c5b0 : decide (a1 < 1) = false := decide_eq_false c5
   clear c5
   by_cases c7 : a1 > 48
   ·rw [if_pos c7] at H
    have c7b0 : decide (48 < a1) = true := decide_eq_true c7
    clear c7
    simp only [Option.some.injEq, Prod.mk.injEq] at H
    obtain ⟨rfl, rfl⟩ := H
    go_enter Tryz.func24, Tryz.ntmps24
    go_wp2_with (first | ((with_reducible refine gate_callee (f := 51) rfl ?_); refine goesL_ (some 7) rfl rfl Tryz.func51 (by kernel_rfl) rfl #[.slice A0 l0.length c0] rfl k59_ ?_; (with_reducible refine (impl_areRules.calls _ _ l0 true _ ?side1 ?side2 A3.out).mono ?_); (case side1 => exact k55_); (case side2 => exact HC0.out); rintro e w8 ⟨rfl, hb⟩; refine ⟨_, rfl, ?_⟩; replace HB := HB.mw hb; (try clear hb)))
    go_ret2
    exact ⟨k70_, k74_⟩
   ·rw [if_neg c7] at H
    have c7b0 : decide (48 < a1) = false := decide_eq_false c7
    clear c7
    obtain ⟨t102, A9, H⟩ := obnd_ H
    (try dsimp only at H)
    simp only [Option.some.injEq, Prod.mk.injEq] at H
    obtain ⟨rfl, rfl⟩ := H
    go_enter Tryz.func24, Tryz.ntmps24
    go_wp2_with (first | ((with_reducible refine gate_callee (f := 51) rfl ?_); refine goesL_ (some 7) rfl rfl Tryz.func51 (by kernel_rfl) rfl #[.slice A0 l0.length c0] rfl k59_ ?_; (with_reducible refine (impl_areRules.calls _ _ l0 true _ ?side1 ?side2 A3.out).mono ?_); (case side1 => exact k55_); (case side2 => exact HC0.out); rintro e w10 ⟨rfl, hb⟩; refine ⟨_, rfl, ?_⟩; replace HB := HB.mw hb; (try clear hb)) | ((with_reducible refine gate_callee (f := 54) rfl ?_); refine goesL_ (some 19) rfl rfl Tryz.func54 (by kernel_rfl) rfl #[.slice A0 l0.length c0, .int .i64 a1] rfl k59_ ?_; (with_reducible refine (impl_patternOf.calls k _ _ l0 a1 t102 _ ?side1 ?side2 A9.out).mono ?_); (case side1 => exact k47_); (case side2 => exact HC0.out); rintro e w11 ⟨rfl, hb⟩; refine ⟨_, rfl, ?_⟩; replace HB := HB.mw hb; (try clear hb)))
    go_ret2
    exact ⟨k70_, k74_⟩
 ·replace c4 := Bool.eq_false_iff.mpr c4
  subst c4
  rw [if_neg (show ¬ (false = true) by decide)] at H
  simp only [Option.some.injEq, Prod.mk.injEq] at H
  obtain ⟨rfl, rfl⟩ := H
  go_enter Tryz.func24, Tryz.ntmps24
  go_wp2_with (first | ((with_reducible refine gate_callee (f := 51) rfl ?_); refine goesL_ (some 7) rfl rfl Tryz.func51 (by kernel_rfl) rfl #[.slice A0 l0.length c0] rfl k59_ ?_; (with_reducible refine (impl_areRules.calls _ _ l0 false _ ?side1 ?side2 A3.out).mono ?_); (case side1 => exact k55_); (case side2 => exact HC0.out); rintro e w12 ⟨rfl, hb⟩; refine ⟨_, rfl, ?_⟩; replace HB := HB.mw hb; (try clear hb)))
  go_ret2
  exact ⟨k70_, k74_⟩
end Go.Proofs.YtbnmajedmajfoaaGreatDoor.P
namespace Go.Proofs.YtbnmajedmajfoaaGreatDoor.P
open Go.RowKit Go.Proofs.YtbnmajedmajfoaaGreatDoorW.PrintWords Go.Proofs.YtbnmajedmajfoaaGreatDoorW.PrintLast Go.Proofs.YtbnmajedmajfoaaGreatDoorW.PrintMore
attribute [local go_sem] max2_int min2_int max_two min_two max_three min_three max_four min_four
set_option linter.unusedVariables false
set_option linter.unusedSimpArgs false
def laws_gRuleBefore.f (a0_0 : Int) (a0_1 : Int) (a1_0 : Int) (a1_1 : Int) : Option (Bool) := if a0_0 < a1_0 then (some true) else (if a0_0 = a1_0 then (some (decide (a0_1 < a1_1))) else (some false))
set_option maxHeartbeats 8000000 in
set_option maxRecDepth 100000 in
theorem laws_gRuleBefore.calls (a0_0 : Int) (a0_1 : Int) (a1_0 : Int) (a1_1 : Int) (r : Bool) (w : World) (h : laws_gRuleBefore.f a0_0 a0_1 a1_0 a1_1 = some r) :
  Calls Tryz.prog 25 #[.agg #[.int .i64 a0_0, .int .i64 a0_1], .agg #[.int .i64 a1_0, .int .i64 a1_1]] w fun e w' => e = .returned (.bool r) ∧ Below w.heap.size w w' := by
 have hu33 := Tryz.underlying33
 have HB := Aside0.mk (Below.refl w.heap.size w)
 have H : (if a0_0 < a1_0 then (some true) else (if a0_0 = a1_0 then (some (decide (a0_1 < a1_1))) else (some false))) = some r := h
 clear h
 by_cases c3 : a0_0 < a1_0
 ·rw [if_pos c3] at H
  have c3b0 : decide (a0_0 < a1_0) = true := decide_eq_true c3
  clear c3
  obtain rfl := Option.some.inj H
  go_enter Tryz.func25, Tryz.ntmps25
  go_wp2_with (first | ((with_reducible refine gate_dst (N := 2) rfl ?_); refine box_event ?hg (N := 2) ?hd (cs := #[.int .i64 a0_0, .int .i64 a0_1]) (t := 33) ?hr ?_; (case hd => rfl); (case hg => rfl); (case hr => exact k94_); intro gb101 hg w4 hbox hb; have BK101 := Aside0.mk (hbox); have GW101 := Aside0.mk (HB.ge hg); have GE101 := Aside0.mk (HB.ge hg); replace HB := HB.mw hb; clear hb hbox hg) | ((with_reducible refine gate_dst (N := 3) rfl ?_); refine box_event ?hg (N := 3) ?hd (cs := #[.int .i64 a1_0, .int .i64 a1_1]) (t := 33) ?hr ?_; (case hd => rfl); (case hg => rfl); (case hr => exact k94_); intro gb102 hg w5 hbox hb; have BK102 := Aside0.mk (hbox); have GW102 := Aside0.mk ((by rw [hg]; exact (below_size k71_) : w.heap.size ≤ gb102)); have GE102 := Aside0.mk ((by rw [hg]; exact (below_size k71_) : w.heap.size ≤ gb102)); replace HB := Aside0.mk (below_step k71_ hb); have NB101_102 := Aside0.mk (BK101.ne hg); have NB102_101 := Aside0.mk (BK101.ne hg).symm; replace BK101 := BK101.mw hb; clear hb hbox hg; have hnb6 := NB101_102.out; have hnc6 := NB102_101.out; have hcz7_0 : w5.cell? ⟨gb101, 0, none⟩ = some (.int .i64 a0_0) := (blk_cell BK101.out 0).trans rfl; have hcz7_1 : w5.cell? ⟨gb101, 1, none⟩ = some (.int .i64 a0_1) := (blk_cell BK101.out 1).trans rfl; have hfz7_0 := blk_frozen BK101.out 0; have hfz7_1 := blk_frozen BK101.out 1; have hcz8_0 : w5.cell? ⟨gb102, 0, none⟩ = some (.int .i64 a1_0) := (blk_cell BK102.out 0).trans rfl; have hcz8_1 : w5.cell? ⟨gb102, 1, none⟩ = some (.int .i64 a1_1) := (blk_cell BK102.out 1).trans rfl; have hfz8_0 := blk_frozen BK102.out 0; have hfz8_1 := blk_frozen BK102.out 1))
  go_ret
  exact ⟨k70_, k65_⟩
 ·rw [if_neg c3] at H
  have c3b0 : decide (a0_0 < a1_0) = false := decide_eq_false c3
  clear c3
  by_cases c9 : a0_0 = a1_0
  ·rw [if_pos c9] at H
   have c9b0 : (a0_0 == a1_0) = true := beq_iff_eq.mpr c9
   have c9b1 : (a0_0 != a1_0) = false := bne_eq_false_iff_eq.mpr c9
   clear c9
   obtain rfl := Option.some.inj H
   go_enter Tryz.func25, Tryz.ntmps25
   go_wp2_with (first | ((with_reducible refine gate_dst (N := 2) rfl ?_); refine box_event ?hg (N := 2) ?hd (cs := #[.int .i64 a0_0, .int .i64 a0_1]) (t := 33) ?hr ?_; (case hd => rfl); (case hg => rfl); (case hr => exact k94_); intro gb101 hg w10 hbox hb; have BK101 := Aside0.mk (hbox); have GW101 := Aside0.mk (HB.ge hg); have GE101 := Aside0.mk (HB.ge hg); replace HB := HB.mw hb; clear hb hbox hg) | ((with_reducible refine gate_dst (N := 3) rfl ?_); refine box_event ?hg (N := 3) ?hd (cs := #[.int .i64 a1_0, .int .i64 a1_1]) (t := 33) ?hr ?_; (case hd => rfl); (case hg => rfl); (case hr => exact k94_); intro gb102 hg w11 hbox hb; have BK102 := Aside0.mk (hbox); have GW102 := Aside0.mk ((by rw [hg]; exact (below_size k71_) : w.heap.size ≤ gb102)); have GE102 := Aside0.mk ((by rw [hg]; exact (below_size k71_) : w.heap.size ≤ gb102)); replace HB := Aside0.mk (below_step k71_ hb); have NB101_102 := Aside0.mk (BK101.ne hg); have NB102_101 := Aside0.mk (BK101.ne hg).symm; replace BK101 := BK101.mw hb; clear hb hbox hg; have hnb12 := NB101_102.out; have hnc12 := NB102_101.out; have hcz13_0 : w11.cell? ⟨gb101, 0, none⟩ = some (.int .i64 a0_0) := (blk_cell BK101.out 0).trans rfl; have hcz13_1 : w11.cell? ⟨gb101, 1, none⟩ = some (.int .i64 a0_1) := (blk_cell BK101.out 1).trans rfl; have hfz13_0 := blk_frozen BK101.out 0; have hfz13_1 := blk_frozen BK101.out 1; have hcz14_0 : w11.cell? ⟨gb102, 0, none⟩ = some (.int .i64 a1_0) := (blk_cell BK102.out 0).trans rfl; have hcz14_1 : w11.cell? ⟨gb102, 1, none⟩ = some (.int .i64 a1_1) := (blk_cell BK102.out 1).trans rfl; have hfz14_0 := blk_frozen BK102.out 0; have hfz14_1 := blk_frozen BK102.out 1))
   go_ret
   exact ⟨k70_, k65_⟩
  ·rw [if_neg c9] at H
   have c9b0 : (a0_0 == a1_0) = false := beq_eq_false_iff_ne.mpr c9
   have c9b1 : (a0_0 != a1_0) = true := bne_iff_ne.mpr c9
   obtain rfl := Option.some.inj H
   go_enter Tryz.func25, Tryz.ntmps25
   go_wp2_with (first | ((with_reducible refine gate_dst (N := 2) rfl ?_); refine box_event ?hg (N := 2) ?hd (cs := #[.int .i64 a0_0, .int .i64 a0_1]) (t := 33) ?hr ?_; (case hd => rfl); (case hg => rfl); (case hr => exact k94_); intro gb101 hg w15 hbox hb; have BK101 := Aside0.mk (hbox); have GW101 := Aside0.mk (HB.ge hg); have GE101 := Aside0.mk (HB.ge hg); replace HB := HB.mw hb; clear hb hbox hg) | ((with_reducible refine gate_dst (N := 3) rfl ?_); refine box_event ?hg (N := 3) ?hd (cs := #[.int .i64 a1_0, .int .i64 a1_1]) (t := 33) ?hr ?_; (case hd => rfl); (case hg => rfl); (case hr => exact k94_); intro gb102 hg w16 hbox hb; have BK102 := Aside0.mk (hbox); have GW102 := Aside0.mk ((by rw [hg]; exact (below_size k71_) : w.heap.size ≤ gb102)); have GE102 := Aside0.mk ((by rw [hg]; exact (below_size k71_) : w.heap.size ≤ gb102)); replace HB := Aside0.mk (below_step k71_ hb); have NB101_102 := Aside0.mk (BK101.ne hg); have NB102_101 := Aside0.mk (BK101.ne hg).symm; replace BK101 := BK101.mw hb; clear hb hbox hg; have hnb17 := NB101_102.out; have hnc17 := NB102_101.out; have hcz18_0 : w16.cell? ⟨gb101, 0, none⟩ = some (.int .i64 a0_0) := (blk_cell BK101.out 0).trans rfl; have hcz18_1 : w16.cell? ⟨gb101, 1, none⟩ = some (.int .i64 a0_1) := (blk_cell BK101.out 1).trans rfl; have hfz18_0 := blk_frozen BK101.out 0; have hfz18_1 := blk_frozen BK101.out 1; have hcz19_0 : w16.cell? ⟨gb102, 0, none⟩ = some (.int .i64 a1_0) := (blk_cell BK102.out 0).trans rfl; have hcz19_1 : w16.cell? ⟨gb102, 1, none⟩ = some (.int .i64 a1_1) := (blk_cell BK102.out 1).trans rfl; have hfz19_0 := blk_frozen BK102.out 0; have hfz19_1 := blk_frozen BK102.out 1))
   go_ret
   exact ⟨k70_, k65_⟩
end Go.Proofs.YtbnmajedmajfoaaGreatDoor.P
namespace Go.Proofs.YtbnmajedmajfoaaGreatDoor.P
open Go.RowKit Go.Proofs.YtbnmajedmajfoaaGreatDoorW.PrintWords Go.Proofs.YtbnmajedmajfoaaGreatDoorW.PrintLast Go.Proofs.YtbnmajedmajfoaaGreatDoorW.PrintMore
attribute [local go_sem] max2_int min2_int max_two min_two max_three min_three max_four min_four
set_option linter.unusedVariables false
set_option linter.unusedSimpArgs false
attribute [local go_sem high] eqA33
def laws_gIn.l0 : Nat → List (SRule) → Int → Int → Int → Int → Option (Bool)
 | 0, _, _, _, _, _ => none
 | k + 1, x7, x8, x9, x102000, x102001 => if x9 < x8 then (if 0 ≤ x9 then (if x9 < (x7.length : Int) then (if (((rd_Rule x7 x9).f0) == x102000 && (((rd_Rule x7 x9).f1) == x102001)) = true then (some true) else (laws_gIn.l0 k x7 x8 (wrap64 (x9 + 1)) x102000 x102001)) else (none)) else (none)) else (some false)
def laws_gIn.f (k : Nat) (l0 : List (SRule)) (a1_0 : Int) (a1_1 : Int) : Option (Bool) := laws_gIn.l0 k l0 (l0.length : Int) 0 a1_0 a1_1
set_option maxHeartbeats 8000000 in
set_option maxRecDepth 100000 in
theorem laws_gIn.calls (k : Nat) (A0 : Option Addr) (c0 : Nat) (l0 : List (SRule)) (a1_0 : Int) (a1_1 : Int) (r : Bool) (w : World) (hr0 : Kd.C kRule w A0 l0.length l0) (hc0 : l0.length ≤ c0) (h : laws_gIn.f k l0 a1_0 a1_1 = some r) :
  Calls Tryz.prog 26 #[.slice A0 l0.length c0, .agg #[.int .i64 a1_0, .int .i64 a1_1]] w fun e w' => e = .returned (.bool r) ∧ Below w.heap.size w w' := by
 have hu33 := Tryz.underlying33
 have HR0 := Aside0.mk hr0
 have HC0 := Aside0.mk hc0
 clear hr0 hc0
 have HB := Aside0.mk (Below.refl w.heap.size w)
 have H : (laws_gIn.l0 k l0 (l0.length : Int) 0 a1_0 a1_1) = some r := h
 clear h
 have H' := Aside0.mk H
 clear H
 go_enter Tryz.func26, Tryz.ntmps26
 go_wp2_with (first | ((with_reducible refine gate_dst (N := 3) rfl ?_); refine box_event ?hg (N := 3) ?hd (cs := #[.int .i64 a1_0, .int .i64 a1_1]) (t := 33) ?hr ?_; (case hd => rfl); (case hg => rfl); (case hr => exact k94_); intro gb101 hg w3 hbox hb; have BK101 := Aside0.mk (hbox); have GW101 := Aside0.mk (HB.ge hg); have GE101 := Aside0.mk (HB.ge hg); replace HB := HB.mw hb; clear hb hbox hg))
 go_loopg [9] k (fun kq v9 w' => ∃ (x9_1 : Int), v9 = .int .i64 x9_1 ∧ Aside0 (laws_gIn.l0 kq l0 (l0.length : Int) x9_1 a1_0 a1_1 = some r) ∧ Aside0 (kq ≤ k) ∧ Aside0 (w'.heap[gb101]? = some (.cells #[.int .i64 a1_0, .int .i64 a1_1] 33 (0, 0))) ∧ Aside0 (Below w.heap.size w w'))
 case atStart => exact ⟨(0), k92_, H', ⟨Nat.le_refl _⟩, ⟨k85_⟩, ⟨k71_⟩⟩
 case round =>
  clear H'
  obtain ⟨x9_1, rfl, HA, HK1, BK101, HB⟩ := hrel
  cases gk with
  | zero => exact absurd HA.out (by simp [laws_gIn.l0])
  | succ k1 =>
   have H := HA.out
   clear HA
   simp only [laws_gIn.l0] at H
   by_cases c4 : x9_1 < (l0.length : Int)
   ·rw [if_pos c4] at H
    have c4b0 : decide (x9_1 < (l0.length : Int)) = true := decide_eq_true c4
    clear c4
    by_cases c5 : 0 ≤ x9_1
    ·rw [if_pos c5] at H
     have c5b0 : decide (0 ≤ x9_1) = true := decide_eq_true c5
     clear c5
     by_cases c6 : x9_1 < (l0.length : Int)
     ·rw [if_pos c6] at H
      have c6b0 : decide (x9_1 < (l0.length : Int)) = true := decide_eq_true c6
      clear c6
      by_cases c7 : (((rd_Rule l0 x9_1).f0) == a1_0 && (((rd_Rule l0 x9_1).f1) == a1_1)) = true
      ·rw [if_pos c7] at H
       have c7b0 : (((rd_Rule l0 x9_1).f0) == a1_0 && (((rd_Rule l0 x9_1).f1) == a1_1)) = true := c7
       (try (have c7b1 : decide (((rd_Rule l0 x9_1).f0) = a1_0 && (((rd_Rule l0 x9_1).f1) == a1_1)) = true := by simpa using c7))
       (try (have c7b2 : (((rd_Rule l0 x9_1).f0) == a1_0 && (((rd_Rule l0 x9_1).f1) == a1_1)) = true := by simpa using c7))
       clear c7
       obtain rfl := Option.some.inj H
       have p102 : 0 ≤ (x9_1 : Int) := of_decide_eq_true k91_
       have q102 : x9_1 < (l0.length : Int) := of_decide_eq_true k91_
       obtain ⟨ad102, e102, hx102_0, hx102_1⟩ := at_Rule HR0.out x9_1 p102 q102
       cases e102
       replace hx102_0 := (HB.out.cell (World.block_lt_of_cell? w _ hx102_0)).trans hx102_0
       replace hx102_1 := (HB.out.cell (World.block_lt_of_cell? w _ hx102_1)).trans hx102_1
       replace p102 := eq_true p102
       replace q102 := eq_true q102
       go_wp2_with (first | ((with_reducible refine gate_dst (N := 6) rfl ?_); refine box_event ?hg (N := 6) ?hd (cs := #[.int .i64 0, .int .i64 0]) (t := 33) ?hr ?_; (case hd => rfl); (case hg => rfl); (case hr => exact k94_); intro gb103 hg w8 hbox hb; have BK103 := Aside0.mk (hbox); have GW103 := Aside0.mk ((by rw [hg]; exact (below_size k71_) : w.heap.size ≤ gb103)); have GE103 := Aside0.mk ((by rw [hg]; exact (below_size k71_) : w.heap.size ≤ gb103)); replace HB := Aside0.mk (below_step k71_ hb); have NB101_103 := Aside0.mk (BK101.ne hg); have NB103_101 := Aside0.mk (BK101.ne hg).symm; replace BK101 := BK101.mw hb; clear hb hbox hg; have hnb9 := NB103_101.out; have hnc9 := NB101_103.out; have hcz10_0 : w8.cell? ⟨gb103, 0, none⟩ = some (.int .i64 0) := (blk_cell BK103.out 0).trans rfl; have hcz10_1 : w8.cell? ⟨gb103, 1, none⟩ = some (.int .i64 0) := (blk_cell BK103.out 1).trans rfl; have hfz10_0 := blk_frozen BK103.out 0; have hfz10_1 := blk_frozen BK103.out 1; have hcz11_0 : w8.cell? ⟨gb101, 0, none⟩ = some (.int .i64 a1_0) := (blk_cell BK101.out 0).trans rfl; have hcz11_1 : w8.cell? ⟨gb101, 1, none⟩ = some (.int .i64 a1_1) := (blk_cell BK101.out 1).trans rfl; have hfz11_0 := blk_frozen BK101.out 0; have hfz11_1 := blk_frozen BK101.out 1))
       go_ret
       exact ⟨k70_, by apply_rules only [HB.out, below_alloc, pw_below_drewN, below_drew1, below_set, GE101.out, GE103.out]⟩
      ·rw [if_neg c7] at H
       have c7b0 : (((rd_Rule l0 x9_1).f0) == a1_0 && (((rd_Rule l0 x9_1).f1) == a1_1)) = false := by simpa using c7
       (try (have c7b1 : decide (((rd_Rule l0 x9_1).f0) = a1_0 && (((rd_Rule l0 x9_1).f1) == a1_1)) = false := by simpa using c7))
       (try (have c7b2 : (((rd_Rule l0 x9_1).f0) == a1_0 && (((rd_Rule l0 x9_1).f1) == a1_1)) = false := by simpa using c7))
       (try (have c7b3 : ¬ (((rd_Rule l0 x9_1).f0) = a1_0 && (((rd_Rule l0 x9_1).f1) == a1_1)) := by simpa using c7))
       clear c7
       have H' := Aside0.mk H
       clear H
       have p102 : 0 ≤ (x9_1 : Int) := of_decide_eq_true k91_
       have q102 : x9_1 < (l0.length : Int) := of_decide_eq_true k91_
       obtain ⟨ad102, e102, hx102_0, hx102_1⟩ := at_Rule HR0.out x9_1 p102 q102
       cases e102
       replace hx102_0 := (HB.out.cell (World.block_lt_of_cell? w _ hx102_0)).trans hx102_0
       replace hx102_1 := (HB.out.cell (World.block_lt_of_cell? w _ hx102_1)).trans hx102_1
       replace p102 := eq_true p102
       replace q102 := eq_true q102
       go_wp2_with (first | ((with_reducible refine gate_dst (N := 6) rfl ?_); refine box_event ?hg (N := 6) ?hd (cs := #[.int .i64 0, .int .i64 0]) (t := 33) ?hr ?_; (case hd => rfl); (case hg => rfl); (case hr => exact k94_); intro gb103 hg w12 hbox hb; have BK103 := Aside0.mk (hbox); have GW103 := Aside0.mk ((by rw [hg]; exact (below_size k71_) : w.heap.size ≤ gb103)); have GE103 := Aside0.mk ((by rw [hg]; exact (below_size k71_) : w.heap.size ≤ gb103)); replace HB := Aside0.mk (below_step k71_ hb); have NB101_103 := Aside0.mk (BK101.ne hg); have NB103_101 := Aside0.mk (BK101.ne hg).symm; replace BK101 := BK101.mw hb; clear hb hbox hg; have hnb13 := NB103_101.out; have hnc13 := NB101_103.out; have hcz14_0 : w12.cell? ⟨gb103, 0, none⟩ = some (.int .i64 0) := (blk_cell BK103.out 0).trans rfl; have hcz14_1 : w12.cell? ⟨gb103, 1, none⟩ = some (.int .i64 0) := (blk_cell BK103.out 1).trans rfl; have hfz14_0 := blk_frozen BK103.out 0; have hfz14_1 := blk_frozen BK103.out 1; have hcz15_0 : w12.cell? ⟨gb101, 0, none⟩ = some (.int .i64 a1_0) := (blk_cell BK101.out 0).trans rfl; have hcz15_1 : w12.cell? ⟨gb101, 1, none⟩ = some (.int .i64 a1_1) := (blk_cell BK101.out 1).trans rfl; have hfz15_0 := blk_frozen BK101.out 0; have hfz15_1 := blk_frozen BK101.out 1))
       go_roundg k1
       case measure => have := HK1.out; omega
       case rel => exact ⟨(wrap64 (x9_1 + 1)), k92_, H', ⟨k96_⟩, ⟨k19_⟩, ⟨by apply_rules only [HB.out, below_alloc, pw_below_drewN, below_drew1, below_set, GE101.out, GE103.out]⟩⟩
     ·rw [if_neg c6] at H
      exact absurd H (by simp)
    ·rw [if_neg c5] at H
     exact absurd H (by simp)
   ·rw [if_neg c4] at H
    have c4b0 : decide (x9_1 < (l0.length : Int)) = false := decide_eq_false c4
    clear c4
    obtain rfl := Option.some.inj H
    go_wp2
    go_ret
    exact ⟨k70_, k71_⟩
end Go.Proofs.YtbnmajedmajfoaaGreatDoor.P
namespace Go.Proofs.YtbnmajedmajfoaaGreatDoor.P
open Go.RowKit Go.Proofs.YtbnmajedmajfoaaGreatDoorW.PrintWords Go.Proofs.YtbnmajedmajfoaaGreatDoorW.PrintLast Go.Proofs.YtbnmajedmajfoaaGreatDoorW.PrintMore
attribute [local go_sem] max2_int min2_int max_two min_two max_three min_three max_four min_four
set_option linter.unusedVariables false
set_option linter.unusedSimpArgs false
def impl_FewestRules.l0 : Nat → ByteArray → Int → Option (Int × Bool)
 | 0, _, _ => none
 | k + 1, x0, x6 => if x6 < 4 then ((impl_isPuzzle.f x0 x6).bind fun t102 => (if t102 = true then ((impl_someAnswers.f k x0 x6 1).bind fun t103 => (if (t103.length : Int) > 0 then (some (x6, true)) else (impl_FewestRules.l0 k x0 (wrap64 (x6 + 1))))) else (impl_FewestRules.l0 k x0 (wrap64 (x6 + 1))))) else (some (0, false))
def impl_FewestRules.f (k : Nat) (a0 : ByteArray) : Option (Int × Bool) := impl_FewestRules.l0 k a0 0
set_option maxHeartbeats 8000000 in
set_option maxRecDepth 100000 in
theorem impl_FewestRules.calls (k : Nat) (a0 : ByteArray) (r1 : Int) (r2 : Bool) (w : World) (h : impl_FewestRules.f k a0 = some (r1, r2)) :
  Calls Tryz.prog 27 #[.string a0] w fun e w' => e = .returned (.tuple #[.int .i64 r1, .bool r2]) ∧ Below w.heap.size w w' := by
 have hu23 := Tryz.underlying23
 have HB := Aside0.mk (Below.refl w.heap.size w)
 have H : (impl_FewestRules.l0 k a0 0) = some (r1, r2) := h
 clear h
 have H' := Aside0.mk H
 clear H
 go_enter Tryz.func27, Tryz.ntmps27
 go_wp2
 go_loopg [6] k (fun kq v6 w' => ∃ (x6_1 : Int), v6 = .int .i64 x6_1 ∧ Aside0 (impl_FewestRules.l0 kq a0 x6_1 = some (r1, r2)) ∧ Aside0 (kq ≤ k) ∧ Aside0 (Below w.heap.size w w'))
 case atStart => exact ⟨(0), k92_, H', ⟨Nat.le_refl _⟩, ⟨k74_⟩⟩
 case round =>
  clear H'
  obtain ⟨x6_1, rfl, HA, HK1, HB⟩ := hrel
  cases gk with
  | zero => exact absurd HA.out (by simp [impl_FewestRules.l0])
  | succ k1 =>
   have H := HA.out
   clear HA
   simp only [impl_FewestRules.l0] at H
   by_cases c2 : x6_1 < 4
   ·rw [if_pos c2] at H
    have c2b0 : decide (x6_1 < 4) = true := decide_eq_true c2
    clear c2
    obtain ⟨t102, A3, H⟩ := obnd_ H
    (try dsimp only at H)
    by_cases c4 : t102 = true
    ·subst c4
     rw [if_pos rfl] at H
     obtain ⟨t103, A5, H⟩ := obnd_ H
     (try dsimp only at H)
     by_cases c6 : (t103.length : Int) > 0
     ·rw [if_pos c6] at H
      have c6b0 : decide (0 < (t103.length : Int)) = true := decide_eq_true c6
      have c6b1 : decide (0 < t103.length) = true := decide_eq_true (by omega)
      clear c6
      simp only [Option.some.injEq, Prod.mk.injEq] at H
      obtain ⟨rfl, rfl⟩ := H
      go_wp2_with (first | ((with_reducible refine gate_dst (N := 5) rfl ?_); (try (refine gate_guard (by rfl) ?_; dsimp only)); refine box_event ?hg (N := 5) ?hd (cs := #[.string (⟨#[]⟩ : ByteArray), .int .i64 0]) (t := 23) ?hr ?_; (case hd => rfl); (case hg => rfl); (case hr => exact k94_); intro gb101 hg w7 hbox hb; have BK101 := Aside0.mk (hbox); have GW101 := Aside0.mk (HB.ge hg); have GE101 := Aside0.mk (HB.ge hg); replace HB := HB.mw hb; clear hb hbox hg; have hcz8_0 : w7.cell? ⟨gb101, 0, none⟩ = some (.string (⟨#[]⟩ : ByteArray)) := (blk_cell BK101.out 0).trans rfl; have hcz8_1 : w7.cell? ⟨gb101, 1, none⟩ = some (.int .i64 0) := (blk_cell BK101.out 1).trans rfl; have hfz8_0 := blk_frozen BK101.out 0; have hfz8_1 := blk_frozen BK101.out 1) | ((with_reducible refine gate_callee (f := 43) rfl ?_); refine goesL_ (some 13) rfl rfl Tryz.func43 (by kernel_rfl) rfl #[.agg #[.string a0, .int .i64 x6_1]] rfl k59_ ?_; (with_reducible refine (impl_isPuzzle.calls a0 x6_1 true _ A3.out).mono ?_); rintro e w9 ⟨rfl, hb⟩; refine ⟨_, rfl, ?_⟩; replace BK101 := Aside0.mk (blk_below (g := gb101) (o := .cells #[.string a0, .int .i64 x6_1] 23 (0, 0)) k15_ hb); replace HB := Aside0.mk (below_step k71_ hb); (try clear hb); have hcz10_0 : w9.cell? ⟨gb101, 0, none⟩ = some (.string a0) := (blk_cell BK101.out 0).trans rfl; have hcz10_1 : w9.cell? ⟨gb101, 1, none⟩ = some (.int .i64 x6_1) := (blk_cell BK101.out 1).trans rfl; have hfz10_0 := blk_frozen BK101.out 0; have hfz10_1 := blk_frozen BK101.out 1) | (go_at_call 55; (with_reducible refine (impl_someAnswers.calls k1 a0 x6_1 1 t103 _ A5.out).mono ?_); rintro e w11 ⟨v104, rfl, ho0, hb⟩; have HO105 := Aside0.mk (Kd.S_lower ho0 (below_size k71_)); replace BK101 := BK101.mw hb; replace HB := Aside0.mk (below_step k71_ hb); (try clear hb ho0); obtain ⟨Ao12, co12, eo12⟩ := Kd.S_slice HO105.out; subst eo12))
      go_ret2
      exact ⟨k70_, k71_⟩
     ·rw [if_neg c6] at H
      have c6b0 : decide (0 < (t103.length : Int)) = false := decide_eq_false c6
      have c6b1 : decide (0 < t103.length) = false := decide_eq_false (by omega)
      clear c6
      have H' := Aside0.mk H
      clear H
      go_wp2_with (first | ((with_reducible refine gate_dst (N := 5) rfl ?_); (try (refine gate_guard (by rfl) ?_; dsimp only)); refine box_event ?hg (N := 5) ?hd (cs := #[.string (⟨#[]⟩ : ByteArray), .int .i64 0]) (t := 23) ?hr ?_; (case hd => rfl); (case hg => rfl); (case hr => exact k94_); intro gb101 hg w13 hbox hb; have BK101 := Aside0.mk (hbox); have GW101 := Aside0.mk (HB.ge hg); have GE101 := Aside0.mk (HB.ge hg); replace HB := HB.mw hb; clear hb hbox hg; have hcz14_0 : w13.cell? ⟨gb101, 0, none⟩ = some (.string (⟨#[]⟩ : ByteArray)) := (blk_cell BK101.out 0).trans rfl; have hcz14_1 : w13.cell? ⟨gb101, 1, none⟩ = some (.int .i64 0) := (blk_cell BK101.out 1).trans rfl; have hfz14_0 := blk_frozen BK101.out 0; have hfz14_1 := blk_frozen BK101.out 1) | ((with_reducible refine gate_callee (f := 43) rfl ?_); refine goesL_ (some 13) rfl rfl Tryz.func43 (by kernel_rfl) rfl #[.agg #[.string a0, .int .i64 x6_1]] rfl k59_ ?_; (with_reducible refine (impl_isPuzzle.calls a0 x6_1 true _ A3.out).mono ?_); rintro e w15 ⟨rfl, hb⟩; refine ⟨_, rfl, ?_⟩; replace BK101 := Aside0.mk (blk_below (g := gb101) (o := .cells #[.string a0, .int .i64 x6_1] 23 (0, 0)) k15_ hb); replace HB := Aside0.mk (below_step k71_ hb); (try clear hb); have hcz16_0 : w15.cell? ⟨gb101, 0, none⟩ = some (.string a0) := (blk_cell BK101.out 0).trans rfl; have hcz16_1 : w15.cell? ⟨gb101, 1, none⟩ = some (.int .i64 x6_1) := (blk_cell BK101.out 1).trans rfl; have hfz16_0 := blk_frozen BK101.out 0; have hfz16_1 := blk_frozen BK101.out 1) | (go_at_call 55; (with_reducible refine (impl_someAnswers.calls k1 a0 x6_1 1 t103 _ A5.out).mono ?_); rintro e w17 ⟨v104, rfl, ho0, hb⟩; have HO105 := Aside0.mk (Kd.S_lower ho0 (below_size k71_)); replace BK101 := BK101.mw hb; replace HB := Aside0.mk (below_step k71_ hb); (try clear hb ho0); obtain ⟨Ao18, co18, eo18⟩ := Kd.S_slice HO105.out; subst eo18))
      go_roundg k1
      case measure => have := HK1.out; omega
      case rel => exact ⟨(wrap64 (x6_1 + 1)), k92_, H', ⟨k96_⟩, ⟨k71_⟩⟩
    ·replace c4 := Bool.eq_false_iff.mpr c4
     subst c4
     rw [if_neg (show ¬ (false = true) by decide)] at H
     have H' := Aside0.mk H
     clear H
     go_wp2_with (first | ((with_reducible refine gate_dst (N := 5) rfl ?_); (try (refine gate_guard (by rfl) ?_; dsimp only)); refine box_event ?hg (N := 5) ?hd (cs := #[.string (⟨#[]⟩ : ByteArray), .int .i64 0]) (t := 23) ?hr ?_; (case hd => rfl); (case hg => rfl); (case hr => exact k94_); intro gb101 hg w19 hbox hb; have BK101 := Aside0.mk (hbox); have GW101 := Aside0.mk (HB.ge hg); have GE101 := Aside0.mk (HB.ge hg); replace HB := HB.mw hb; clear hb hbox hg; have hcz20_0 : w19.cell? ⟨gb101, 0, none⟩ = some (.string (⟨#[]⟩ : ByteArray)) := (blk_cell BK101.out 0).trans rfl; have hcz20_1 : w19.cell? ⟨gb101, 1, none⟩ = some (.int .i64 0) := (blk_cell BK101.out 1).trans rfl; have hfz20_0 := blk_frozen BK101.out 0; have hfz20_1 := blk_frozen BK101.out 1) | ((with_reducible refine gate_callee (f := 43) rfl ?_); refine goesL_ (some 13) rfl rfl Tryz.func43 (by kernel_rfl) rfl #[.agg #[.string a0, .int .i64 x6_1]] rfl k59_ ?_; (with_reducible refine (impl_isPuzzle.calls a0 x6_1 false _ A3.out).mono ?_); rintro e w21 ⟨rfl, hb⟩; refine ⟨_, rfl, ?_⟩; replace BK101 := Aside0.mk (blk_below (g := gb101) (o := .cells #[.string a0, .int .i64 x6_1] 23 (0, 0)) k15_ hb); replace HB := Aside0.mk (below_step k71_ hb); (try clear hb)))
     go_roundg k1
     case measure => have := HK1.out; omega
     case rel => exact ⟨(wrap64 (x6_1 + 1)), k92_, H', ⟨k96_⟩, ⟨k71_⟩⟩
   ·rw [if_neg c2] at H
    have c2b0 : decide (x6_1 < 4) = false := decide_eq_false c2
    clear c2
    simp only [Option.some.injEq, Prod.mk.injEq] at H
    obtain ⟨rfl, rfl⟩ := H
    go_wp2
    go_ret2
    exact ⟨k70_, k74_⟩
end Go.Proofs.YtbnmajedmajfoaaGreatDoor.P
namespace Go.Proofs.YtbnmajedmajfoaaGreatDoor.P
open Go.RowKit Go.Proofs.YtbnmajedmajfoaaGreatDoorW.PrintWords Go.Proofs.YtbnmajedmajfoaaGreatDoorW.PrintLast Go.Proofs.YtbnmajedmajfoaaGreatDoorW.PrintMore
attribute [local go_sem] max2_int min2_int max_two min_two max_three min_three max_four min_four
set_option linter.unusedVariables false
set_option linter.unusedSimpArgs false
def impl_ParsePuzzle.f (a0 : ByteArray) : Option (ByteArray × Int × Bool) := (impl_parsePuzzle.f a0).bind fun bt102 => (some (bt102.1, bt102.2.1, bt102.2.2))
set_option maxHeartbeats 8000000 in
set_option maxRecDepth 100000 in
theorem impl_ParsePuzzle.calls (a0 : ByteArray) (r1 : ByteArray) (r2 : Int) (r3 : Bool) (w : World) (h : impl_ParsePuzzle.f a0 = some (r1, r2, r3)) (hG : GlobOk w) :
  Calls Tryz.prog 28 #[.string a0] w fun e w' => e = .returned (.tuple #[.agg #[.string r1, .int .i64 r2], .bool r3]) ∧ Below w.heap.size w w' := by
 have hu23 := Tryz.underlying23
 have HB := Aside0.mk (Below.refl w.heap.size w)
 have HG := Aside0.mk hG
 clear hG
 have H : ((impl_parsePuzzle.f a0).bind fun bt102 => (some (bt102.1, bt102.2.1, bt102.2.2))) = some (r1, r2, r3) := h
 clear h
 obtain ⟨⟨t102, t103, t104⟩, A2, H⟩ := obnd_ H
 (try dsimp only at H)
 simp only [Option.some.injEq, Prod.mk.injEq] at H
 obtain ⟨rfl, rfl, rfl⟩ := H
 go_enter Tryz.func28, Tryz.ntmps28
 go_wp2_with (first | ((with_reducible refine gate_dst (N := 2) rfl ?_); refine box_event ?hg (N := 2) ?hd (cs := #[.string (⟨#[]⟩ : ByteArray), .int .i64 0]) (t := 23) ?hr ?_; (case hd => rfl); (case hg => rfl); (case hr => exact k94_); intro gb101 hg w3 hbox hb; have BK101 := Aside0.mk (hbox); have GW101 := Aside0.mk (HB.ge hg); have GE101 := Aside0.mk (HB.ge hg); replace HB := HB.mw hb; clear hb hbox hg) | ((with_reducible refine gate_callee (f := 56) rfl ?_); refine goesL_ (some 5) rfl rfl Tryz.func56 (by kernel_rfl) rfl #[.string a0] rfl k59_ ?_; (refine (impl_parsePuzzle.calls a0 t102 t103 t104 _ A2.out (GlobOk.below HG.out k71_)).mono ?_); rintro e w4 ⟨rfl, hb⟩; refine ⟨_, rfl, ?_⟩; replace BK101 := Aside0.mk (blk_below k85_ hb); replace HB := Aside0.mk (below_step k71_ hb); (try clear hb); have hcz5_0 : w4.cell? ⟨gb101, 0, none⟩ = some (.string (⟨#[]⟩ : ByteArray)) := (blk_cell BK101.out 0).trans rfl; have hcz5_1 : w4.cell? ⟨gb101, 1, none⟩ = some (.int .i64 0) := (blk_cell BK101.out 1).trans rfl; have hfz5_0 := blk_frozen BK101.out 0; have hfz5_1 := blk_frozen BK101.out 1))
 refine bodyPost_ret (results_ct rfl _ _ gb101 23 #[.string t102, .int .i64 t103] (0, 0) _ rfl k13_ Tryz.underlying23 rfl (by kernel_rfl)) rfl ?_
 exact ⟨k70_, k71_⟩
end Go.Proofs.YtbnmajedmajfoaaGreatDoor.P
namespace Go.Proofs.YtbnmajedmajfoaaGreatDoor.P
open Go.RowKit Go.Proofs.YtbnmajedmajfoaaGreatDoorW.PrintWords Go.Proofs.YtbnmajedmajfoaaGreatDoorW.PrintLast Go.Proofs.YtbnmajedmajfoaaGreatDoorW.PrintMore
attribute [local go_sem] max2_int min2_int max_two min_two max_three min_three max_four min_four
set_option linter.unusedVariables false
set_option linter.unusedSimpArgs false
def spec_siRule.f (a0_0 : Int) (a0_1 : Int) : Option (Bool) := (spec_l1In.f a0_0 2 60).bind fun t102 => (if t102 = true then ((spec_l1In.f a0_1 0 (wrap64 (a0_0 - 1))).bind fun t103 => (some t103)) else (some false))
set_option maxHeartbeats 8000000 in
set_option maxRecDepth 100000 in
theorem spec_siRule.calls (a0_0 : Int) (a0_1 : Int) (r : Bool) (w : World) (h : spec_siRule.f a0_0 a0_1 = some r) :
  Calls Tryz.prog 86 #[.agg #[.int .i64 a0_0, .int .i64 a0_1]] w fun e w' => e = .returned (.bool r) ∧ Below w.heap.size w w' := by
 have hu33 := Tryz.underlying33
 have HB := Aside0.mk (Below.refl w.heap.size w)
 have H : ((spec_l1In.f a0_0 2 60).bind fun t102 => (if t102 = true then ((spec_l1In.f a0_1 0 (wrap64 (a0_0 - 1))).bind fun t103 => (some t103)) else (some false))) = some r := h
 clear h
 obtain ⟨t102, A2, H⟩ := obnd_ H
 (try dsimp only at H)
 by_cases c3 : t102 = true
 ·subst c3
  rw [if_pos rfl] at H
  obtain ⟨t103, A4, H⟩ := obnd_ H
  (try dsimp only at H)
  obtain rfl := Option.some.inj H
  go_enter Tryz.func86, Tryz.ntmps86
  go_wp2_with (first | ((with_reducible refine gate_dst (N := 1) rfl ?_); refine box_event ?hg (N := 1) ?hd (cs := #[.int .i64 a0_0, .int .i64 a0_1]) (t := 33) ?hr ?_; (case hd => rfl); (case hg => rfl); (case hr => exact k94_); intro gb101 hg w5 hbox hb; have BK101 := Aside0.mk (hbox); have GW101 := Aside0.mk (HB.ge hg); have GE101 := Aside0.mk (HB.ge hg); replace HB := HB.mw hb; clear hb hbox hg; have hcz6_0 : w5.cell? ⟨gb101, 0, none⟩ = some (.int .i64 a0_0) := (blk_cell BK101.out 0).trans rfl; have hcz6_1 : w5.cell? ⟨gb101, 1, none⟩ = some (.int .i64 a0_1) := (blk_cell BK101.out 1).trans rfl; have hfz6_0 := blk_frozen BK101.out 0; have hfz6_1 := blk_frozen BK101.out 1) | ((with_reducible refine gate_callee (f := 75) rfl ?_); refine goesL_ (some 5) rfl rfl Tryz.func75 (by kernel_rfl) rfl #[.int .i64 a0_0, .int .i64 2, .int .i64 60] rfl k59_ ?_; (with_reducible refine (spec_l1In.calls a0_0 2 60 true _ A2.out).mono ?_); rintro e w' ⟨rfl, ⟨nd, rfl⟩⟩; refine ⟨_, rfl, ?_⟩) | (go_at_call 75; (with_reducible refine (spec_l1In.calls a0_1 0 (wrap64 (a0_0 - 1)) t103 _ A4.out).mono ?_); rintro e w' ⟨rfl, ⟨nd, rfl⟩⟩))
  go_ret
  exact ⟨k70_, k71_⟩
 ·replace c3 := Bool.eq_false_iff.mpr c3
  subst c3
  rw [if_neg (show ¬ (false = true) by decide)] at H
  obtain rfl := Option.some.inj H
  go_enter Tryz.func86, Tryz.ntmps86
  go_wp2_with (first | ((with_reducible refine gate_dst (N := 1) rfl ?_); refine box_event ?hg (N := 1) ?hd (cs := #[.int .i64 a0_0, .int .i64 a0_1]) (t := 33) ?hr ?_; (case hd => rfl); (case hg => rfl); (case hr => exact k94_); intro gb101 hg w7 hbox hb; have BK101 := Aside0.mk (hbox); have GW101 := Aside0.mk (HB.ge hg); have GE101 := Aside0.mk (HB.ge hg); replace HB := HB.mw hb; clear hb hbox hg; have hcz8_0 : w7.cell? ⟨gb101, 0, none⟩ = some (.int .i64 a0_0) := (blk_cell BK101.out 0).trans rfl; have hcz8_1 : w7.cell? ⟨gb101, 1, none⟩ = some (.int .i64 a0_1) := (blk_cell BK101.out 1).trans rfl; have hfz8_0 := blk_frozen BK101.out 0; have hfz8_1 := blk_frozen BK101.out 1) | ((with_reducible refine gate_callee (f := 75) rfl ?_); refine goesL_ (some 5) rfl rfl Tryz.func75 (by kernel_rfl) rfl #[.int .i64 a0_0, .int .i64 2, .int .i64 60] rfl k59_ ?_; (with_reducible refine (spec_l1In.calls a0_0 2 60 false _ A2.out).mono ?_); rintro e w' ⟨rfl, ⟨nd, rfl⟩⟩; refine ⟨_, rfl, ?_⟩))
  go_ret
  exact ⟨k70_, k71_⟩
end Go.Proofs.YtbnmajedmajfoaaGreatDoor.P
namespace Go.Proofs.YtbnmajedmajfoaaGreatDoor.P
open Go.RowKit Go.Proofs.YtbnmajedmajfoaaGreatDoorW.PrintWords Go.Proofs.YtbnmajedmajfoaaGreatDoorW.PrintLast Go.Proofs.YtbnmajedmajfoaaGreatDoorW.PrintMore
attribute [local go_sem] max2_int min2_int max_two min_two max_three min_three max_four min_four
set_option linter.unusedVariables false
set_option linter.unusedSimpArgs false
def spec_siGood.l0 : Nat → List (SRule) → Int → Int → Option (Bool)
 | 0, _, _, _ => none
 | k + 1, x8, x9, x10 => if x10 < x9 then (if 0 ≤ x10 then (if x10 < (x8.length : Int) then ((spec_siRule.f ((rd_Rule x8 x10).f0) ((rd_Rule x8 x10).f1)).bind fun t103 => (if t103 = true then (spec_siGood.l0 k x8 x9 (wrap64 (x10 + 1))) else (some false))) else (none)) else (none)) else (some true)
def spec_siGood.f (k : Nat) (l0 : List (SRule)) : Option (Bool) := if (l0.length : Int) > 12 then (some false) else (spec_siGood.l0 k l0 (l0.length : Int) 0)
set_option maxHeartbeats 8000000 in
set_option maxRecDepth 100000 in
theorem spec_siGood.calls (k : Nat) (A0 : Option Addr) (c0 : Nat) (l0 : List (SRule)) (r : Bool) (w : World) (hr0 : Kd.C kRule w A0 l0.length l0) (hc0 : l0.length ≤ c0) (h : spec_siGood.f k l0 = some r) :
  Calls Tryz.prog 57 #[.slice A0 l0.length c0] w fun e w' => e = .returned (.bool r) ∧ Below w.heap.size w w' := by
 have hu33 := Tryz.underlying33
 have HR0 := Aside0.mk hr0
 have HC0 := Aside0.mk hc0
 clear hr0 hc0
 have HB := Aside0.mk (Below.refl w.heap.size w)
 have H : (if (l0.length : Int) > 12 then (some false) else (spec_siGood.l0 k l0 (l0.length : Int) 0)) = some r := h
 clear h
 by_cases c2 : (l0.length : Int) > 12
 ·rw [if_pos c2] at H
  have c2b0 : decide (12 < (l0.length : Int)) = true := decide_eq_true c2
  have c2b1 : decide (12 < l0.length) = true := decide_eq_true (by omega)
  clear c2
  obtain rfl := Option.some.inj H
  go_enter Tryz.func57, Tryz.ntmps57
  go_wp2
  go_ret
  exact ⟨k70_, k74_⟩
 ·rw [if_neg c2] at H
  have c2b0 : decide (12 < (l0.length : Int)) = false := decide_eq_false c2
  have c2b1 : decide (12 < l0.length) = false := decide_eq_false (by omega)
  clear c2
  have H' := Aside0.mk H
  clear H
  go_enter Tryz.func57, Tryz.ntmps57
  go_wp2
  go_loopg [10] k (fun kq v10 w' => ∃ (x10_1 : Int), v10 = .int .i64 x10_1 ∧ Aside0 (spec_siGood.l0 kq l0 (l0.length : Int) x10_1 = some r) ∧ Aside0 (kq ≤ k) ∧ Aside0 (Below w.heap.size w w'))
  case atStart => exact ⟨(0), k92_, H', ⟨Nat.le_refl _⟩, ⟨k74_⟩⟩
  case round =>
   clear H'
   (try clear c2); (try clear c2b0); (try clear c2b1)
   obtain ⟨x10_1, rfl, HA, HK1, HB⟩ := hrel
   cases gk with
   | zero => exact absurd HA.out (by simp [spec_siGood.l0])
   | succ k1 =>
    have H := HA.out
    clear HA
    simp only [spec_siGood.l0] at H
    by_cases c3 : x10_1 < (l0.length : Int)
    ·rw [if_pos c3] at H
     have c3b0 : decide (x10_1 < (l0.length : Int)) = true := decide_eq_true c3
     clear c3
     by_cases c4 : 0 ≤ x10_1
     ·rw [if_pos c4] at H
      have c4b0 : decide (0 ≤ x10_1) = true := decide_eq_true c4
      clear c4
      by_cases c5 : x10_1 < (l0.length : Int)
      ·rw [if_pos c5] at H
       have c5b0 : decide (x10_1 < (l0.length : Int)) = true := decide_eq_true c5
       clear c5
       obtain ⟨t103, A6, H⟩ := obnd_ H
       (try dsimp only at H)
       by_cases c7 : t103 = true
       ·subst c7
        rw [if_pos rfl] at H
        have H' := Aside0.mk H
        clear H
        have p101 : 0 ≤ (x10_1 : Int) := of_decide_eq_true k91_
        have q101 : x10_1 < (l0.length : Int) := of_decide_eq_true k91_
        obtain ⟨ad101, e101, hx101_0, hx101_1⟩ := at_Rule HR0.out x10_1 p101 q101
        cases e101
        replace hx101_0 := (HB.out.cell (World.block_lt_of_cell? w _ hx101_0)).trans hx101_0
        replace hx101_1 := (HB.out.cell (World.block_lt_of_cell? w _ hx101_1)).trans hx101_1
        replace p101 := eq_true p101
        replace q101 := eq_true q101
        go_wp2_with (first | ((with_reducible refine gate_dst (N := 4) rfl ?_); refine box_event ?hg (N := 4) ?hd (cs := #[.int .i64 0, .int .i64 0]) (t := 33) ?hr ?_; (case hd => rfl); (case hg => rfl); (case hr => exact k94_); intro gb102 hg w8 hbox hb; have BK102 := Aside0.mk (hbox); have GW102 := Aside0.mk (HB.ge hg); have GE102 := Aside0.mk (HB.ge hg); replace HB := HB.mw hb; clear hb hbox hg; have hcz9_0 : w8.cell? ⟨gb102, 0, none⟩ = some (.int .i64 0) := (blk_cell BK102.out 0).trans rfl; have hcz9_1 : w8.cell? ⟨gb102, 1, none⟩ = some (.int .i64 0) := (blk_cell BK102.out 1).trans rfl; have hfz9_0 := blk_frozen BK102.out 0; have hfz9_1 := blk_frozen BK102.out 1) | ((with_reducible refine gate_callee (f := 86) rfl ?_); refine goesL_ (some 15) rfl rfl Tryz.func86 (by kernel_rfl) rfl #[.agg #[.int .i64 ((rd_Rule l0 x10_1).f0), .int .i64 ((rd_Rule l0 x10_1).f1)]] rfl k59_ ?_; (with_reducible refine (spec_siRule.calls ((rd_Rule l0 x10_1).f0) ((rd_Rule l0 x10_1).f1) true _ A6.out).mono ?_); rintro e w10 ⟨rfl, hb⟩; refine ⟨_, rfl, ?_⟩; replace BK102 := Aside0.mk (blk_below (g := gb102) (o := .cells #[.int .i64 ((rd_Rule l0 x10_1).f0), .int .i64 ((rd_Rule l0 x10_1).f1)] 33 (0, 0)) k9_ hb); replace HB := Aside0.mk (below_step k72_ hb); (try clear hb)))
        go_roundg k1
        case measure => have := HK1.out; omega
        case rel => exact ⟨(wrap64 (x10_1 + 1)), k92_, H', ⟨k96_⟩, ⟨k72_⟩⟩
       ·replace c7 := Bool.eq_false_iff.mpr c7
        subst c7
        rw [if_neg (show ¬ (false = true) by decide)] at H
        obtain rfl := Option.some.inj H
        have p101 : 0 ≤ (x10_1 : Int) := of_decide_eq_true k91_
        have q101 : x10_1 < (l0.length : Int) := of_decide_eq_true k91_
        obtain ⟨ad101, e101, hx101_0, hx101_1⟩ := at_Rule HR0.out x10_1 p101 q101
        cases e101
        replace hx101_0 := (HB.out.cell (World.block_lt_of_cell? w _ hx101_0)).trans hx101_0
        replace hx101_1 := (HB.out.cell (World.block_lt_of_cell? w _ hx101_1)).trans hx101_1
        replace p101 := eq_true p101
        replace q101 := eq_true q101
        go_wp2_with (first | ((with_reducible refine gate_dst (N := 4) rfl ?_); refine box_event ?hg (N := 4) ?hd (cs := #[.int .i64 0, .int .i64 0]) (t := 33) ?hr ?_; (case hd => rfl); (case hg => rfl); (case hr => exact k94_); intro gb102 hg w11 hbox hb; have BK102 := Aside0.mk (hbox); have GW102 := Aside0.mk (HB.ge hg); have GE102 := Aside0.mk (HB.ge hg); replace HB := HB.mw hb; clear hb hbox hg; have hcz12_0 : w11.cell? ⟨gb102, 0, none⟩ = some (.int .i64 0) := (blk_cell BK102.out 0).trans rfl; have hcz12_1 : w11.cell? ⟨gb102, 1, none⟩ = some (.int .i64 0) := (blk_cell BK102.out 1).trans rfl; have hfz12_0 := blk_frozen BK102.out 0; have hfz12_1 := blk_frozen BK102.out 1) | ((with_reducible refine gate_callee (f := 86) rfl ?_); refine goesL_ (some 15) rfl rfl Tryz.func86 (by kernel_rfl) rfl #[.agg #[.int .i64 ((rd_Rule l0 x10_1).f0), .int .i64 ((rd_Rule l0 x10_1).f1)]] rfl k59_ ?_; (with_reducible refine (spec_siRule.calls ((rd_Rule l0 x10_1).f0) ((rd_Rule l0 x10_1).f1) false _ A6.out).mono ?_); rintro e w13 ⟨rfl, hb⟩; refine ⟨_, rfl, ?_⟩; replace BK102 := Aside0.mk (blk_below (g := gb102) (o := .cells #[.int .i64 ((rd_Rule l0 x10_1).f0), .int .i64 ((rd_Rule l0 x10_1).f1)] 33 (0, 0)) k9_ hb); replace HB := Aside0.mk (below_step k72_ hb); (try clear hb)))
        go_ret
        exact ⟨k70_, k72_⟩
      ·rw [if_neg c5] at H
       exact absurd H (by simp)
     ·rw [if_neg c4] at H
      exact absurd H (by simp)
    ·rw [if_neg c3] at H
     have c3b0 : decide (x10_1 < (l0.length : Int)) = false := decide_eq_false c3
     clear c3
     obtain rfl := Option.some.inj H
     go_wp2
     go_ret
     exact ⟨k70_, k74_⟩
end Go.Proofs.YtbnmajedmajfoaaGreatDoor.P
namespace Go.Proofs.YtbnmajedmajfoaaGreatDoor.P
open Go.RowKit Go.Proofs.YtbnmajedmajfoaaGreatDoorW.PrintWords Go.Proofs.YtbnmajedmajfoaaGreatDoorW.PrintLast Go.Proofs.YtbnmajedmajfoaaGreatDoorW.PrintMore
attribute [local go_sem] max2_int min2_int max_two min_two max_three min_three max_four min_four
set_option linter.unusedVariables false
set_option linter.unusedSimpArgs false
def spec_pzLess.f (a0_0 : Int) (a0_1 : Int) (a1_0 : Int) (a1_1 : Int) : Option (Bool) := if a0_0 < a1_0 then (some true) else (if a0_0 = a1_0 then (some (decide (a0_1 < a1_1))) else (some false))
set_option maxHeartbeats 8000000 in
set_option maxRecDepth 100000 in
theorem spec_pzLess.calls (a0_0 : Int) (a0_1 : Int) (a1_0 : Int) (a1_1 : Int) (r : Bool) (w : World) (h : spec_pzLess.f a0_0 a0_1 a1_0 a1_1 = some r) :
  Calls Tryz.prog 59 #[.agg #[.int .i64 a0_0, .int .i64 a0_1], .agg #[.int .i64 a1_0, .int .i64 a1_1]] w fun e w' => e = .returned (.bool r) ∧ Below w.heap.size w w' := by
 have hu33 := Tryz.underlying33
 have HB := Aside0.mk (Below.refl w.heap.size w)
 have H : (if a0_0 < a1_0 then (some true) else (if a0_0 = a1_0 then (some (decide (a0_1 < a1_1))) else (some false))) = some r := h
 clear h
 by_cases c3 : a0_0 < a1_0
 ·rw [if_pos c3] at H
  have c3b0 : decide (a0_0 < a1_0) = true := decide_eq_true c3
  clear c3
  obtain rfl := Option.some.inj H
  go_enter Tryz.func59, Tryz.ntmps59
  go_wp2_with (first | ((with_reducible refine gate_dst (N := 2) rfl ?_); refine box_event ?hg (N := 2) ?hd (cs := #[.int .i64 a0_0, .int .i64 a0_1]) (t := 33) ?hr ?_; (case hd => rfl); (case hg => rfl); (case hr => exact k94_); intro gb101 hg w4 hbox hb; have BK101 := Aside0.mk (hbox); have GW101 := Aside0.mk (HB.ge hg); have GE101 := Aside0.mk (HB.ge hg); replace HB := HB.mw hb; clear hb hbox hg) | ((with_reducible refine gate_dst (N := 3) rfl ?_); refine box_event ?hg (N := 3) ?hd (cs := #[.int .i64 a1_0, .int .i64 a1_1]) (t := 33) ?hr ?_; (case hd => rfl); (case hg => rfl); (case hr => exact k94_); intro gb102 hg w5 hbox hb; have BK102 := Aside0.mk (hbox); have GW102 := Aside0.mk ((by rw [hg]; exact (below_size k71_) : w.heap.size ≤ gb102)); have GE102 := Aside0.mk ((by rw [hg]; exact (below_size k71_) : w.heap.size ≤ gb102)); replace HB := Aside0.mk (below_step k71_ hb); have NB101_102 := Aside0.mk (BK101.ne hg); have NB102_101 := Aside0.mk (BK101.ne hg).symm; replace BK101 := BK101.mw hb; clear hb hbox hg; have hnb6 := NB101_102.out; have hnc6 := NB102_101.out; have hcz7_0 : w5.cell? ⟨gb101, 0, none⟩ = some (.int .i64 a0_0) := (blk_cell BK101.out 0).trans rfl; have hcz7_1 : w5.cell? ⟨gb101, 1, none⟩ = some (.int .i64 a0_1) := (blk_cell BK101.out 1).trans rfl; have hfz7_0 := blk_frozen BK101.out 0; have hfz7_1 := blk_frozen BK101.out 1; have hcz8_0 : w5.cell? ⟨gb102, 0, none⟩ = some (.int .i64 a1_0) := (blk_cell BK102.out 0).trans rfl; have hcz8_1 : w5.cell? ⟨gb102, 1, none⟩ = some (.int .i64 a1_1) := (blk_cell BK102.out 1).trans rfl; have hfz8_0 := blk_frozen BK102.out 0; have hfz8_1 := blk_frozen BK102.out 1))
  go_ret
  exact ⟨k70_, k65_⟩
 ·rw [if_neg c3] at H
  have c3b0 : decide (a0_0 < a1_0) = false := decide_eq_false c3
  clear c3
  by_cases c9 : a0_0 = a1_0
  ·rw [if_pos c9] at H
   have c9b0 : (a0_0 == a1_0) = true := beq_iff_eq.mpr c9
   have c9b1 : (a0_0 != a1_0) = false := bne_eq_false_iff_eq.mpr c9
   clear c9
   obtain rfl := Option.some.inj H
   go_enter Tryz.func59, Tryz.ntmps59
   go_wp2_with (first | ((with_reducible refine gate_dst (N := 2) rfl ?_); refine box_event ?hg (N := 2) ?hd (cs := #[.int .i64 a0_0, .int .i64 a0_1]) (t := 33) ?hr ?_; (case hd => rfl); (case hg => rfl); (case hr => exact k94_); intro gb101 hg w10 hbox hb; have BK101 := Aside0.mk (hbox); have GW101 := Aside0.mk (HB.ge hg); have GE101 := Aside0.mk (HB.ge hg); replace HB := HB.mw hb; clear hb hbox hg) | ((with_reducible refine gate_dst (N := 3) rfl ?_); refine box_event ?hg (N := 3) ?hd (cs := #[.int .i64 a1_0, .int .i64 a1_1]) (t := 33) ?hr ?_; (case hd => rfl); (case hg => rfl); (case hr => exact k94_); intro gb102 hg w11 hbox hb; have BK102 := Aside0.mk (hbox); have GW102 := Aside0.mk ((by rw [hg]; exact (below_size k71_) : w.heap.size ≤ gb102)); have GE102 := Aside0.mk ((by rw [hg]; exact (below_size k71_) : w.heap.size ≤ gb102)); replace HB := Aside0.mk (below_step k71_ hb); have NB101_102 := Aside0.mk (BK101.ne hg); have NB102_101 := Aside0.mk (BK101.ne hg).symm; replace BK101 := BK101.mw hb; clear hb hbox hg; have hnb12 := NB101_102.out; have hnc12 := NB102_101.out; have hcz13_0 : w11.cell? ⟨gb101, 0, none⟩ = some (.int .i64 a0_0) := (blk_cell BK101.out 0).trans rfl; have hcz13_1 : w11.cell? ⟨gb101, 1, none⟩ = some (.int .i64 a0_1) := (blk_cell BK101.out 1).trans rfl; have hfz13_0 := blk_frozen BK101.out 0; have hfz13_1 := blk_frozen BK101.out 1; have hcz14_0 : w11.cell? ⟨gb102, 0, none⟩ = some (.int .i64 a1_0) := (blk_cell BK102.out 0).trans rfl; have hcz14_1 : w11.cell? ⟨gb102, 1, none⟩ = some (.int .i64 a1_1) := (blk_cell BK102.out 1).trans rfl; have hfz14_0 := blk_frozen BK102.out 0; have hfz14_1 := blk_frozen BK102.out 1))
   go_ret
   exact ⟨k70_, k65_⟩
  ·rw [if_neg c9] at H
   have c9b0 : (a0_0 == a1_0) = false := beq_eq_false_iff_ne.mpr c9
   have c9b1 : (a0_0 != a1_0) = true := bne_iff_ne.mpr c9
   obtain rfl := Option.some.inj H
   go_enter Tryz.func59, Tryz.ntmps59
   go_wp2_with (first | ((with_reducible refine gate_dst (N := 2) rfl ?_); refine box_event ?hg (N := 2) ?hd (cs := #[.int .i64 a0_0, .int .i64 a0_1]) (t := 33) ?hr ?_; (case hd => rfl); (case hg => rfl); (case hr => exact k94_); intro gb101 hg w15 hbox hb; have BK101 := Aside0.mk (hbox); have GW101 := Aside0.mk (HB.ge hg); have GE101 := Aside0.mk (HB.ge hg); replace HB := HB.mw hb; clear hb hbox hg) | ((with_reducible refine gate_dst (N := 3) rfl ?_); refine box_event ?hg (N := 3) ?hd (cs := #[.int .i64 a1_0, .int .i64 a1_1]) (t := 33) ?hr ?_; (case hd => rfl); (case hg => rfl); (case hr => exact k94_); intro gb102 hg w16 hbox hb; have BK102 := Aside0.mk (hbox); have GW102 := Aside0.mk ((by rw [hg]; exact (below_size k71_) : w.heap.size ≤ gb102)); have GE102 := Aside0.mk ((by rw [hg]; exact (below_size k71_) : w.heap.size ≤ gb102)); replace HB := Aside0.mk (below_step k71_ hb); have NB101_102 := Aside0.mk (BK101.ne hg); have NB102_101 := Aside0.mk (BK101.ne hg).symm; replace BK101 := BK101.mw hb; clear hb hbox hg; have hnb17 := NB101_102.out; have hnc17 := NB102_101.out; have hcz18_0 : w16.cell? ⟨gb101, 0, none⟩ = some (.int .i64 a0_0) := (blk_cell BK101.out 0).trans rfl; have hcz18_1 : w16.cell? ⟨gb101, 1, none⟩ = some (.int .i64 a0_1) := (blk_cell BK101.out 1).trans rfl; have hfz18_0 := blk_frozen BK101.out 0; have hfz18_1 := blk_frozen BK101.out 1; have hcz19_0 : w16.cell? ⟨gb102, 0, none⟩ = some (.int .i64 a1_0) := (blk_cell BK102.out 0).trans rfl; have hcz19_1 : w16.cell? ⟨gb102, 1, none⟩ = some (.int .i64 a1_1) := (blk_cell BK102.out 1).trans rfl; have hfz19_0 := blk_frozen BK102.out 0; have hfz19_1 := blk_frozen BK102.out 1))
   go_ret
   exact ⟨k70_, k65_⟩
end Go.Proofs.YtbnmajedmajfoaaGreatDoor.P
namespace Go.Proofs.YtbnmajedmajfoaaGreatDoor.P
open Go.RowKit Go.Proofs.YtbnmajedmajfoaaGreatDoorW.PrintWords Go.Proofs.YtbnmajedmajfoaaGreatDoorW.PrintLast Go.Proofs.YtbnmajedmajfoaaGreatDoorW.PrintMore
attribute [local go_sem] max2_int min2_int max_two min_two max_three min_three max_four min_four
set_option linter.unusedVariables false
set_option linter.unusedSimpArgs false
mutual
def spec_IsAnswer.j0 : Nat → List (SRule) → Bool → ByteArray → Int → Option (Bool × Bool)
 | 0, _, _, _, _ => none
 | k + 1, x1, x15, x102000, x102001 => if x15 = true then (some (false, false)) else (if (x1.length : Int) = x102001 then (spec_IsAnswer.l0 k x1 x1 (x1.length : Int) 0 x102000 x102001) else (some (false, true)))
def spec_IsAnswer.l0 : Nat → List (SRule) → List (SRule) → Int → Int → ByteArray → Int → Option (Bool × Bool)
 | 0, _, _, _, _, _, _ => none
 | k + 1, x1, x21, x22, x23, x102000, x102001 => if x23 < x22 then (if 0 ≤ x23 then (if x23 < (x21.length : Int) then (if ((rd_Rule x21 x23).f0) > 10 then (some (false, true)) else ((spec_pzFits.f k x102000 ((rd_Rule x21 x23).f0) ((rd_Rule x21 x23).f1)).bind fun t107 => (if t107 = true then (if x23 > 0 then (if 0 ≤ (wrap64 (x23 - 1)) then (if (wrap64 (x23 - 1)) < (x1.length : Int) then ((spec_pzLess.f ((rd_Rule x1 (wrap64 (x23 - 1))).f0) ((rd_Rule x1 (wrap64 (x23 - 1))).f1) ((rd_Rule x21 x23).f0) ((rd_Rule x21 x23).f1)).bind fun t109 => (if t109 = true then (spec_IsAnswer.l0 k x1 x21 x22 (wrap64 (x23 + 1)) x102000 x102001) else (some (false, true)))) else (none)) else (none)) else (spec_IsAnswer.l0 k x1 x21 x22 (wrap64 (x23 + 1)) x102000 x102001)) else (some (false, true))))) else (none)) else (none)) else ((spec_pzCovers.f k x102000 x1).bind fun t104 => (some (t104, true)))
end
def spec_IsAnswer.f (k : Nat) (a0_0 : ByteArray) (a0_1 : Int) (l1 : List (SRule)) : Option (Bool × Bool) := (spec_pzGood.f k a0_0 a0_1).bind fun t102 => (if t102 = true then ((spec_siGood.f k l1).bind fun t103 => (spec_IsAnswer.j0 k l1 (!t103) a0_0 a0_1)) else (spec_IsAnswer.j0 k l1 true a0_0 a0_1))
def spec_IsAnswer.T8 : Bool × List (List Nat × List Nat) := (true, [([], []), ([0], [0]), ([1], [1]), ([2], [2]), ([3], [3]), ([4, 3], [3, 4]), ([3], [3]), ([5, 6, 3, 3], [3, 5, 6]), ([7, 3], [3, 7]), ([3, 8], [3, 8]), ([9, 7], [9]), ([10], [10]), ([11, 10], [10, 11]), ([12, 10, 10], [10, 12]), ([13], [13]), ([13], [13]), ([15, 13], [13, 15]), ([14, 16, 13], [13, 14, 16]), ([17, 13], [13, 17]), ([13], [13]), ([18, 19, 13, 13], [13, 18, 19]), ([20, 13], [13, 20]), ([13, 21, 10], [10, 13, 21]), ([10, 22], [10, 22])])
def spec_IsAnswer.B8 : List Nat := [0, 1, 3, 7, 15, 31, 15, 127, 255, 511, 1023, 2047, 4095, 8191, 16383, 16383, 49151, 131071, 262143, 16383, 1048575, 2097151, 4194303, 8388607]
theorem spec_IsAnswer.tab8 : rtab .any (opsOf Tryz.f29 8) = spec_IsAnswer.T8 := by kernel_rfl
theorem spec_IsAnswer.bits8 : waitsOk spec_IsAnswer.T8.2 spec_IsAnswer.B8 = true := by kernel_rfl
set_option maxHeartbeats 8000000 in
set_option maxRecDepth 100000 in
theorem spec_IsAnswer.calls (k : Nat) (a0_0 : ByteArray) (a0_1 : Int) (A1 : Option Addr) (c1 : Nat) (l1 : List (SRule)) (r1 : Bool) (r2 : Bool) (w : World) (hr1 : Kd.C kRule w A1 l1.length l1) (hc1 : l1.length ≤ c1) (h : spec_IsAnswer.f k a0_0 a0_1 l1 = some (r1, r2)) :
  Calls Tryz.prog 29 #[.agg #[.string a0_0, .int .i64 a0_1], .slice A1 l1.length c1] w fun e w' => e = .returned (.tuple #[.bool r1, .bool r2]) ∧ Below w.heap.size w w' := by
 have hu23 := Tryz.underlying23
 have hu33 := Tryz.underlying33
 have HR1 := Aside0.mk hr1
 have HC1 := Aside0.mk hc1
 clear hr1 hc1
 have HB := Aside0.mk (Below.refl w.heap.size w)
 have H : ((spec_pzGood.f k a0_0 a0_1).bind fun t102 => (if t102 = true then ((spec_siGood.f k l1).bind fun t103 => (spec_IsAnswer.j0 k l1 (!t103) a0_0 a0_1)) else (spec_IsAnswer.j0 k l1 true a0_0 a0_1))) = some (r1, r2) := h
 clear h
 have HC3 := Aside0.mk H
 clear H
 go_enter Tryz.func29, Tryz.ntmps29
 go_upto_region 1 with (first | ((with_reducible refine gate_dst (N := 2) rfl ?_); refine box_event ?hg (N := 2) ?hd (cs := #[.string a0_0, .int .i64 a0_1]) (t := 23) ?hr ?_; (case hd => rfl); (case hg => rfl); (case hr => exact k94_); intro gb101 hg w4 hbox hb; have BK101 := Aside0.mk (hbox); have GW101 := Aside0.mk (HB.ge hg); have GE101 := Aside0.mk (HB.ge hg); replace HB := HB.mw hb; clear hb hbox hg))
 (try simp only [Act.put, List.setIfInBounds_toArray, List.set_cons_zero, List.set_cons_succ])
 go_cut [15] (fun v15 wc => ∃ (kq : Nat) (x15_2 : Bool), v15 = .bool x15_2 ∧ Aside0 (spec_IsAnswer.j0 kq l1 x15_2 a0_0 a0_1 = some (r1, r2)) ∧ Aside0 (kq ≤ k) ∧ Aside0 (wc.heap[gb101]? = some (.cells #[.string a0_0, .int .i64 a0_1] 23 (0, 0))) ∧ Aside0 (Below w.heap.size w wc))
 case first =>
  have H := HC3.out
  clear HC3
  obtain ⟨t102, A5, H⟩ := obnd_ H
  (try dsimp only at H)
  by_cases c6 : t102 = true
  ·subst c6
   rw [if_pos rfl] at H
   obtain ⟨t103, A7, H⟩ := obnd_ H
   (try dsimp only at H)
   have H' := Aside0.mk H
   clear H
   have hcz8_0 : w4.cell? ⟨gb101, 0, none⟩ = some (.string a0_0) := (blk_cell BK101.out 0).trans rfl
   have hcz8_1 : w4.cell? ⟨gb101, 1, none⟩ = some (.int .i64 a0_1) := (blk_cell BK101.out 1).trans rfl
   have hfz8_0 := blk_frozen BK101.out 0
   have hfz8_1 := blk_frozen BK101.out 1
   go_wp2_with (first | ((with_reducible refine gate_callee (f := 45) rfl ?_); refine goesL_ (some 9) rfl rfl Tryz.func45 (by kernel_rfl) rfl #[.agg #[.string a0_0, .int .i64 a0_1]] rfl k59_ ?_; (with_reducible refine (spec_pzGood.calls k a0_0 a0_1 true _ A5.out).mono ?_); rintro e w9 ⟨rfl, hb⟩; refine ⟨_, rfl, ?_⟩; replace BK101 := BK101.mw hb; replace HB := Aside0.mk (below_step k71_ hb); (try clear hb)) | (go_at_call 57; (with_reducible refine (spec_siGood.calls k _ _ l1 t103 _ ?side1 ?side2 A7.out).mono ?_); (case side1 => exact k48_); (case side2 => exact HC1.out); rintro e w10 ⟨rfl, hb⟩; replace BK101 := BK101.mw hb; replace HB := Aside0.mk (below_step k71_ hb); (try clear hb)))
   go_meet
   case rel => exact ⟨_, (!t103), k92_, H', ⟨k95_⟩, ⟨k85_⟩, ⟨k71_⟩⟩
  ·replace c6 := Bool.eq_false_iff.mpr c6
   subst c6
   rw [if_neg (show ¬ (false = true) by decide)] at H
   have H' := Aside0.mk H
   clear H
   have hcz11_0 : w4.cell? ⟨gb101, 0, none⟩ = some (.string a0_0) := (blk_cell BK101.out 0).trans rfl
   have hcz11_1 : w4.cell? ⟨gb101, 1, none⟩ = some (.int .i64 a0_1) := (blk_cell BK101.out 1).trans rfl
   have hfz11_0 := blk_frozen BK101.out 0
   have hfz11_1 := blk_frozen BK101.out 1
   go_wp2_with (first | ((with_reducible refine gate_callee (f := 45) rfl ?_); refine goesL_ (some 9) rfl rfl Tryz.func45 (by kernel_rfl) rfl #[.agg #[.string a0_0, .int .i64 a0_1]] rfl k59_ ?_; (with_reducible refine (spec_pzGood.calls k a0_0 a0_1 false _ A5.out).mono ?_); rintro e w12 ⟨rfl, hb⟩; refine ⟨_, rfl, ?_⟩; replace BK101 := BK101.mw hb; replace HB := Aside0.mk (below_step k71_ hb); (try clear hb)))
   go_meet
   case rel => exact ⟨_, (true), k92_, H', ⟨k95_⟩, ⟨k85_⟩, ⟨k71_⟩⟩
 case rest =>
  clear HC3
  obtain ⟨kq, x15_2, rfl, HA, HJ2, BK101, HB⟩ := hcut
  cases kq with
  | zero => exact absurd HA.out (by simp [spec_IsAnswer.j0])
  | succ kj2 =>
   have H := HA.out
   clear HA
   simp only [spec_IsAnswer.j0] at H
   by_cases c13 : x15_2 = true
   ·subst c13
    rw [if_pos rfl] at H
    simp only [Option.some.injEq, Prod.mk.injEq] at H
    obtain ⟨rfl, rfl⟩ := H
    go_wp2
    go_ret2
    exact ⟨k70_, k71_⟩
   ·replace c13 := Bool.eq_false_iff.mpr c13
    subst c13
    rw [if_neg (show ¬ (false = true) by decide)] at H
    by_cases c14 : (l1.length : Int) = a0_1
    ·rw [if_pos c14] at H
     have c14b0 : ((l1.length : Int) == a0_1) = true := beq_iff_eq.mpr c14
     have c14b1 : ((l1.length : Int) != a0_1) = false := bne_eq_false_iff_eq.mpr c14
     clear c14
     have H' := Aside0.mk H
     clear H
     have hcz15_0 : wc.cell? ⟨gb101, 0, none⟩ = some (.string a0_0) := (blk_cell BK101.out 0).trans rfl
     have hcz15_1 : wc.cell? ⟨gb101, 1, none⟩ = some (.int .i64 a0_1) := (blk_cell BK101.out 1).trans rfl
     have hfz15_0 := blk_frozen BK101.out 0
     have hfz15_1 := blk_frozen BK101.out 1
     go_wp2
     go_loopg [23] kj2 (fun kq v23 w' => ∃ (x23_2 : Int), v23 = .int .i64 x23_2 ∧ Aside0 (spec_IsAnswer.l0 kq l1 l1 (l1.length : Int) x23_2 a0_0 a0_1 = some (r1, r2)) ∧ Aside0 (kq ≤ kj2) ∧ Aside0 (w'.heap[gb101]? = some (.cells #[.string a0_0, .int .i64 a0_1] 23 (0, 0))) ∧ Aside0 (Below w.heap.size w w'))
     case atStart => exact ⟨(0), k92_, H', ⟨Nat.le_refl _⟩, ⟨k85_⟩, ⟨k71_⟩⟩
     case round =>
      clear H'
      skip
      obtain ⟨x23_2, rfl, HA, HK2, BK101, HB⟩ := hrel
      cases gk with
      | zero => exact absurd HA.out (by simp [spec_IsAnswer.l0])
      | succ k2 =>
       have H := HA.out
       clear HA
       simp only [spec_IsAnswer.l0] at H
       by_cases c16 : x23_2 < (l1.length : Int)
       ·rw [if_pos c16] at H
        have c16b0 : decide (x23_2 < (l1.length : Int)) = true := decide_eq_true c16
        clear c16
        by_cases c17 : 0 ≤ x23_2
        ·rw [if_pos c17] at H
         have c17b0 : decide (0 ≤ x23_2) = true := decide_eq_true c17
         clear c17
         by_cases c18 : x23_2 < (l1.length : Int)
         ·rw [if_pos c18] at H
          have c18b0 : decide (x23_2 < (l1.length : Int)) = true := decide_eq_true c18
          clear c18
          by_cases c19 : ((rd_Rule l1 x23_2).f0) > 10
          ·rw [if_pos c19] at H
           have c19b0 : decide (10 < ((rd_Rule l1 x23_2).f0)) = true := decide_eq_true c19
           clear c19
           simp only [Option.some.injEq, Prod.mk.injEq] at H
           obtain ⟨rfl, rfl⟩ := H
           have p105 : 0 ≤ (x23_2 : Int) := of_decide_eq_true k91_
           have q105 : x23_2 < (l1.length : Int) := of_decide_eq_true k91_
           obtain ⟨ad105, e105, hx105_0, hx105_1⟩ := at_Rule HR1.out x23_2 p105 q105
           cases e105
           replace hx105_0 := (HB.out.cell (World.block_lt_of_cell? w _ hx105_0)).trans hx105_0
           replace hx105_1 := (HB.out.cell (World.block_lt_of_cell? w _ hx105_1)).trans hx105_1
           replace p105 := eq_true p105
           replace q105 := eq_true q105
           try go_wp2_with (first | ((with_reducible refine gate_dst (N := 7) rfl ?_); refine box_event ?hg (N := 7) ?hd (cs := #[.int .i64 0, .int .i64 0]) (t := 33) ?hr ?_; (case hd => rfl); (case hg => rfl); (case hr => exact k94_); intro gb106 hg w20 hbox hb; have BK106 := Aside0.mk (hbox); have GW106 := Aside0.mk ((by rw [hg]; exact (below_size k71_) : w.heap.size ≤ gb106)); have GE106 := Aside0.mk ((by rw [hg]; exact (below_size k71_) : w.heap.size ≤ gb106)); replace HB := Aside0.mk (below_step k71_ hb); have NB101_106 := Aside0.mk (BK101.ne hg); have NB106_101 := Aside0.mk (BK101.ne hg).symm; replace BK101 := BK101.mw hb; clear hb hbox hg; have hnb21 := NB106_101.out; have hnc21 := NB101_106.out; have hcz22_0 : w20.cell? ⟨gb106, 0, none⟩ = some (.int .i64 0) := (blk_cell BK106.out 0).trans rfl; have hcz22_1 : w20.cell? ⟨gb106, 1, none⟩ = some (.int .i64 0) := (blk_cell BK106.out 1).trans rfl; have hfz22_0 := blk_frozen BK106.out 0; have hfz22_1 := blk_frozen BK106.out 1))
           have n0_ : Aside0 (((w20.setCell ⟨gb106, 0, none⟩ (.int .i64 ((rd_Rule l1 x23_2).f0))).setCell ⟨gb106, 1, none⟩ (.int .i64 ((rd_Rule l1 x23_2).f1))).heap[gb101]? = some (.cells #[.string a0_0, .int .i64 a0_1] 23 (0, 0))) := ⟨k21_⟩
           have n1_ : Aside0 (((w20.setCell ⟨gb106, 0, none⟩ (.int .i64 ((rd_Rule l1 x23_2).f0))).setCell ⟨gb106, 1, none⟩ (.int .i64 ((rd_Rule l1 x23_2).f1))).heap[gb106]? = some (.cells #[.int .i64 ((rd_Rule l1 x23_2).f0), .int .i64 ((rd_Rule l1 x23_2).f1)] 33 (0, 0))) := ⟨k11_⟩
           have n2_ : Aside0 (Below w.heap.size w ((w20.setCell ⟨gb106, 0, none⟩ (.int .i64 ((rd_Rule l1 x23_2).f0))).setCell ⟨gb106, 1, none⟩ (.int .i64 ((rd_Rule l1 x23_2).f1)))) := ⟨k67_⟩
           (try clear BK101)
           (try clear BK106)
           (try clear HB)
           generalize ((w20.setCell ⟨gb106, 0, none⟩ (.int .i64 ((rd_Rule l1 x23_2).f0))).setCell ⟨gb106, 1, none⟩ (.int .i64 ((rd_Rule l1 x23_2).f1))) = w23 at n0_ n1_ n2_ ⊢
           have BK101 := n0_
           have BK106 := n1_
           have HB := n2_
           clear n0_ n1_ n2_
           replace BK101 := Aside0.mk (blk_drew BK101.out)
           replace BK106 := Aside0.mk (blk_drew BK106.out)
           replace HB := Aside0.mk (below_drew1 HB.out)
           refine start_ (n := 24) (S := fun w' => w'.cell? ⟨gb106, 0, none⟩ = some (.int .i64 ((rd_Rule l1 x23_2).f0)) ∧ w'.cell? ⟨gb106, 1, none⟩ = some (.int .i64 ((rd_Rule l1 x23_2).f1))) (ds := []) (rA_ [0, 24]) (by kernel_rfl) rfl rfl ⟨(blk_cell BK106.out 0).trans rfl, (blk_cell BK106.out 1).trans rfl⟩ (fun hHeld => ?_); refine with_tabW spec_IsAnswer.tab8 spec_IsAnswer.bits8 (fun HT_ HW_ => ?_)
           generalize w23.drew = w24 at BK101 BK106 HB hHeld ⊢
           refine pu_ 0 28 [1, 23] ?_
           refine ta2_ 1 29 [2, 22] ?_
           refine pu_ 2 30 [3, 21] ?_
           refine pu_ 3 31 [4, 20] ?_
           refine pz_ 4 32 [5, 19] ?_
           refine pz_ 5 33 [6, 18] ?_
           refine pz_ 6 34 [7, 17] ?_
           refine pz_ 7 35 [8, 16] ?_
           refine pz_ 8 36 [9, 15] ?_
           refine pu_ 9 37 [10, 14] ?_
           refine pu_ 10 38 [11, 13] ?_
           refine pz_ 11 39 [12, 12] ?_
           refine pz_ 12 40 [13, 11] ?_
           refine pz_ 13 41 [14, 10] ?_
           refine pz_ 14 42 [15, 9] ?_
           refine pz_ 15 43 [16, 8] ?_
           refine pz_ 16 44 [17, 7] ?_
           refine pz_ 17 45 [18, 6] ?_
           refine pz_ 18 46 [19, 5] ?_
           refine pz_ 19 47 [20, 4] ?_
           refine pz_ 20 48 [21, 3] ?_
           refine pz_ 21 49 [22, 2] ?_
           refine pz_ 22 50 [23, 1] ?_
           refine pu_ 23 51 [24] ?_
           refine done_ (done_of HT_.out (by kernel_rfl)) ?_
           try go_wp2
           go_ret2
           exact ⟨k70_, k67_⟩
          ·rw [if_neg c19] at H
           have c19b0 : decide (10 < ((rd_Rule l1 x23_2).f0)) = false := decide_eq_false c19
           clear c19
           obtain ⟨t107, A25, H⟩ := obnd_ H
           (try dsimp only at H)
           by_cases c26 : t107 = true
           ·subst c26
            rw [if_pos rfl] at H
            by_cases c27 : x23_2 > 0
            ·rw [if_pos c27] at H
             have c27b0 : decide (0 < x23_2) = true := decide_eq_true c27
             clear c27
             obtain ⟨ji28, hji28⟩ : ∃ j_ : Int, (wrap64 (x23_2 - 1)) = j_ := ⟨_, rfl⟩
             replace H : (if 0 ≤ (ji28) then (if (ji28) < (l1.length : Int) then ((spec_pzLess.f ((rd_Rule l1 (ji28)).f0) ((rd_Rule l1 (ji28)).f1) ((rd_Rule l1 x23_2).f0) ((rd_Rule l1 x23_2).f1)).bind fun t109 => (if t109 = true then (spec_IsAnswer.l0 k2 l1 l1 (l1.length : Int) (wrap64 (x23_2 + 1)) a0_0 a0_1) else (some (false, true)))) else (none)) else (none)) = some (r1, r2) := by first | (rw [hji28] at H; exact H) | (simp only [hji28] at H ⊢; exact H)
             (try rw [hji28] at A25)
             have hji28w : (IntKind.i64.wrap (x23_2 - 1)) = ji28 := (i64_w _).trans hji28
             by_cases c29 : 0 ≤ (ji28)
             ·rw [if_pos c29] at H
              have c29b0 : decide (0 ≤ (ji28)) = true := decide_eq_true c29
              clear c29
              by_cases c30 : (ji28) < (l1.length : Int)
              ·rw [if_pos c30] at H
               have c30b0 : decide ((ji28) < (l1.length : Int)) = true := decide_eq_true c30
               clear c30
               obtain ⟨t109, A31, H⟩ := obnd_ H
               (try dsimp only at H)
               by_cases c32 : t109 = true
               ·subst c32
                rw [if_pos rfl] at H
                have H' := Aside0.mk H
                clear H
                have p105 : 0 ≤ (x23_2 : Int) := of_decide_eq_true k91_
                have q105 : x23_2 < (l1.length : Int) := of_decide_eq_true k91_
                obtain ⟨ad105, e105, hx105_0, hx105_1⟩ := at_Rule HR1.out x23_2 p105 q105
                cases e105
                replace hx105_0 := (HB.out.cell (World.block_lt_of_cell? w _ hx105_0)).trans hx105_0
                replace hx105_1 := (HB.out.cell (World.block_lt_of_cell? w _ hx105_1)).trans hx105_1
                replace p105 := eq_true p105
                replace q105 := eq_true q105
                try go_wp2_with (first | ((with_reducible refine gate_dst (N := 7) rfl ?_); refine box_event ?hg (N := 7) ?hd (cs := #[.int .i64 0, .int .i64 0]) (t := 33) ?hr ?_; (case hd => rfl); (case hg => rfl); (case hr => exact k94_); intro gb106 hg w33 hbox hb; have BK106 := Aside0.mk (hbox); have GW106 := Aside0.mk ((by rw [hg]; exact (below_size k71_) : w.heap.size ≤ gb106)); have GE106 := Aside0.mk ((by rw [hg]; exact (below_size k71_) : w.heap.size ≤ gb106)); replace HB := Aside0.mk (below_step k71_ hb); have NB101_106 := Aside0.mk (BK101.ne hg); have NB106_101 := Aside0.mk (BK101.ne hg).symm; replace BK101 := BK101.mw hb; clear hb hbox hg; have hnb34 := NB106_101.out; have hnc34 := NB101_106.out; have hcz35_0 : w33.cell? ⟨gb106, 0, none⟩ = some (.int .i64 0) := (blk_cell BK106.out 0).trans rfl; have hcz35_1 : w33.cell? ⟨gb106, 1, none⟩ = some (.int .i64 0) := (blk_cell BK106.out 1).trans rfl; have hfz35_0 := blk_frozen BK106.out 0; have hfz35_1 := blk_frozen BK106.out 1))
                have n0_ : Aside0 (((w33.setCell ⟨gb106, 0, none⟩ (.int .i64 ((rd_Rule l1 x23_2).f0))).setCell ⟨gb106, 1, none⟩ (.int .i64 ((rd_Rule l1 x23_2).f1))).heap[gb101]? = some (.cells #[.string a0_0, .int .i64 a0_1] 23 (0, 0))) := ⟨k21_⟩
                have n1_ : Aside0 (((w33.setCell ⟨gb106, 0, none⟩ (.int .i64 ((rd_Rule l1 x23_2).f0))).setCell ⟨gb106, 1, none⟩ (.int .i64 ((rd_Rule l1 x23_2).f1))).heap[gb106]? = some (.cells #[.int .i64 ((rd_Rule l1 x23_2).f0), .int .i64 ((rd_Rule l1 x23_2).f1)] 33 (0, 0))) := ⟨k11_⟩
                have n2_ : Aside0 (Below w.heap.size w ((w33.setCell ⟨gb106, 0, none⟩ (.int .i64 ((rd_Rule l1 x23_2).f0))).setCell ⟨gb106, 1, none⟩ (.int .i64 ((rd_Rule l1 x23_2).f1)))) := ⟨k67_⟩
                (try clear BK101)
                (try clear BK106)
                (try clear HB)
                generalize ((w33.setCell ⟨gb106, 0, none⟩ (.int .i64 ((rd_Rule l1 x23_2).f0))).setCell ⟨gb106, 1, none⟩ (.int .i64 ((rd_Rule l1 x23_2).f1))) = w36 at n0_ n1_ n2_ ⊢
                have BK101 := n0_
                have BK106 := n1_
                have HB := n2_
                clear n0_ n1_ n2_
                replace BK101 := Aside0.mk (blk_drew BK101.out)
                replace BK106 := Aside0.mk (blk_drew BK106.out)
                replace HB := Aside0.mk (below_drew1 HB.out)
                have p108 : 0 ≤ ((ji28) : Int) := of_decide_eq_true k91_
                have q108 : (ji28) < (l1.length : Int) := of_decide_eq_true k91_
                obtain ⟨ad108, e108, hx108_0, hx108_1⟩ := at_Rule HR1.out (ji28) p108 q108
                have hw108_1 := hx108_1
                have hw108_0 := hx108_0
                obtain rfl : ad105 = ad108 := (by injection e108)
                replace hx108_0 := (HB.out.cell (World.block_lt_of_cell? w _ hx108_0)).trans hx108_0
                replace hx108_1 := (HB.out.cell (World.block_lt_of_cell? w _ hx108_1)).trans hx108_1
                replace p108 := eq_true p108
                replace q108 := eq_true q108
                refine start_ (n := 24) (S := fun w' => w'.cell? ⟨gb106, 0, none⟩ = some (.int .i64 ((rd_Rule l1 x23_2).f0)) ∧ w'.cell? ⟨gb106, 1, none⟩ = some (.int .i64 ((rd_Rule l1 x23_2).f1)) ∧ w'.cell? ⟨gb101, 0, none⟩ = some (.string a0_0) ∧ w'.cell? ⟨gb101, 1, none⟩ = some (.int .i64 a0_1) ∧ w'.cell? (ad105.add (((ji28)).toNat * 2)) = some (.int .i64 ((rd_Rule l1 (ji28)).f0)) ∧ w'.cell? ⟨(ad105.add (((ji28)).toNat * 2)).block, (ad105.add (((ji28)).toNat * 2)).off + 1, none⟩ = some (.int .i64 ((rd_Rule l1 (ji28)).f1))) (ds := []) (rA_ [0, 24]) (by kernel_rfl) rfl rfl ⟨(blk_cell BK106.out 0).trans rfl, (blk_cell BK106.out 1).trans rfl, (blk_cell BK101.out 0).trans rfl, (blk_cell BK101.out 1).trans rfl, ((HB.out.cell (World.block_lt_of_cell? w _ hw108_0)).trans hw108_0), ((HB.out.cell (World.block_lt_of_cell? w _ hw108_1)).trans hw108_1)⟩ (fun hHeld => ?_); refine with_tabW spec_IsAnswer.tab8 spec_IsAnswer.bits8 (fun HT_ HW_ => ?_)
                generalize w36.drew = w37 at BK101 BK106 HB hx108_0 hx108_1 hHeld ⊢
                refine pu_ 0 28 [1, 23] ?_
                refine ta6_ 1 29 [2, 22] ?_
                refine pu_ 2 30 [3, 21] ?_
                refine pu_ 3 31 [4, 20] ?_
                refine pu_ 4 32 [5, 19] ?_
                refine ta6_ 5 33 [6, 18] ?_
                refine ta6_ 6 34 [7, 17] ?_
                refine one_ (i := 7) (N := some 35) (rA_ [8, 16]) rfl rfl (one_of HT_.out (by kernel_rfl)) (by decide) (fun K hK => ?_)
                refine goes_ Tryz.func58 (by kernel_rfl) rfl #[.string a0_0, .agg #[.int .i64 ((rd_Rule l1 x23_2).f0), .int .i64 ((rd_Rule l1 x23_2).f1)]] (by rfl) rfl rfl k59_ ?_
                with_reducible refine (spec_pzFits.calls k2 a0_0 ((rd_Rule l1 x23_2).f0) ((rd_Rule l1 x23_2).f1) true _ A25.out).mono ?_
                rintro e w38 ⟨rfl, hb⟩
                refine ⟨_, rfl, ?_⟩
                replace BK101 := BK101.mw hb
                replace BK106 := BK106.mw hb
                replace HB := Aside0.mk (below_step k67_ hb)
                (try clear hb)
                (try clear hb2)
                (try clear hk)
                (try clear hi)
                refine hK.out _ _ ⟨(blk_cell BK106.out 0).trans rfl, (blk_cell BK106.out 1).trans rfl, (blk_cell BK101.out 0).trans rfl, (blk_cell BK101.out 1).trans rfl, ((HB.out.cell (World.block_lt_of_cell? w _ hw108_0)).trans hw108_0), ((HB.out.cell (World.block_lt_of_cell? w _ hw108_1)).trans hw108_1)⟩ (fun hHeld => ?_)
                clear hK K
                refine nm_ 35 ?_
                refine pu_ 8 36 [9, 15] ?_
                refine pu_ 9 37 [10, 14] ?_
                refine pu_ 10 38 [11, 13] ?_
                refine pu_ 11 39 [12, 12] ?_
                refine pu_ 12 40 [13, 11] ?_
                refine pu_ 13 41 [14, 10] ?_
                refine pu_ 14 42 [15, 9] ?_
                refine pu_ 15 43 [16, 8] ?_
                refine pu_ 16 44 [17, 7] ?_
                refine pu_ 17 45 [18, 6] ?_
                refine ta6_ 18 46 [19, 5] ?_
                refine ta6_ 19 47 [20, 4] ?_
                refine one_ (i := 20) (N := some 48) (rA_ [21, 3]) rfl rfl (one_of HT_.out (by kernel_rfl)) (by decide) (fun K hK => ?_)
                refine goes_ Tryz.func59 (by kernel_rfl) rfl #[.agg #[.int .i64 ((rd_Rule l1 (ji28)).f0), .int .i64 ((rd_Rule l1 (ji28)).f1)], .agg #[.int .i64 ((rd_Rule l1 x23_2).f0), .int .i64 ((rd_Rule l1 x23_2).f1)]] (by rfl) rfl rfl (by (try simp only [List.map_toArray, List.map_cons, List.map_nil]); first | done | (simp only [hji28]; rfl) | rfl | (simp only [List.length_drop, List.length_take]; rfl)) ?_
                with_reducible refine (spec_pzLess.calls ((rd_Rule l1 (ji28)).f0) ((rd_Rule l1 (ji28)).f1) ((rd_Rule l1 x23_2).f0) ((rd_Rule l1 x23_2).f1) true _ A31.out).mono ?_
                rintro e w39 ⟨rfl, hb⟩
                refine ⟨_, rfl, ?_⟩
                replace BK101 := BK101.mw hb
                replace BK106 := BK106.mw hb
                replace HB := Aside0.mk (below_step k67_ hb)
                (try clear hb)
                (try clear hb2)
                (try clear hk)
                (try clear hi)
                refine hK.out _ _ ⟨(blk_cell BK106.out 0).trans rfl, (blk_cell BK106.out 1).trans rfl, (blk_cell BK101.out 0).trans rfl, (blk_cell BK101.out 1).trans rfl, ((HB.out.cell (World.block_lt_of_cell? w _ hw108_0)).trans hw108_0), ((HB.out.cell (World.block_lt_of_cell? w _ hw108_1)).trans hw108_1)⟩ (fun hHeld => ?_)
                clear hK K
                refine nm_ 48 ?_
                refine pu_ 21 49 [22, 2] ?_
                refine pu_ 22 50 [23, 1] ?_
                refine pu_ 23 51 [24] ?_
                refine done_ (done_of HT_.out (by kernel_rfl)) ?_
                try go_wp2
                go_roundg k2
                case measure => have := HJ2.out; have := HK2.out; omega
                case rel => exact ⟨(wrap64 (x23_2 + 1)), k92_, H', ⟨by have := HJ2.out; have := HK2.out; omega⟩, ⟨k85_⟩, ⟨k67_⟩⟩
               ·replace c32 := Bool.eq_false_iff.mpr c32
                subst c32
                rw [if_neg (show ¬ (false = true) by decide)] at H
                simp only [Option.some.injEq, Prod.mk.injEq] at H
                obtain ⟨rfl, rfl⟩ := H
                have p105 : 0 ≤ (x23_2 : Int) := of_decide_eq_true k91_
                have q105 : x23_2 < (l1.length : Int) := of_decide_eq_true k91_
                obtain ⟨ad105, e105, hx105_0, hx105_1⟩ := at_Rule HR1.out x23_2 p105 q105
                cases e105
                replace hx105_0 := (HB.out.cell (World.block_lt_of_cell? w _ hx105_0)).trans hx105_0
                replace hx105_1 := (HB.out.cell (World.block_lt_of_cell? w _ hx105_1)).trans hx105_1
                replace p105 := eq_true p105
                replace q105 := eq_true q105
                try go_wp2_with (first | ((with_reducible refine gate_dst (N := 7) rfl ?_); refine box_event ?hg (N := 7) ?hd (cs := #[.int .i64 0, .int .i64 0]) (t := 33) ?hr ?_; (case hd => rfl); (case hg => rfl); (case hr => exact k94_); intro gb106 hg w40 hbox hb; have BK106 := Aside0.mk (hbox); have GW106 := Aside0.mk ((by rw [hg]; exact (below_size k71_) : w.heap.size ≤ gb106)); have GE106 := Aside0.mk ((by rw [hg]; exact (below_size k71_) : w.heap.size ≤ gb106)); replace HB := Aside0.mk (below_step k71_ hb); have NB101_106 := Aside0.mk (BK101.ne hg); have NB106_101 := Aside0.mk (BK101.ne hg).symm; replace BK101 := BK101.mw hb; clear hb hbox hg; have hnb41 := NB106_101.out; have hnc41 := NB101_106.out; have hcz42_0 : w40.cell? ⟨gb106, 0, none⟩ = some (.int .i64 0) := (blk_cell BK106.out 0).trans rfl; have hcz42_1 : w40.cell? ⟨gb106, 1, none⟩ = some (.int .i64 0) := (blk_cell BK106.out 1).trans rfl; have hfz42_0 := blk_frozen BK106.out 0; have hfz42_1 := blk_frozen BK106.out 1))
                have n0_ : Aside0 (((w40.setCell ⟨gb106, 0, none⟩ (.int .i64 ((rd_Rule l1 x23_2).f0))).setCell ⟨gb106, 1, none⟩ (.int .i64 ((rd_Rule l1 x23_2).f1))).heap[gb101]? = some (.cells #[.string a0_0, .int .i64 a0_1] 23 (0, 0))) := ⟨k21_⟩
                have n1_ : Aside0 (((w40.setCell ⟨gb106, 0, none⟩ (.int .i64 ((rd_Rule l1 x23_2).f0))).setCell ⟨gb106, 1, none⟩ (.int .i64 ((rd_Rule l1 x23_2).f1))).heap[gb106]? = some (.cells #[.int .i64 ((rd_Rule l1 x23_2).f0), .int .i64 ((rd_Rule l1 x23_2).f1)] 33 (0, 0))) := ⟨k11_⟩
                have n2_ : Aside0 (Below w.heap.size w ((w40.setCell ⟨gb106, 0, none⟩ (.int .i64 ((rd_Rule l1 x23_2).f0))).setCell ⟨gb106, 1, none⟩ (.int .i64 ((rd_Rule l1 x23_2).f1)))) := ⟨k67_⟩
                (try clear BK101)
                (try clear BK106)
                (try clear HB)
                generalize ((w40.setCell ⟨gb106, 0, none⟩ (.int .i64 ((rd_Rule l1 x23_2).f0))).setCell ⟨gb106, 1, none⟩ (.int .i64 ((rd_Rule l1 x23_2).f1))) = w43 at n0_ n1_ n2_ ⊢
                have BK101 := n0_
                have BK106 := n1_
                have HB := n2_
                clear n0_ n1_ n2_
                replace BK101 := Aside0.mk (blk_drew BK101.out)
                replace BK106 := Aside0.mk (blk_drew BK106.out)
                replace HB := Aside0.mk (below_drew1 HB.out)
                have p108 : 0 ≤ ((ji28) : Int) := of_decide_eq_true k91_
                have q108 : (ji28) < (l1.length : Int) := of_decide_eq_true k91_
                obtain ⟨ad108, e108, hx108_0, hx108_1⟩ := at_Rule HR1.out (ji28) p108 q108
                have hw108_1 := hx108_1
                have hw108_0 := hx108_0
                obtain rfl : ad105 = ad108 := (by injection e108)
                replace hx108_0 := (HB.out.cell (World.block_lt_of_cell? w _ hx108_0)).trans hx108_0
                replace hx108_1 := (HB.out.cell (World.block_lt_of_cell? w _ hx108_1)).trans hx108_1
                replace p108 := eq_true p108
                replace q108 := eq_true q108
                refine start_ (n := 24) (S := fun w' => w'.cell? ⟨gb106, 0, none⟩ = some (.int .i64 ((rd_Rule l1 x23_2).f0)) ∧ w'.cell? ⟨gb106, 1, none⟩ = some (.int .i64 ((rd_Rule l1 x23_2).f1)) ∧ w'.cell? ⟨gb101, 0, none⟩ = some (.string a0_0) ∧ w'.cell? ⟨gb101, 1, none⟩ = some (.int .i64 a0_1) ∧ w'.cell? (ad105.add (((ji28)).toNat * 2)) = some (.int .i64 ((rd_Rule l1 (ji28)).f0)) ∧ w'.cell? ⟨(ad105.add (((ji28)).toNat * 2)).block, (ad105.add (((ji28)).toNat * 2)).off + 1, none⟩ = some (.int .i64 ((rd_Rule l1 (ji28)).f1))) (ds := []) (rA_ [0, 24]) (by kernel_rfl) rfl rfl ⟨(blk_cell BK106.out 0).trans rfl, (blk_cell BK106.out 1).trans rfl, (blk_cell BK101.out 0).trans rfl, (blk_cell BK101.out 1).trans rfl, ((HB.out.cell (World.block_lt_of_cell? w _ hw108_0)).trans hw108_0), ((HB.out.cell (World.block_lt_of_cell? w _ hw108_1)).trans hw108_1)⟩ (fun hHeld => ?_); refine with_tabW spec_IsAnswer.tab8 spec_IsAnswer.bits8 (fun HT_ HW_ => ?_)
                generalize w43.drew = w44 at BK101 BK106 HB hx108_0 hx108_1 hHeld ⊢
                refine pu_ 0 28 [1, 23] ?_
                refine ta6_ 1 29 [2, 22] ?_
                refine pu_ 2 30 [3, 21] ?_
                refine pu_ 3 31 [4, 20] ?_
                refine pu_ 4 32 [5, 19] ?_
                refine ta6_ 5 33 [6, 18] ?_
                refine ta6_ 6 34 [7, 17] ?_
                refine one_ (i := 7) (N := some 35) (rA_ [8, 16]) rfl rfl (one_of HT_.out (by kernel_rfl)) (by decide) (fun K hK => ?_)
                refine goes_ Tryz.func58 (by kernel_rfl) rfl #[.string a0_0, .agg #[.int .i64 ((rd_Rule l1 x23_2).f0), .int .i64 ((rd_Rule l1 x23_2).f1)]] (by rfl) rfl rfl k59_ ?_
                with_reducible refine (spec_pzFits.calls k2 a0_0 ((rd_Rule l1 x23_2).f0) ((rd_Rule l1 x23_2).f1) true _ A25.out).mono ?_
                rintro e w45 ⟨rfl, hb⟩
                refine ⟨_, rfl, ?_⟩
                replace BK101 := BK101.mw hb
                replace BK106 := BK106.mw hb
                replace HB := Aside0.mk (below_step k67_ hb)
                (try clear hb)
                (try clear hb2)
                (try clear hk)
                (try clear hi)
                refine hK.out _ _ ⟨(blk_cell BK106.out 0).trans rfl, (blk_cell BK106.out 1).trans rfl, (blk_cell BK101.out 0).trans rfl, (blk_cell BK101.out 1).trans rfl, ((HB.out.cell (World.block_lt_of_cell? w _ hw108_0)).trans hw108_0), ((HB.out.cell (World.block_lt_of_cell? w _ hw108_1)).trans hw108_1)⟩ (fun hHeld => ?_)
                clear hK K
                refine nm_ 35 ?_
                refine pu_ 8 36 [9, 15] ?_
                refine pu_ 9 37 [10, 14] ?_
                refine pu_ 10 38 [11, 13] ?_
                refine pu_ 11 39 [12, 12] ?_
                refine pu_ 12 40 [13, 11] ?_
                refine pu_ 13 41 [14, 10] ?_
                refine pu_ 14 42 [15, 9] ?_
                refine pu_ 15 43 [16, 8] ?_
                refine pu_ 16 44 [17, 7] ?_
                refine pu_ 17 45 [18, 6] ?_
                refine ta6_ 18 46 [19, 5] ?_
                refine ta6_ 19 47 [20, 4] ?_
                refine one_ (i := 20) (N := some 48) (rA_ [21, 3]) rfl rfl (one_of HT_.out (by kernel_rfl)) (by decide) (fun K hK => ?_)
                refine goes_ Tryz.func59 (by kernel_rfl) rfl #[.agg #[.int .i64 ((rd_Rule l1 (ji28)).f0), .int .i64 ((rd_Rule l1 (ji28)).f1)], .agg #[.int .i64 ((rd_Rule l1 x23_2).f0), .int .i64 ((rd_Rule l1 x23_2).f1)]] (by rfl) rfl rfl (by (try simp only [List.map_toArray, List.map_cons, List.map_nil]); first | done | (simp only [hji28]; rfl) | rfl | (simp only [List.length_drop, List.length_take]; rfl)) ?_
                with_reducible refine (spec_pzLess.calls ((rd_Rule l1 (ji28)).f0) ((rd_Rule l1 (ji28)).f1) ((rd_Rule l1 x23_2).f0) ((rd_Rule l1 x23_2).f1) false _ A31.out).mono ?_
                rintro e w46 ⟨rfl, hb⟩
                refine ⟨_, rfl, ?_⟩
                replace BK101 := BK101.mw hb
                replace BK106 := BK106.mw hb
                replace HB := Aside0.mk (below_step k67_ hb)
                (try clear hb)
                (try clear hb2)
                (try clear hk)
                (try clear hi)
                refine hK.out _ _ ⟨(blk_cell BK106.out 0).trans rfl, (blk_cell BK106.out 1).trans rfl, (blk_cell BK101.out 0).trans rfl, (blk_cell BK101.out 1).trans rfl, ((HB.out.cell (World.block_lt_of_cell? w _ hw108_0)).trans hw108_0), ((HB.out.cell (World.block_lt_of_cell? w _ hw108_1)).trans hw108_1)⟩ (fun hHeld => ?_)
                clear hK K
                refine nm_ 48 ?_
                refine pu_ 21 49 [22, 2] ?_
                refine pu_ 22 50 [23, 1] ?_
                refine pu_ 23 51 [24] ?_
                refine done_ (done_of HT_.out (by kernel_rfl)) ?_
                try go_wp2
                go_ret2
                exact ⟨by first | rfl | (simp [errW_none, errW_some] <;> rfl) | (simp only [← hji28]; first | rfl | (simp [errW_none, errW_some] <;> rfl)) | (simp [*, errW_none, errW_some] <;> rfl), k67_⟩
              ·rw [if_neg c30] at H
               exact absurd H (by simp)
             ·rw [if_neg c29] at H
              exact absurd H (by simp)
            ·rw [if_neg c27] at H
             have c27b0 : decide (0 < x23_2) = false := decide_eq_false c27
             clear c27
             have H' := Aside0.mk H
             clear H
             have p105 : 0 ≤ (x23_2 : Int) := of_decide_eq_true k91_
             have q105 : x23_2 < (l1.length : Int) := of_decide_eq_true k91_
             obtain ⟨ad105, e105, hx105_0, hx105_1⟩ := at_Rule HR1.out x23_2 p105 q105
             cases e105
             replace hx105_0 := (HB.out.cell (World.block_lt_of_cell? w _ hx105_0)).trans hx105_0
             replace hx105_1 := (HB.out.cell (World.block_lt_of_cell? w _ hx105_1)).trans hx105_1
             replace p105 := eq_true p105
             replace q105 := eq_true q105
             try go_wp2_with (first | ((with_reducible refine gate_dst (N := 7) rfl ?_); refine box_event ?hg (N := 7) ?hd (cs := #[.int .i64 0, .int .i64 0]) (t := 33) ?hr ?_; (case hd => rfl); (case hg => rfl); (case hr => exact k94_); intro gb106 hg w47 hbox hb; have BK106 := Aside0.mk (hbox); have GW106 := Aside0.mk ((by rw [hg]; exact (below_size k71_) : w.heap.size ≤ gb106)); have GE106 := Aside0.mk ((by rw [hg]; exact (below_size k71_) : w.heap.size ≤ gb106)); replace HB := Aside0.mk (below_step k71_ hb); have NB101_106 := Aside0.mk (BK101.ne hg); have NB106_101 := Aside0.mk (BK101.ne hg).symm; replace BK101 := BK101.mw hb; clear hb hbox hg; have hnb48 := NB106_101.out; have hnc48 := NB101_106.out; have hcz49_0 : w47.cell? ⟨gb106, 0, none⟩ = some (.int .i64 0) := (blk_cell BK106.out 0).trans rfl; have hcz49_1 : w47.cell? ⟨gb106, 1, none⟩ = some (.int .i64 0) := (blk_cell BK106.out 1).trans rfl; have hfz49_0 := blk_frozen BK106.out 0; have hfz49_1 := blk_frozen BK106.out 1))
             have n0_ : Aside0 (((w47.setCell ⟨gb106, 0, none⟩ (.int .i64 ((rd_Rule l1 x23_2).f0))).setCell ⟨gb106, 1, none⟩ (.int .i64 ((rd_Rule l1 x23_2).f1))).heap[gb101]? = some (.cells #[.string a0_0, .int .i64 a0_1] 23 (0, 0))) := ⟨k21_⟩
             have n1_ : Aside0 (((w47.setCell ⟨gb106, 0, none⟩ (.int .i64 ((rd_Rule l1 x23_2).f0))).setCell ⟨gb106, 1, none⟩ (.int .i64 ((rd_Rule l1 x23_2).f1))).heap[gb106]? = some (.cells #[.int .i64 ((rd_Rule l1 x23_2).f0), .int .i64 ((rd_Rule l1 x23_2).f1)] 33 (0, 0))) := ⟨k11_⟩
             have n2_ : Aside0 (Below w.heap.size w ((w47.setCell ⟨gb106, 0, none⟩ (.int .i64 ((rd_Rule l1 x23_2).f0))).setCell ⟨gb106, 1, none⟩ (.int .i64 ((rd_Rule l1 x23_2).f1)))) := ⟨k67_⟩
             (try clear BK101)
             (try clear BK106)
             (try clear HB)
             generalize ((w47.setCell ⟨gb106, 0, none⟩ (.int .i64 ((rd_Rule l1 x23_2).f0))).setCell ⟨gb106, 1, none⟩ (.int .i64 ((rd_Rule l1 x23_2).f1))) = w50 at n0_ n1_ n2_ ⊢
             have BK101 := n0_
             have BK106 := n1_
             have HB := n2_
             clear n0_ n1_ n2_
             replace BK101 := Aside0.mk (blk_drew BK101.out)
             replace BK106 := Aside0.mk (blk_drew BK106.out)
             replace HB := Aside0.mk (below_drew1 HB.out)
             refine start_ (n := 24) (S := fun w' => w'.cell? ⟨gb106, 0, none⟩ = some (.int .i64 ((rd_Rule l1 x23_2).f0)) ∧ w'.cell? ⟨gb106, 1, none⟩ = some (.int .i64 ((rd_Rule l1 x23_2).f1)) ∧ w'.cell? ⟨gb101, 0, none⟩ = some (.string a0_0) ∧ w'.cell? ⟨gb101, 1, none⟩ = some (.int .i64 a0_1)) (ds := []) (rA_ [0, 24]) (by kernel_rfl) rfl rfl ⟨(blk_cell BK106.out 0).trans rfl, (blk_cell BK106.out 1).trans rfl, (blk_cell BK101.out 0).trans rfl, (blk_cell BK101.out 1).trans rfl⟩ (fun hHeld => ?_); refine with_tabW spec_IsAnswer.tab8 spec_IsAnswer.bits8 (fun HT_ HW_ => ?_)
             generalize w50.drew = w51 at BK101 BK106 HB hHeld ⊢
             refine pu_ 0 28 [1, 23] ?_
             refine ta4_ 1 29 [2, 22] ?_
             refine pu_ 2 30 [3, 21] ?_
             refine pu_ 3 31 [4, 20] ?_
             refine pu_ 4 32 [5, 19] ?_
             refine ta4_ 5 33 [6, 18] ?_
             refine ta4_ 6 34 [7, 17] ?_
             refine one_ (i := 7) (N := some 35) (rA_ [8, 16]) rfl rfl (one_of HT_.out (by kernel_rfl)) (by decide) (fun K hK => ?_)
             refine goes_ Tryz.func58 (by kernel_rfl) rfl #[.string a0_0, .agg #[.int .i64 ((rd_Rule l1 x23_2).f0), .int .i64 ((rd_Rule l1 x23_2).f1)]] (by rfl) rfl rfl k59_ ?_
             with_reducible refine (spec_pzFits.calls k2 a0_0 ((rd_Rule l1 x23_2).f0) ((rd_Rule l1 x23_2).f1) true _ A25.out).mono ?_
             rintro e w52 ⟨rfl, hb⟩
             refine ⟨_, rfl, ?_⟩
             replace BK101 := BK101.mw hb
             replace BK106 := BK106.mw hb
             replace HB := Aside0.mk (below_step k67_ hb)
             (try clear hb)
             (try clear hb2)
             (try clear hk)
             (try clear hi)
             refine hK.out _ _ ⟨(blk_cell BK106.out 0).trans rfl, (blk_cell BK106.out 1).trans rfl, (blk_cell BK101.out 0).trans rfl, (blk_cell BK101.out 1).trans rfl⟩ (fun hHeld => ?_)
             clear hK K
             refine nm_ 35 ?_
             refine pu_ 8 36 [9, 15] ?_
             refine pu_ 9 37 [10, 14] ?_
             refine pu_ 10 38 [11, 13] ?_
             refine pu_ 11 39 [12, 12] ?_
             refine pu_ 12 40 [13, 11] ?_
             refine pu_ 13 41 [14, 10] ?_
             refine pz_ 14 42 [15, 9] ?_
             refine pz_ 15 43 [16, 8] ?_
             refine pz_ 16 44 [17, 7] ?_
             refine pz_ 17 45 [18, 6] ?_
             refine pz_ 18 46 [19, 5] ?_
             refine pz_ 19 47 [20, 4] ?_
             refine pz_ 20 48 [21, 3] ?_
             refine pz_ 21 49 [22, 2] ?_
             refine pu_ 22 50 [23, 1] ?_
             refine pu_ 23 51 [24] ?_
             refine done_ (done_of HT_.out (by kernel_rfl)) ?_
             try go_wp2
             go_roundg k2
             case measure => have := HJ2.out; have := HK2.out; omega
             case rel => exact ⟨(wrap64 (x23_2 + 1)), k92_, H', ⟨by have := HJ2.out; have := HK2.out; omega⟩, ⟨k85_⟩, ⟨k67_⟩⟩
           ·replace c26 := Bool.eq_false_iff.mpr c26
            subst c26
            rw [if_neg (show ¬ (false = true) by decide)] at H
            simp only [Option.some.injEq, Prod.mk.injEq] at H
            obtain ⟨rfl, rfl⟩ := H
            have p105 : 0 ≤ (x23_2 : Int) := of_decide_eq_true k91_
            have q105 : x23_2 < (l1.length : Int) := of_decide_eq_true k91_
            obtain ⟨ad105, e105, hx105_0, hx105_1⟩ := at_Rule HR1.out x23_2 p105 q105
            cases e105
            replace hx105_0 := (HB.out.cell (World.block_lt_of_cell? w _ hx105_0)).trans hx105_0
            replace hx105_1 := (HB.out.cell (World.block_lt_of_cell? w _ hx105_1)).trans hx105_1
            replace p105 := eq_true p105
            replace q105 := eq_true q105
            try go_wp2_with (first | ((with_reducible refine gate_dst (N := 7) rfl ?_); refine box_event ?hg (N := 7) ?hd (cs := #[.int .i64 0, .int .i64 0]) (t := 33) ?hr ?_; (case hd => rfl); (case hg => rfl); (case hr => exact k94_); intro gb106 hg w53 hbox hb; have BK106 := Aside0.mk (hbox); have GW106 := Aside0.mk ((by rw [hg]; exact (below_size k71_) : w.heap.size ≤ gb106)); have GE106 := Aside0.mk ((by rw [hg]; exact (below_size k71_) : w.heap.size ≤ gb106)); replace HB := Aside0.mk (below_step k71_ hb); have NB101_106 := Aside0.mk (BK101.ne hg); have NB106_101 := Aside0.mk (BK101.ne hg).symm; replace BK101 := BK101.mw hb; clear hb hbox hg; have hnb54 := NB106_101.out; have hnc54 := NB101_106.out; have hcz55_0 : w53.cell? ⟨gb106, 0, none⟩ = some (.int .i64 0) := (blk_cell BK106.out 0).trans rfl; have hcz55_1 : w53.cell? ⟨gb106, 1, none⟩ = some (.int .i64 0) := (blk_cell BK106.out 1).trans rfl; have hfz55_0 := blk_frozen BK106.out 0; have hfz55_1 := blk_frozen BK106.out 1))
            have n0_ : Aside0 (((w53.setCell ⟨gb106, 0, none⟩ (.int .i64 ((rd_Rule l1 x23_2).f0))).setCell ⟨gb106, 1, none⟩ (.int .i64 ((rd_Rule l1 x23_2).f1))).heap[gb101]? = some (.cells #[.string a0_0, .int .i64 a0_1] 23 (0, 0))) := ⟨k21_⟩
            have n1_ : Aside0 (((w53.setCell ⟨gb106, 0, none⟩ (.int .i64 ((rd_Rule l1 x23_2).f0))).setCell ⟨gb106, 1, none⟩ (.int .i64 ((rd_Rule l1 x23_2).f1))).heap[gb106]? = some (.cells #[.int .i64 ((rd_Rule l1 x23_2).f0), .int .i64 ((rd_Rule l1 x23_2).f1)] 33 (0, 0))) := ⟨k11_⟩
            have n2_ : Aside0 (Below w.heap.size w ((w53.setCell ⟨gb106, 0, none⟩ (.int .i64 ((rd_Rule l1 x23_2).f0))).setCell ⟨gb106, 1, none⟩ (.int .i64 ((rd_Rule l1 x23_2).f1)))) := ⟨k67_⟩
            (try clear BK101)
            (try clear BK106)
            (try clear HB)
            generalize ((w53.setCell ⟨gb106, 0, none⟩ (.int .i64 ((rd_Rule l1 x23_2).f0))).setCell ⟨gb106, 1, none⟩ (.int .i64 ((rd_Rule l1 x23_2).f1))) = w56 at n0_ n1_ n2_ ⊢
            have BK101 := n0_
            have BK106 := n1_
            have HB := n2_
            clear n0_ n1_ n2_
            replace BK101 := Aside0.mk (blk_drew BK101.out)
            replace BK106 := Aside0.mk (blk_drew BK106.out)
            replace HB := Aside0.mk (below_drew1 HB.out)
            refine start_ (n := 24) (S := fun w' => w'.cell? ⟨gb106, 0, none⟩ = some (.int .i64 ((rd_Rule l1 x23_2).f0)) ∧ w'.cell? ⟨gb106, 1, none⟩ = some (.int .i64 ((rd_Rule l1 x23_2).f1)) ∧ w'.cell? ⟨gb101, 0, none⟩ = some (.string a0_0) ∧ w'.cell? ⟨gb101, 1, none⟩ = some (.int .i64 a0_1)) (ds := []) (rA_ [0, 24]) (by kernel_rfl) rfl rfl ⟨(blk_cell BK106.out 0).trans rfl, (blk_cell BK106.out 1).trans rfl, (blk_cell BK101.out 0).trans rfl, (blk_cell BK101.out 1).trans rfl⟩ (fun hHeld => ?_); refine with_tabW spec_IsAnswer.tab8 spec_IsAnswer.bits8 (fun HT_ HW_ => ?_)
            generalize w56.drew = w57 at BK101 BK106 HB hHeld ⊢
            refine pu_ 0 28 [1, 23] ?_
            refine ta4_ 1 29 [2, 22] ?_
            refine pu_ 2 30 [3, 21] ?_
            refine pu_ 3 31 [4, 20] ?_
            refine pu_ 4 32 [5, 19] ?_
            refine ta4_ 5 33 [6, 18] ?_
            refine ta4_ 6 34 [7, 17] ?_
            refine one_ (i := 7) (N := some 35) (rA_ [8, 16]) rfl rfl (one_of HT_.out (by kernel_rfl)) (by decide) (fun K hK => ?_)
            refine goes_ Tryz.func58 (by kernel_rfl) rfl #[.string a0_0, .agg #[.int .i64 ((rd_Rule l1 x23_2).f0), .int .i64 ((rd_Rule l1 x23_2).f1)]] (by rfl) rfl rfl k59_ ?_
            with_reducible refine (spec_pzFits.calls k2 a0_0 ((rd_Rule l1 x23_2).f0) ((rd_Rule l1 x23_2).f1) false _ A25.out).mono ?_
            rintro e w58 ⟨rfl, hb⟩
            refine ⟨_, rfl, ?_⟩
            replace BK101 := BK101.mw hb
            replace BK106 := BK106.mw hb
            replace HB := Aside0.mk (below_step k67_ hb)
            (try clear hb)
            (try clear hb2)
            (try clear hk)
            (try clear hi)
            refine hK.out _ _ ⟨(blk_cell BK106.out 0).trans rfl, (blk_cell BK106.out 1).trans rfl, (blk_cell BK101.out 0).trans rfl, (blk_cell BK101.out 1).trans rfl⟩ (fun hHeld => ?_)
            clear hK K
            refine nm_ 35 ?_
            refine pu_ 8 36 [9, 15] ?_
            refine pu_ 9 37 [10, 14] ?_
            refine pu_ 10 38 [11, 13] ?_
            refine pz_ 11 39 [12, 12] ?_
            refine pz_ 12 40 [13, 11] ?_
            refine pz_ 13 41 [14, 10] ?_
            refine pz_ 14 42 [15, 9] ?_
            refine pz_ 15 43 [16, 8] ?_
            refine pz_ 16 44 [17, 7] ?_
            refine pz_ 17 45 [18, 6] ?_
            refine pz_ 18 46 [19, 5] ?_
            refine pz_ 19 47 [20, 4] ?_
            refine pz_ 20 48 [21, 3] ?_
            refine pz_ 21 49 [22, 2] ?_
            refine pz_ 22 50 [23, 1] ?_
            refine pu_ 23 51 [24] ?_
            refine done_ (done_of HT_.out (by kernel_rfl)) ?_
            try go_wp2
            go_ret2
            exact ⟨k70_, k67_⟩
         ·rw [if_neg c18] at H
          exact absurd H (by simp)
        ·rw [if_neg c17] at H
         exact absurd H (by simp)
       ·rw [if_neg c16] at H
        have c16b0 : decide (x23_2 < (l1.length : Int)) = false := decide_eq_false c16
        clear c16
        obtain ⟨t104, A59, H⟩ := obnd_ H
        (try dsimp only at H)
        simp only [Option.some.injEq, Prod.mk.injEq] at H
        obtain ⟨rfl, rfl⟩ := H
        have hcz60_0 : wr.cell? ⟨gb101, 0, none⟩ = some (.string a0_0) := (blk_cell BK101.out 0).trans rfl
        have hcz60_1 : wr.cell? ⟨gb101, 1, none⟩ = some (.int .i64 a0_1) := (blk_cell BK101.out 1).trans rfl
        have hfz60_0 := blk_frozen BK101.out 0
        have hfz60_1 := blk_frozen BK101.out 1
        go_wp2_with (first | ((with_reducible refine gate_callee (f := 60) rfl ?_); refine goesL_ (some 56) rfl rfl Tryz.func60 (by kernel_rfl) rfl #[.string a0_0, .slice A1 l1.length c1] rfl k59_ ?_; (with_reducible refine (spec_pzCovers.calls k2 a0_0 _ _ l1 t104 _ ?side1 ?side2 A59.out).mono ?_); (case side1 => exact k48_); (case side2 => exact HC1.out); rintro e w61 ⟨rfl, hb⟩; refine ⟨_, rfl, ?_⟩; replace BK101 := BK101.mw hb; replace HB := Aside0.mk (below_step k71_ hb); (try clear hb)))
        go_ret2
        exact ⟨k70_, k71_⟩
    ·rw [if_neg c14] at H
     have c14b0 : ((l1.length : Int) == a0_1) = false := beq_eq_false_iff_ne.mpr c14
     have c14b1 : ((l1.length : Int) != a0_1) = true := bne_iff_ne.mpr c14
     simp only [Option.some.injEq, Prod.mk.injEq] at H
     obtain ⟨rfl, rfl⟩ := H
     have hcz62_0 : wc.cell? ⟨gb101, 0, none⟩ = some (.string a0_0) := (blk_cell BK101.out 0).trans rfl
     have hcz62_1 : wc.cell? ⟨gb101, 1, none⟩ = some (.int .i64 a0_1) := (blk_cell BK101.out 1).trans rfl
     have hfz62_0 := blk_frozen BK101.out 0
     have hfz62_1 := blk_frozen BK101.out 1
     go_wp2
     go_ret2
     exact ⟨k70_, k71_⟩
end Go.Proofs.YtbnmajedmajfoaaGreatDoor.P
namespace Go.Proofs.YtbnmajedmajfoaaGreatDoor.P
open Go.RowKit Go.Proofs.YtbnmajedmajfoaaGreatDoorW.PrintWords Go.Proofs.YtbnmajedmajfoaaGreatDoorW.PrintLast Go.Proofs.YtbnmajedmajfoaaGreatDoorW.PrintMore
attribute [local go_sem] max2_int min2_int max_two min_two max_three min_three max_four min_four
set_option linter.unusedVariables false
set_option linter.unusedSimpArgs false
def spec_l1Split.l0 : Nat → ByteArray → Int → List ByteArray → Int → Int → Option (List ByteArray)
 | 0, _, _, _, _, _ => none
 | k + 1, x0, x1, x5, x6, x7 => if x7 < (x0.size : Int) then (if 0 ≤ x7 then (if (bt x0 x7) = x1 then (if 0 ≤ x6 then (if x6 ≤ x7 then (if x7 ≤ (x0.size : Int) then (if x5.length < 8796093022208 then (spec_l1Split.l0 k x0 x1 (x5 ++ [x0.extract (x6 : Int).toNat (x7 : Int).toNat]) (wrap64 (x7 + 1)) (wrap64 (x7 + 1))) else (none)) else (none)) else (none)) else (none)) else (spec_l1Split.l0 k x0 x1 x5 x6 (wrap64 (x7 + 1)))) else (none)) else (if 0 ≤ x6 then (if x6 ≤ (x0.size : Int) then (if x5.length < 8796093022208 then (some (x5 ++ [x0.extract (x6 : Int).toNat x0.size])) else (none)) else (none)) else (none))
def spec_l1Split.f (k : Nat) (a0 : ByteArray) (a1 : Int) : Option (List ByteArray) := spec_l1Split.l0 k a0 a1 ([] : List ByteArray) 0 0
set_option maxHeartbeats 8000000 in
set_option maxRecDepth 100000 in
theorem spec_l1Split.calls (k : Nat) (a0 : ByteArray) (a1 : Int) (r : List ByteArray) (w : World) (h : spec_l1Split.f k a0 a1 = some r) :
  Calls Tryz.prog 61 #[.string a0, .int .u8 a1] w fun e w' => ∃ v0_ : Value, e = .returned (v0_) ∧ Kd.R Kd.string 9 w' w.heap.size (fun _ => True) v0_ r ∧ Below w.heap.size w w' := by
 have HB := Aside0.mk (Below.refl w.heap.size w)
 have H : (spec_l1Split.l0 k a0 a1 ([] : List ByteArray) 0 0) = some r := h
 clear h
 have H' := Aside0.mk H
 clear H
 go_enter Tryz.func61, Tryz.ntmps61
 go_wp2
 go_loopg [5, 6, 7] k (fun kq v5 v6 v7 w' => ∃ (x5_1 : List ByteArray) (x6_1 : Int) (x7_1 : Int), v6 = .int .i64 x6_1 ∧ v7 = .int .i64 x7_1 ∧ Aside0 (spec_l1Split.l0 kq a0 a1 x5_1 x6_1 x7_1 = some r) ∧ Aside0 (kq ≤ k) ∧ Aside0 (Kd.R Kd.string 9 w' w.heap.size (fun _ => True) v5 x5_1) ∧ Aside0 (Below w.heap.size w w'))
 case atStart => exact ⟨(([] : List ByteArray)), (0), (0), k92_, k92_, H', ⟨Nat.le_refl _⟩, ⟨k57_⟩, ⟨k74_⟩⟩
 case round =>
  clear H'
  obtain ⟨x5_1, x6_1, x7_1, rfl, rfl, HA, HK1, HO_5, HB⟩ := hrel
  cases gk with
  | zero => exact absurd HA.out (by simp [spec_l1Split.l0])
  | succ k1 =>
   have H := HA.out
   clear HA
   simp only [spec_l1Split.l0] at H
   by_cases c3 : x7_1 < (a0.size : Int)
   ·rw [if_pos c3] at H
    have c3b0 : decide (x7_1 < (a0.size : Int)) = true := decide_eq_true c3
    clear c3
    by_cases c4 : 0 ≤ x7_1
    ·rw [if_pos c4] at H
     have c4b0 : decide (0 ≤ x7_1) = true := decide_eq_true c4
     clear c4
     by_cases c6 : (bt a0 x7_1) = a1
     ·rw [if_pos c6] at H
      have c6b0 : ((bt a0 x7_1) == a1) = true := beq_iff_eq.mpr c6
      have c6b1 : ((bt a0 x7_1) != a1) = false := bne_eq_false_iff_eq.mpr c6
      clear c6
      by_cases c7 : 0 ≤ x6_1
      ·rw [if_pos c7] at H
       have c7b0 := eq_true c7
       have c7b1 : decide (0 ≤ x6_1) = true := decide_eq_true c7
       clear c7
       by_cases c8 : x6_1 ≤ x7_1
       ·rw [if_pos c8] at H
        have c8b0 := eq_true c8
        have c8b1 : decide (x6_1 ≤ x7_1) = true := decide_eq_true c8
        clear c8
        by_cases c9 : x7_1 ≤ (a0.size : Int)
        ·rw [if_pos c9] at H
         have c9b0 := eq_true c9
         have c9b1 : decide (x7_1 ≤ (a0.size : Int)) = true := decide_eq_true c9
         clear c9
         by_cases c10 : x5_1.length < 8796093022208
         ·rw [if_pos c10] at H
          have LMc10 := Aside0.mk c10
          clear c10
          obtain ⟨y101, hy_⟩ : ∃ y_ : List ByteArray, y_ = (x5_1 ++ [a0.extract (x6_1 : Int).toNat (x7_1 : Int).toNat]) := ⟨_, rfl⟩
          replace H : (spec_l1Split.l0 k1 a0 a1 y101 (wrap64 (x7_1 + 1)) (wrap64 (x7_1 + 1))) = some r := k35_
          have Ny101 := Aside0.mk hy_
          clear hy_
          have H' := Aside0.mk H
          clear H
          have p5 : 0 ≤ (x7_1 : Int) := of_decide_eq_true k91_
          have q5 : x7_1 < (a0.size : Int) := of_decide_eq_true k91_
          have hx5 := bt_at a0 x7_1
          replace p5 := eq_true p5
          replace q5 := eq_true q5
          go_wp2_with (first | ((with_reducible refine gate_builtin (b := .append) (xs := #[.tmp 19, .tmp 24]) rfl ?_); at_builtin; refine Kd.R_append Kd.string (w0 := w) w.heap.size rfl (.tmp 19) (.tmp 24) 69 9 (.string ⟨#[]⟩) 16 rfl Tryz.underlying69 info9 rfl (by decide) (by omega) u5 x5_1 (a0.extract (x6_1 : Int).toNat (x7_1 : Int).toNat) [.string (a0.extract (x6_1 : Int).toNat (x7_1 : Int).toNat)] (fun _ => True) (fun _ => False) rfl rfl ?aP (fun _ hk => hk.elim) ?aF ?aO ?aB ?aS ?aL ?_; (case aP => exact rfl); (case aB => exact k74_); (case aF => exact (fun _ _ => trivial)); (case aO => exact (by apply_rules only [HO_5.out, Kd.R_alloc, Kd.R_drewN, Kd.R_drew])); (case aS => exact (below_size k74_)); (case aL => have := LMc10.out; omega); intro v102 w11 ho hb hg hat; rw [← Ny101.out] at ho; replace HB := Aside0.mk (hb); have HO103 := Aside0.mk (ho); clear HO_5; clear ho hb hg hat))
          go_roundg k1
          case measure => have := HK1.out; omega
          case rel => exact ⟨(y101), (wrap64 (x7_1 + 1)), (wrap64 (x7_1 + 1)), k92_, k92_, H', ⟨k96_⟩, ⟨by apply_rules only [HO103.out, Kd.R_alloc, Kd.R_drewN, Kd.R_drew]⟩, ⟨k74_⟩⟩
         ·rw [if_neg c10] at H
          exact absurd H (by simp)
        ·rw [if_neg c9] at H
         exact absurd H (by simp)
       ·rw [if_neg c8] at H
        exact absurd H (by simp)
      ·rw [if_neg c7] at H
       exact absurd H (by simp)
     ·rw [if_neg c6] at H
      have c6b0 : ((bt a0 x7_1) == a1) = false := beq_eq_false_iff_ne.mpr c6
      have c6b1 : ((bt a0 x7_1) != a1) = true := bne_iff_ne.mpr c6
      have H' := Aside0.mk H
      clear H
      have p5 : 0 ≤ (x7_1 : Int) := of_decide_eq_true k91_
      have q5 : x7_1 < (a0.size : Int) := of_decide_eq_true k91_
      have hx5 := bt_at a0 x7_1
      replace p5 := eq_true p5
      replace q5 := eq_true q5
      go_wp2
      go_roundg k1
      case measure => have := HK1.out; omega
      case rel => exact ⟨(x5_1), (x6_1), (wrap64 (x7_1 + 1)), k92_, k92_, H', ⟨k96_⟩, ⟨by apply_rules only [HO_5.out, Kd.R_alloc, Kd.R_drewN, Kd.R_drew]⟩, ⟨k74_⟩⟩
    ·rw [if_neg c4] at H
     exact absurd H (by simp)
   ·rw [if_neg c3] at H
    have c3b0 : decide (x7_1 < (a0.size : Int)) = false := decide_eq_false c3
    clear c3
    by_cases c12 : 0 ≤ x6_1
    ·rw [if_pos c12] at H
     have c12b0 := eq_true c12
     have c12b1 : decide (0 ≤ x6_1) = true := decide_eq_true c12
     clear c12
     by_cases c13 : x6_1 ≤ (a0.size : Int)
     ·rw [if_pos c13] at H
      have c13b0 := eq_true c13
      have c13b1 : decide (x6_1 ≤ (a0.size : Int)) = true := decide_eq_true c13
      clear c13
      by_cases c14 : x5_1.length < 8796093022208
      ·rw [if_pos c14] at H
       have LMc14 := Aside0.mk c14
       clear c14
       obtain ⟨y104, hy_⟩ : ∃ y_ : List ByteArray, y_ = (x5_1 ++ [a0.extract (x6_1 : Int).toNat a0.size]) := ⟨_, rfl⟩
       replace H : (some y104) = some r := k35_
       have Ny104 := Aside0.mk hy_
       clear hy_
       obtain rfl := Option.some.inj H
       go_wp2_with (first | ((with_reducible refine gate_builtin (b := .append) (xs := #[.tmp 28, .tmp 32]) rfl ?_); at_builtin; refine Kd.R_append Kd.string (w0 := w) w.heap.size rfl (.tmp 28) (.tmp 32) 69 9 (.string ⟨#[]⟩) 16 rfl Tryz.underlying69 info9 rfl (by decide) (by omega) u5 x5_1 (a0.extract (x6_1 : Int).toNat a0.size) [.string (a0.extract (x6_1 : Int).toNat a0.size)] (fun _ => True) (fun _ => False) rfl rfl ?aP (fun _ hk => hk.elim) ?aF ?aO ?aB ?aS ?aL ?_; (case aP => exact rfl); (case aB => exact k74_); (case aF => exact (fun _ _ => trivial)); (case aO => exact (by apply_rules only [HO_5.out, Kd.R_alloc, Kd.R_drewN, Kd.R_drew])); (case aS => exact (below_size k74_)); (case aL => have := LMc14.out; omega); intro v105 w15 ho hb hg hat; rw [← Ny104.out] at ho; replace HB := Aside0.mk (hb); have HO106 := Aside0.mk (ho); clear HO_5; clear ho hb hg hat))
       go_ret
       exact ⟨_, k70_, by (with_reducible repeat (first | apply Kd.R_alloc | apply Kd.R_drewN | apply Kd.R_drew)); exact HO106.out, k74_⟩
      ·rw [if_neg c14] at H
       exact absurd H (by simp)
     ·rw [if_neg c13] at H
      exact absurd H (by simp)
    ·rw [if_neg c12] at H
     exact absurd H (by simp)
end Go.Proofs.YtbnmajedmajfoaaGreatDoor.P
namespace Go.Proofs.YtbnmajedmajfoaaGreatDoor.P
open Go.RowKit Go.Proofs.YtbnmajedmajfoaaGreatDoorW.PrintWords Go.Proofs.YtbnmajedmajfoaaGreatDoorW.PrintLast Go.Proofs.YtbnmajedmajfoaaGreatDoorW.PrintMore
attribute [local go_sem] max2_int min2_int max_two min_two max_three min_three max_four min_four
set_option linter.unusedVariables false
set_option linter.unusedSimpArgs false
mutual
def spec_l1Read.j0 : Nat → ByteArray → Bool → Option (Int)
 | 0, _, _ => none
 | k + 1, x0, x18 => if x18 = true then (some (-1)) else (spec_l1Read.l0 k x0 0 0)
def spec_l1Read.l0 : Nat → ByteArray → Int → Int → Option (Int)
 | 0, _, _, _ => none
 | k + 1, x0, x3, x4 => if x4 < (x0.size : Int) then (if 0 ≤ x4 then (if (bt x0 x4) < 48 then (some (-1)) else (if (bt x0 x4) > 57 then (some (-1)) else (spec_l1Read.l0 k x0 (wrap64 ((wrap64 (10 * x3)) + (((bt x0 x4) - 48) % 256))) (wrap64 (x4 + 1))))) else (none)) else (some x3)
end
def spec_l1Read.f (k : Nat) (a0 : ByteArray) : Option (Int) := (spec_l1In.f (a0.size : Int) 1 6).bind fun t101 => (if t101 = true then (if 0 < (a0.size : Int) then (if (bt a0 0) = 48 then (spec_l1Read.j0 k a0 (decide ((a0.size : Int) > 1))) else (spec_l1Read.j0 k a0 false)) else (none)) else (spec_l1Read.j0 k a0 true))
set_option maxHeartbeats 8000000 in
set_option maxRecDepth 100000 in
theorem spec_l1Read.calls (k : Nat) (a0 : ByteArray) (r : Int) (w : World) (h : spec_l1Read.f k a0 = some r) :
  Calls Tryz.prog 62 #[.string a0] w fun e w' => e = .returned (.int .i64 r) ∧ Drawn0 w w' := by
 have H : ((spec_l1In.f (a0.size : Int) 1 6).bind fun t101 => (if t101 = true then (if 0 < (a0.size : Int) then (if (bt a0 0) = 48 then (spec_l1Read.j0 k a0 (decide ((a0.size : Int) > 1))) else (spec_l1Read.j0 k a0 false)) else (none)) else (spec_l1Read.j0 k a0 true))) = some r := h
 clear h
 have HC2 := Aside0.mk H
 clear H
 go_enter Tryz.func62, Tryz.ntmps62
 go_upto_region 1 with (fail)
 go_cut [18] (fun v18 wc => ∃ (kq : Nat) (x18_1 : Bool), v18 = .bool x18_1 ∧ Aside0 (spec_l1Read.j0 kq a0 x18_1 = some r) ∧ Aside0 (kq ≤ k) ∧ Drawn0 w wc)
 case first =>
  have H := HC2.out
  clear HC2
  obtain ⟨t101, A3, H⟩ := obnd_ H
  (try dsimp only at H)
  by_cases c4 : t101 = true
  ·subst c4
   rw [if_pos rfl] at H
   by_cases c5 : 0 < (a0.size : Int)
   ·rw [if_pos c5] at H
    have c5b0 : decide (0 < (a0.size : Int)) = true := decide_eq_true c5
    have c5b1 : decide (0 < a0.size) = true := decide_eq_true (by omega)
    clear c5
    (first | rw [c5b0] | rw [c5b1] | (simp only [i64_w, i32_w]; rw [c5b0]) | skip)
    by_cases c7 : (bt a0 0) = 48
    ·rw [if_pos c7] at H
     have c7b0 : ((bt a0 0) == 48) = true := beq_iff_eq.mpr c7
     have c7b1 : ((bt a0 0) != 48) = false := bne_eq_false_iff_eq.mpr c7
     clear c7
     have H' := Aside0.mk H
     clear H
     go_wp2_with (first | ((with_reducible refine gate_callee (f := 75) rfl ?_); refine goesL_ (some 7) rfl rfl Tryz.func75 (by kernel_rfl) rfl #[.int .i64 (a0.size : Int), .int .i64 1, .int .i64 6] rfl k59_ ?_; (with_reducible refine (spec_l1In.calls (a0.size : Int) 1 6 true _ A3.out).mono ?_); rintro e w' ⟨rfl, ⟨nd, rfl⟩⟩; refine ⟨_, rfl, ?_⟩; have p6 : 0 ≤ (0 : Int) := (by omega); have q6 : 0 < a0.size := (by have : (0 : Int) < (a0.size : Int) := of_decide_eq_true k91_; omega); have hx6 : ∀ h : 0 < a0.size, ((a0[0]'h).toNat : Int) = bt a0 0 := bt_at a0 0; clear p6; have qi6 : (0 < (a0.size : Int)) = True := eq_true (of_decide_eq_true k91_); replace q6 := eq_true q6))
     go_meet
     case rel => exact ⟨_, (decide ((a0.size : Int) > 1)), k92_, H', ⟨k95_⟩, k90_⟩
    ·rw [if_neg c7] at H
     have c7b0 : ((bt a0 0) == 48) = false := beq_eq_false_iff_ne.mpr c7
     have c7b1 : ((bt a0 0) != 48) = true := bne_iff_ne.mpr c7
     have H' := Aside0.mk H
     clear H
     go_wp2_with (first | ((with_reducible refine gate_callee (f := 75) rfl ?_); refine goesL_ (some 7) rfl rfl Tryz.func75 (by kernel_rfl) rfl #[.int .i64 (a0.size : Int), .int .i64 1, .int .i64 6] rfl k59_ ?_; (with_reducible refine (spec_l1In.calls (a0.size : Int) 1 6 true _ A3.out).mono ?_); rintro e w' ⟨rfl, ⟨nd, rfl⟩⟩; refine ⟨_, rfl, ?_⟩; have p6 : 0 ≤ (0 : Int) := (by omega); have q6 : 0 < a0.size := (by have : (0 : Int) < (a0.size : Int) := of_decide_eq_true k91_; omega); have hx6 : ∀ h : 0 < a0.size, ((a0[0]'h).toNat : Int) = bt a0 0 := bt_at a0 0; clear p6; have qi6 : (0 < (a0.size : Int)) = True := eq_true (of_decide_eq_true k91_); replace q6 := eq_true q6))
     go_meet
     case rel => exact ⟨_, (false), k92_, H', ⟨k95_⟩, k90_⟩
   ·rw [if_neg c5] at H
    exact absurd H (by simp)
  ·replace c4 := Bool.eq_false_iff.mpr c4
   subst c4
   rw [if_neg (show ¬ (false = true) by decide)] at H
   have H' := Aside0.mk H
   clear H
   go_wp2_with (first | ((with_reducible refine gate_callee (f := 75) rfl ?_); refine goesL_ (some 7) rfl rfl Tryz.func75 (by kernel_rfl) rfl #[.int .i64 (a0.size : Int), .int .i64 1, .int .i64 6] rfl k59_ ?_; (with_reducible refine (spec_l1In.calls (a0.size : Int) 1 6 false _ A3.out).mono ?_); rintro e w' ⟨rfl, ⟨nd, rfl⟩⟩; refine ⟨_, rfl, ?_⟩))
   go_meet
   case rel => exact ⟨_, (true), k92_, H', ⟨k95_⟩, k90_⟩
 case rest =>
  clear HC2
  obtain ⟨kq, x18_1, rfl, HA, HJ1, ⟨mc1, rfl⟩⟩ := hcut
  cases kq with
  | zero => exact absurd HA.out (by simp [spec_l1Read.j0])
  | succ kj1 =>
   have H := HA.out
   clear HA
   simp only [spec_l1Read.j0] at H
   by_cases c8 : x18_1 = true
   ·subst c8
    rw [if_pos rfl] at H
    obtain rfl := Option.some.inj H
    go_wp2
    go_ret
    exact ⟨k92_, k90_⟩
   ·replace c8 := Bool.eq_false_iff.mpr c8
    subst c8
    rw [if_neg (show ¬ (false = true) by decide)] at H
    have H' := Aside0.mk H
    clear H
    go_wp2
    go_loopg [3, 4] kj1 (fun kq v3 v4 w' => ∃ (x3_2 : Int) (x4_2 : Int), v3 = .int .i64 x3_2 ∧ v4 = .int .i64 x4_2 ∧ Aside0 (spec_l1Read.l0 kq a0 x3_2 x4_2 = some r) ∧ Aside0 (kq ≤ kj1) ∧ Drawn0 w w')
    case atStart => exact ⟨(0), (0), k92_, k92_, H', ⟨Nat.le_refl _⟩, k90_⟩
    case round =>
     clear H'
     (try clear c8)
     obtain ⟨x3_2, x4_2, rfl, rfl, HA, HK2, ⟨m2, rfl⟩⟩ := hrel
     cases gk with
     | zero => exact absurd HA.out (by simp [spec_l1Read.l0])
     | succ k2 =>
      have H := HA.out
      clear HA
      simp only [spec_l1Read.l0] at H
      by_cases c9 : x4_2 < (a0.size : Int)
      ·rw [if_pos c9] at H
       have c9b0 : decide (x4_2 < (a0.size : Int)) = true := decide_eq_true c9
       clear c9
       by_cases c10 : 0 ≤ x4_2
       ·rw [if_pos c10] at H
        have c10b0 : decide (0 ≤ x4_2) = true := decide_eq_true c10
        clear c10
        by_cases c12 : (bt a0 x4_2) < 48
        ·rw [if_pos c12] at H
         have c12b0 : decide ((bt a0 x4_2) < 48) = true := decide_eq_true c12
         clear c12
         obtain rfl := Option.some.inj H
         have p11 : 0 ≤ (x4_2 : Int) := of_decide_eq_true k91_
         have q11 : x4_2 < (a0.size : Int) := of_decide_eq_true k91_
         have hx11 := bt_at a0 x4_2
         replace p11 := eq_true p11
         replace q11 := eq_true q11
         go_wp2
         go_ret
         exact ⟨k92_, k90_⟩
        ·rw [if_neg c12] at H
         have c12b0 : decide ((bt a0 x4_2) < 48) = false := decide_eq_false c12
         clear c12
         by_cases c14 : (bt a0 x4_2) > 57
         ·rw [if_pos c14] at H
          have c14b0 : decide (57 < (bt a0 x4_2)) = true := decide_eq_true c14
          clear c14
          obtain rfl := Option.some.inj H
          have p11 : 0 ≤ (x4_2 : Int) := of_decide_eq_true k91_
          have q11 : x4_2 < (a0.size : Int) := of_decide_eq_true k91_
          have hx11 := bt_at a0 x4_2
          replace p11 := eq_true p11
          replace q11 := eq_true q11
          have p13 : 0 ≤ (x4_2 : Int) := of_decide_eq_true k91_
          have q13 : x4_2 < (a0.size : Int) := of_decide_eq_true k91_
          have hx13 := bt_at a0 x4_2
          replace p13 := eq_true p13
          replace q13 := eq_true q13
          go_wp2
          go_ret
          exact ⟨k92_, k90_⟩
         ·rw [if_neg c14] at H
          have c14b0 : decide (57 < (bt a0 x4_2)) = false := decide_eq_false c14
          clear c14
          have H' := Aside0.mk H
          clear H
          have p11 : 0 ≤ (x4_2 : Int) := of_decide_eq_true k91_
          have q11 : x4_2 < (a0.size : Int) := of_decide_eq_true k91_
          have hx11 := bt_at a0 x4_2
          replace p11 := eq_true p11
          replace q11 := eq_true q11
          have p13 : 0 ≤ (x4_2 : Int) := of_decide_eq_true k91_
          have q13 : x4_2 < (a0.size : Int) := of_decide_eq_true k91_
          have hx13 := bt_at a0 x4_2
          replace p13 := eq_true p13
          replace q13 := eq_true q13
          have p15 : 0 ≤ (x4_2 : Int) := of_decide_eq_true k91_
          have q15 : x4_2 < (a0.size : Int) := of_decide_eq_true k91_
          have hx15 := bt_at a0 x4_2
          replace p15 := eq_true p15
          replace q15 := eq_true q15
          go_wp2
          go_roundg k2
          case measure => have := HJ1.out; have := HK2.out; omega
          case rel => exact ⟨(wrap64 ((wrap64 (10 * x3_2)) + (((bt a0 x4_2) - 48) % 256))), (wrap64 (x4_2 + 1)), k92_, k92_, H', ⟨by have := HJ1.out; have := HK2.out; omega⟩, k90_⟩
       ·rw [if_neg c10] at H
        exact absurd H (by simp)
      ·rw [if_neg c9] at H
       have c9b0 : decide (x4_2 < (a0.size : Int)) = false := decide_eq_false c9
       clear c9
       obtain rfl := Option.some.inj H
       go_wp2
       go_ret
       exact ⟨k92_, k90_⟩
end Go.Proofs.YtbnmajedmajfoaaGreatDoor.P
namespace Go.Proofs.YtbnmajedmajfoaaGreatDoor.P
open Go.RowKit Go.Proofs.YtbnmajedmajfoaaGreatDoorW.PrintWords Go.Proofs.YtbnmajedmajfoaaGreatDoorW.PrintLast Go.Proofs.YtbnmajedmajfoaaGreatDoorW.PrintMore
attribute [local go_sem] max2_int min2_int max_two min_two max_three min_three max_four min_four
set_option linter.unusedVariables false
set_option linter.unusedSimpArgs false
def spec_ParsePuzzle.j0 : Nat → List ByteArray → Bool → Option (ByteArray × Int × Bool)
 | 0, _, _ => none
 | k + 1, x4, x15 => if x15 = true then (some ((⟨#[]⟩ : ByteArray), 0, false)) else (if 0 < (x4.length : Int) then (if 1 < (x4.length : Int) then ((spec_l1Read.f k (rdOf ByteArray.empty x4 1)).bind fun t107 => ((spec_pzGood.f k (rdOf ByteArray.empty x4 0) t107).bind fun t109 => (if t109 = true then (some (rdOf ByteArray.empty x4 0, t107, true)) else (some ((⟨#[]⟩ : ByteArray), 0, false))))) else (none)) else (none))
def spec_ParsePuzzle.f (k : Nat) (a0 : ByteArray) : Option (ByteArray × Int × Bool) := (spec_l1Split.f k a0 58).bind fun t102 => (if (a0.size : Int) > 50 then (spec_ParsePuzzle.j0 k t102 true) else (spec_ParsePuzzle.j0 k t102 ((t102.length : Int) != 2)))
def spec_ParsePuzzle.T4 : Bool × List (List Nat × List Nat) := (true, [([], []), ([0], [0]), ([1], [1]), ([], []), ([3], [3]), ([4], [4]), ([5], [5]), ([2, 6], [2, 6]), ([], []), ([8, 7, 6, 0, 1, 2, 3, 4, 5, 6, 7, 8], [7, 8])])
def spec_ParsePuzzle.B4 : List Nat := [0, 1, 3, 0, 8, 24, 56, 127, 0, 511]
theorem spec_ParsePuzzle.tab4 : rtab .any (opsOf Tryz.f30 4) = spec_ParsePuzzle.T4 := by kernel_rfl
theorem spec_ParsePuzzle.bits4 : waitsOk spec_ParsePuzzle.T4.2 spec_ParsePuzzle.B4 = true := by kernel_rfl
set_option maxHeartbeats 8000000 in
set_option maxRecDepth 100000 in
theorem spec_ParsePuzzle.calls (k : Nat) (a0 : ByteArray) (r1 : ByteArray) (r2 : Int) (r3 : Bool) (w : World) (h : spec_ParsePuzzle.f k a0 = some (r1, r2, r3)) :
  Calls Tryz.prog 30 #[.string a0] w fun e w' => e = .returned (.tuple #[.agg #[.string r1, .int .i64 r2], .bool r3]) ∧ Below w.heap.size w w' := by
 have hu23 := Tryz.underlying23
 have HB := Aside0.mk (Below.refl w.heap.size w)
 have H : ((spec_l1Split.f k a0 58).bind fun t102 => (if (a0.size : Int) > 50 then (spec_ParsePuzzle.j0 k t102 true) else (spec_ParsePuzzle.j0 k t102 ((t102.length : Int) != 2)))) = some (r1, r2, r3) := h
 clear h
 obtain ⟨t102, A2, H⟩ := obnd_ H
 (try dsimp only at H)
 have HC3 := Aside0.mk H
 clear H
 go_enter Tryz.func30, Tryz.ntmps30
 go_upto_region 2 with (first | ((with_reducible refine gate_dst (N := 2) rfl ?_); (try (refine gate_guard (by rfl) ?_; dsimp only)); refine box_event ?hg (N := 2) ?hd (cs := #[.string (⟨#[]⟩ : ByteArray), .int .i64 0]) (t := 23) ?hr ?_; (case hd => rfl); (case hg => rfl); (case hr => exact k94_); intro gb101 hg w4 hbox hb; have BK101 := Aside0.mk (hbox); have GW101 := Aside0.mk (HB.ge hg); have GE101 := Aside0.mk (HB.ge hg); replace HB := HB.mw hb; clear hb hbox hg) | ((with_reducible refine gate_callee (f := 61) rfl ?_); refine goesL_ (some 7) rfl rfl Tryz.func61 (by kernel_rfl) rfl #[.string a0, .int .u8 58] rfl k59_ ?_; (with_reducible refine (spec_l1Split.calls k a0 58 t102 _ A2.out).mono ?_); rintro e w5 ⟨v103, rfl, ho0, hb⟩; refine ⟨_, rfl, ?_⟩; have HO104 := Aside0.mk (Kd.R_lower ho0 (below_size k71_)); replace BK101 := Aside0.mk (blk_below k85_ hb); replace HB := Aside0.mk (below_step k71_ hb); (try clear hb ho0)))
 (try simp only [Act.put, List.setIfInBounds_toArray, List.set_cons_zero, List.set_cons_succ])
 go_cut [15] (fun v15 wc => ∃ (kq : Nat) (x15_2 : Bool), v15 = .bool x15_2 ∧ Aside0 (spec_ParsePuzzle.j0 kq t102 x15_2 = some (r1, r2, r3)) ∧ Aside0 (kq ≤ k) ∧ Aside0 (Kd.R Kd.string 9 wc w.heap.size (fun _ => True) v103 t102) ∧ Aside0 (wc.heap[gb101]? = some (.cells #[.string (⟨#[]⟩ : ByteArray), .int .i64 0] 23 (0, 0))) ∧ Aside0 (Below w.heap.size w wc))
 case first =>
  have H := HC3.out
  clear HC3
  by_cases c6 : (a0.size : Int) > 50
  ·rw [if_pos c6] at H
   have c6b0 : decide (50 < (a0.size : Int)) = true := decide_eq_true c6
   have c6b1 : decide (50 < a0.size) = true := decide_eq_true (by omega)
   clear c6
   (first | rw [c6b0] | rw [c6b1] | (simp only [i64_w, i32_w]; rw [c6b0]) | skip)
   have H' := Aside0.mk H
   clear H
   go_wp2
   go_meet
   case rel => exact ⟨_, (true), k92_, H', ⟨k95_⟩, ⟨by apply_rules only [HO104.out, Kd.R_alloc, Kd.R_drewN, Kd.R_drew]⟩, ⟨k85_⟩, ⟨k71_⟩⟩
  ·rw [if_neg c6] at H
   have c6b0 : decide (50 < (a0.size : Int)) = false := decide_eq_false c6
   have c6b1 : decide (50 < a0.size) = false := decide_eq_false (by omega)
   clear c6
   (first | rw [c6b0] | rw [c6b1] | (simp only [i64_w, i32_w]; rw [c6b0]) | skip)
   have H' := Aside0.mk H
   clear H
   obtain ⟨Ao7, co7, eo7⟩ := Kd.R_slice HO104.out
   subst eo7
   go_wp2
   go_meet
   case rel => exact ⟨_, (((t102.length : Int) != 2)), k92_, H', ⟨k95_⟩, ⟨by apply_rules only [HO104.out, Kd.R_alloc, Kd.R_drewN, Kd.R_drew]⟩, ⟨k85_⟩, ⟨k71_⟩⟩
 case rest =>
  clear HC3
  obtain ⟨kq, x15_2, rfl, HA, HJ2, HO_4, BK101, HB⟩ := hcut
  cases kq with
  | zero => exact absurd HA.out (by simp [spec_ParsePuzzle.j0])
  | succ kj2 =>
   have H := HA.out
   clear HA
   simp only [spec_ParsePuzzle.j0] at H
   by_cases c8 : x15_2 = true
   ·subst c8
    rw [if_pos rfl] at H
    simp only [Option.some.injEq, Prod.mk.injEq] at H
    obtain ⟨rfl, rfl, rfl⟩ := H
    have hcz9_0 : wc.cell? ⟨gb101, 0, none⟩ = some (.string (⟨#[]⟩ : ByteArray)) := (blk_cell BK101.out 0).trans rfl
    have hcz9_1 : wc.cell? ⟨gb101, 1, none⟩ = some (.int .i64 0) := (blk_cell BK101.out 1).trans rfl
    have hfz9_0 := blk_frozen BK101.out 0
    have hfz9_1 := blk_frozen BK101.out 1
    go_wp2
    refine bodyPost_ret (results_ct rfl _ _ gb101 23 #[.string (⟨#[]⟩ : ByteArray), .int .i64 0] (0, 0) _ rfl k7_ Tryz.underlying23 rfl (by kernel_rfl)) rfl ?_
    exact ⟨k70_, k71_⟩
   ·replace c8 := Bool.eq_false_iff.mpr c8
    subst c8
    rw [if_neg (show ¬ (false = true) by decide)] at H
    by_cases c10 : 0 < (t102.length : Int)
    ·rw [if_pos c10] at H
     have c10b0 : decide (0 < (t102.length : Int)) = true := decide_eq_true c10
     have c10b1 : decide (0 < t102.length) = true := decide_eq_true (by omega)
     clear c10
     by_cases c11 : 1 < (t102.length : Int)
     ·rw [if_pos c11] at H
      have c11b0 : decide (1 < (t102.length : Int)) = true := decide_eq_true c11
      have c11b1 : decide (1 < t102.length) = true := decide_eq_true (by omega)
      clear c11
      obtain ⟨t107, A12, H⟩ := obnd_ H
      (try dsimp only at H)
      obtain ⟨t109, A13, H⟩ := obnd_ H
      (try dsimp only at H)
      by_cases c14 : t109 = true
      ·subst c14
       rw [if_pos rfl] at H
       simp only [Option.some.injEq, Prod.mk.injEq] at H
       obtain ⟨rfl, rfl, rfl⟩ := H
       try go_wp2
       replace HO_4 := Aside0.mk (Kd.R_drew HO_4.out)
       replace BK101 := Aside0.mk (blk_drew BK101.out)
       replace HB := Aside0.mk (below_drew1 HB.out)
       obtain ⟨Ao16, co16, eo16⟩ := Kd.R_slice HO_4.out
       (first | subst eo16 | (injection eo16 with f1_ f2_ f3_; have f4_ := f1_.symm; have f5_ := f3_.symm; clear f1_ f2_ f3_; subst f4_; subst f5_))
       have p105 : 0 ≤ (0 : Int) := (by omega)
       have q105 : 0 < (t102.length : Int) := of_decide_eq_true k91_
       obtain ⟨ad105, e105, hx105_0⟩ := Kd.at_string (Kd.R_reads' HO_4.out).2.2 0 p105 q105
       cases e105
       have qi105 : (0 < t102.length) = True := eq_true (by omega)
       (try rw [show ((0 : Int)).toNat = 0 from rfl] at hx105_0)
       (try rw [Addr.add_zero'] at hx105_0)
       replace p105 := eq_true p105
       replace q105 := eq_true q105
       have p106 : 0 ≤ (1 : Int) := (by omega)
       have q106 : 1 < (t102.length : Int) := of_decide_eq_true k91_
       obtain ⟨ad106, e106, hx106_0⟩ := Kd.at_string (Kd.R_reads' HO_4.out).2.2 1 p106 q106
       obtain rfl : ad105 = ad106 := (by injection e106)
       (try simp only [show (1 : Int).toNat = 1 from rfl, Nat.reduceMul, Nat.reduceEqDiff, Go.Addr.add, ↓reduceIte] at hx106_0)
       have qi106 : (1 < t102.length) = True := eq_true (by omega)
       (try rw [show ((1 : Int)).toNat = 1 from rfl] at hx106_0)
       replace p106 := eq_true p106
       replace q106 := eq_true q106
       refine start_ (n := 10) (S := fun w' => w'.cell? ad105 = some (.string (rdOf ByteArray.empty t102 0)) ∧ w'.cell? ⟨ad105.block, ad105.off + 1, none⟩ = some (.string (rdOf ByteArray.empty t102 1))) (ds := []) (rA_ [0, 10]) (by kernel_rfl) rfl rfl ⟨hx105_0, hx106_0⟩ (fun hHeld => ?_); refine with_tabW spec_ParsePuzzle.tab4 spec_ParsePuzzle.bits4 (fun HT_ HW_ => ?_)
       generalize wc.drew = w15 at HO_4 BK101 HB hx105_0 hx106_0 hHeld ⊢
       refine pu_ 0 17 [1, 9] ?_
       refine pu_ 1 18 [2, 8] ?_
       refine pu_ 3 20 [2, 1, 1, 6] ?_
       refine pu_ 4 21 [2, 1, 2, 5] ?_
       refine ta2_ 2 19 [5, 5] ?_
       refine ta2_ 5 22 [6, 4] ?_
       refine join_ (σ := Nat) 1 (rA_ [9, 1]) (fun s_ => [(23, .int .i64 t107), (5, .pointer (some ⟨s_, 0, none⟩)), (24, .agg #[.string (rdOf ByteArray.empty t102 0), .int .i64 t107])]) (fun s_ w' => (w'.cell? ad105 = some (.string (rdOf ByteArray.empty t102 0)) ∧ w'.cell? ⟨ad105.block, ad105.off + 1, none⟩ = some (.string (rdOf ByteArray.empty t102 1))) ∧ (Kd.R Kd.string 9 w' w.heap.size (fun _ => True) (.slice (some ad105) t102.length co16) t102) ∧ (w'.heap[gb101]? = some (.cells #[.string (⟨#[]⟩ : ByteArray), .int .i64 0] 23 (0, 0))) ∧ (w'.heap[s_]? = some (.cells #[.string (⟨#[]⟩ : ByteArray), .int .i64 0] 23 (0, 0))) ∧ (w.heap.size ≤ s_) ∧ (w.heap.size ≤ s_) ∧ (gb101 ≠ s_) ∧ (s_ ≠ gb101) ∧ (Below w.heap.size w w')) ?_ ?_
       rotate_left
       ·intro hCont
        refine two_ (i := 6) (j := 8) (Ni := some 23) (Nj := some 5) (rA_ [7, 3]) (rA_ [6, 2, 1, 1]) rfl rfl rfl rfl (two_of HT_.out (by kernel_rfl)) (by decide) (by decide) (fun K hK => ?_) (fun K hK => ?_)
        ·skip
         refine goes_ Tryz.func62 (by kernel_rfl) rfl #[.string (rdOf ByteArray.empty t102 1)] (by rfl) rfl rfl k59_ ?_
         with_reducible refine (spec_l1Read.calls kj2 (rdOf ByteArray.empty t102 1) t107 _ A12.out).mono ?_
         rintro e w' ⟨rfl, ⟨nd, rfl⟩⟩
         refine ⟨_, rfl, ?_⟩
         refine hK.out _ _ ⟨hHeld.1, hHeld.2⟩ (fun hHeld => ?_)
         clear hK K
         refine nm_ 23 ?_
         refine pu_ 7 24 [8, 2] ?_
         refine one_ (i := 8) (N := some 5) (rA_ [9, 1]) rfl rfl (one_of HT_.out (by kernel_rfl)) (by decide) (fun K hK => ?_)
         refine box_step ?hg (N := 5) ?hd (cs := #[.string (⟨#[]⟩ : ByteArray), .int .i64 0]) (t := 23) ?hr ?_; (case hd => rfl); (case hg => rfl); (case hr => exact k94_)
         intro gb108 hg w17 hbox hb
         have HS0_ := (hb.cell (World.block_lt_of_cell? _ _ (hHeld.1))).trans (hHeld.1)
         have HS1_ := (hb.cell (World.block_lt_of_cell? _ _ (hHeld.2))).trans (hHeld.2)
         replace HO_4 := HO_4.mw hb
         have BK108 := Aside0.mk (hbox)
         have GW108 := Aside0.mk ((by rw [hg]; exact (below_size k71_) : w.heap.size ≤ gb108))
         have GE108 := Aside0.mk ((by rw [hg]; exact (below_size k71_) : w.heap.size ≤ gb108))
         replace HB := Aside0.mk (below_step k71_ hb)
         have NB101_108 := Aside0.mk (BK101.ne hg)
         have NB108_101 := Aside0.mk (BK101.ne hg).symm
         replace BK101 := Aside0.mk (blk_below k85_ hb)
         clear hb hbox hg
         refine hK.out _ _ ⟨HS0_, HS1_⟩ (fun hHeld => ?_)
         clear hK K
         refine nm_ 5 ?_
         exact norm_ k69_ (hCont (gb108) _ ⟨hHeld, (by apply_rules only [HO_4.out, Kd.R_alloc, Kd.R_drewN, Kd.R_drew]), k85_, (by apply_rules only [BK108.out, blk_drewN, blk_drew, blk_alloc]), GW108.out, GE108.out, NB101_108.out, NB108_101.out, k68_⟩)
        ·skip
         refine box_step ?hg (N := 5) ?hd (cs := #[.string (⟨#[]⟩ : ByteArray), .int .i64 0]) (t := 23) ?hr ?_; (case hd => rfl); (case hg => rfl); (case hr => exact k94_)
         intro gb108 hg w17 hbox hb
         have HS0_ := (hb.cell (World.block_lt_of_cell? _ _ (hHeld.1))).trans (hHeld.1)
         have HS1_ := (hb.cell (World.block_lt_of_cell? _ _ (hHeld.2))).trans (hHeld.2)
         replace HO_4 := HO_4.mw hb
         have BK108 := Aside0.mk (hbox)
         have GW108 := Aside0.mk ((by rw [hg]; exact (below_size k71_) : w.heap.size ≤ gb108))
         have GE108 := Aside0.mk ((by rw [hg]; exact (below_size k71_) : w.heap.size ≤ gb108))
         replace HB := Aside0.mk (below_step k71_ hb)
         have NB101_108 := Aside0.mk (BK101.ne hg)
         have NB108_101 := Aside0.mk (BK101.ne hg).symm
         replace BK101 := Aside0.mk (blk_below k85_ hb)
         clear hb hbox hg
         refine hK.out _ _ ⟨HS0_, HS1_⟩ (fun hHeld => ?_)
         clear hK K
         refine nm_ 5 ?_
         refine one_ (i := 6) (N := some 23) (rA_ [7, 1, 1, 1]) rfl rfl (one_of HT_.out (by kernel_rfl)) (by decide) (fun K hK => ?_)
         refine goes_ Tryz.func62 (by kernel_rfl) rfl #[.string (rdOf ByteArray.empty t102 1)] (by rfl) rfl rfl k59_ ?_
         with_reducible refine (spec_l1Read.calls kj2 (rdOf ByteArray.empty t102 1) t107 _ A12.out).mono ?_
         rintro e w' ⟨rfl, ⟨nd, rfl⟩⟩
         refine ⟨_, rfl, ?_⟩
         refine hK.out _ _ ⟨hHeld.1, hHeld.2⟩ (fun hHeld => ?_)
         clear hK K
         refine nm_ 23 ?_
         refine pu_ 7 24 [9, 1] ?_
         exact norm_ k69_ (hCont (gb108) _ ⟨hHeld, (by apply_rules only [HO_4.out, Kd.R_alloc, Kd.R_drewN, Kd.R_drew]), k85_, (by apply_rules only [BK108.out, blk_drewN, blk_drew, blk_alloc]), GW108.out, GE108.out, NB101_108.out, NB108_101.out, k68_⟩)
       rintro gb108 w18 ⟨hS_, h0_, h1_, h2_, h3_, h4_, h5_, h6_, h7_⟩
       have n0_ : Aside0 (Kd.R Kd.string 9 w18 w.heap.size (fun _ => True) (.slice (some ad105) t102.length co16) t102) := ⟨h0_⟩
       have n1_ : Aside0 (w18.heap[gb101]? = some (.cells #[.string (⟨#[]⟩ : ByteArray), .int .i64 0] 23 (0, 0))) := ⟨h1_⟩
       have n2_ : Aside0 (w18.heap[gb108]? = some (.cells #[.string (⟨#[]⟩ : ByteArray), .int .i64 0] 23 (0, 0))) := ⟨h2_⟩
       have n3_ : Aside0 (w.heap.size ≤ gb108) := ⟨h3_⟩
       have n4_ : Aside0 (w.heap.size ≤ gb108) := ⟨h4_⟩
       have n5_ : Aside0 (gb101 ≠ gb108) := ⟨h5_⟩
       have n6_ : Aside0 (gb108 ≠ gb101) := ⟨h6_⟩
       have n7_ : Aside0 (Below w.heap.size w w18) := ⟨h7_⟩
       clear HO_4
       clear BK101
       clear HB
       clear h0_ h1_ h2_ h3_ h4_ h5_ h6_ h7_
       have HO_4 := n0_
       have BK101 := n1_
       have BK108 := n2_
       have GW108 := n3_
       have GE108 := n4_
       have NB101_108 := n5_
       have NB108_101 := n6_
       have HB := n7_
       clear n0_ n1_ n2_ n3_ n4_ n5_ n6_ n7_
       have hHeld : w18.cell? ad105 = some (.string (rdOf ByteArray.empty t102 0)) ∧ w18.cell? ⟨ad105.block, ad105.off + 1, none⟩ = some (.string (rdOf ByteArray.empty t102 1)) := hS_
       refine norm_ (a' := ?_) ?_ ?_
       rotate_left
       ·simp only [putAll, Act.put, List.setIfInBounds_toArray, List.set_cons_zero, List.set_cons_succ]
        rfl
       refine one_ (i := 9) (N := none) (rA_ [10]) rfl rfl (one_of HT_.out (by kernel_rfl)) (by decide) (fun K hK => ?_)
       have hs19 : w18.cell? ⟨gb108, 0, none⟩ = some (.string (⟨#[]⟩ : ByteArray)) := (blk_cell BK108.out 0).trans rfl
       have hfs19 := blk_frozen BK108.out 0
       have hns19_0 := NB101_108.out
       have hms19_0 := NB108_101.out
       have hs20 : w18.cell? ⟨gb108, 1, none⟩ = some (.int .i64 0) := (blk_cell BK108.out 1).trans rfl
       have hfs20 := blk_frozen BK108.out 1
       have hns20_0 := NB101_108.out
       have hms20_0 := NB108_101.out
       refine skip_ (w1 := ?_) (by rfl) rfl ?_ ?_
       rotate_left
       ·go_simp
        rfl
       refine hK.out _ _ ⟨((cell_far (p := ⟨gb108, _, none⟩) k33_ _).trans (((cell_far (p := ⟨gb108, _, none⟩) k33_ _).trans (hHeld.1)))), ((cell_far (p := ⟨gb108, _, none⟩) k33_ _).trans (((cell_far (p := ⟨gb108, _, none⟩) k33_ _).trans (hHeld.2))))⟩ (fun hHeld => ?_)
       clear hK K
       refine done_ (done_of HT_.out (by kernel_rfl)) ?_
       have hnb21 := NB108_101.out
       have hnc21 := NB101_108.out
       have hcz22_0 : w18.cell? ⟨gb108, 0, none⟩ = some (.string (⟨#[]⟩ : ByteArray)) := (blk_cell BK108.out 0).trans rfl
       have hcz22_1 : w18.cell? ⟨gb108, 1, none⟩ = some (.int .i64 0) := (blk_cell BK108.out 1).trans rfl
       have hfz22_0 := blk_frozen BK108.out 0
       have hfz22_1 := blk_frozen BK108.out 1
       try go_wp2_with (first | ((with_reducible refine gate_callee (f := 45) rfl ?_); refine goesL_ (some 26) rfl rfl Tryz.func45 (by kernel_rfl) rfl #[.agg #[.string (rdOf ByteArray.empty t102 0), .int .i64 t107]] rfl k59_ ?_; (with_reducible refine (spec_pzGood.calls kj2 (rdOf ByteArray.empty t102 0) t107 true _ A13.out).mono ?_); rintro e w23 ⟨rfl, hb⟩; refine ⟨_, rfl, ?_⟩; replace HO_4 := Aside0.mk (Kd.R_below k18_ hb); replace BK101 := Aside0.mk (blk_below (g := gb101) (o := .cells #[.string (⟨#[]⟩ : ByteArray), .int .i64 0] 23 (0, 0)) k22_ hb); replace BK108 := Aside0.mk (blk_below (g := gb108) (o := .cells #[.string (rdOf ByteArray.empty t102 0), .int .i64 t107] 23 (0, 0)) k6_ hb); replace HB := Aside0.mk (below_step k68_ hb); (try clear hb); have hcz24_0 : w23.cell? ⟨gb108, 0, none⟩ = some (.string (rdOf ByteArray.empty t102 0)) := (blk_cell BK108.out 0).trans rfl; have hcz24_1 : w23.cell? ⟨gb108, 1, none⟩ = some (.int .i64 t107) := (blk_cell BK108.out 1).trans rfl; have hfz24_0 := blk_frozen BK108.out 0; have hfz24_1 := blk_frozen BK108.out 1; have hcz25_0 : w23.cell? ⟨gb101, 0, none⟩ = some (.string (⟨#[]⟩ : ByteArray)) := (blk_cell BK101.out 0).trans rfl; have hcz25_1 : w23.cell? ⟨gb101, 1, none⟩ = some (.int .i64 0) := (blk_cell BK101.out 1).trans rfl; have hfz25_0 := blk_frozen BK101.out 0; have hfz25_1 := blk_frozen BK101.out 1))
       refine bodyPost_ret (results_ct rfl _ _ gb101 23 #[.string (rdOf ByteArray.empty t102 0), .int .i64 t107] (0, 0) _ rfl (by (with_reducible repeat (first | refine blk_drewN ?_ _ | refine blk_drew ?_ | refine blk_alloc ?_ _)); refine blk_put (cs := #[.string (rdOf ByteArray.empty t102 0), .int .i64 0]) ?_ 1 _ rfl; (with_reducible repeat (first | refine blk_drewN ?_ _ | refine blk_drew ?_ | refine blk_alloc ?_ _)); refine blk_put (cs := #[.string (⟨#[]⟩ : ByteArray), .int .i64 0]) ?_ 0 _ rfl; apply_rules only [BK101.out, blk_drewN, blk_drew, blk_alloc]) Tryz.underlying23 rfl (by kernel_rfl)) rfl ?_
       exact ⟨k70_, k68_⟩
      ·replace c14 := Bool.eq_false_iff.mpr c14
       subst c14
       rw [if_neg (show ¬ (false = true) by decide)] at H
       simp only [Option.some.injEq, Prod.mk.injEq] at H
       obtain ⟨rfl, rfl, rfl⟩ := H
       try go_wp2
       replace HO_4 := Aside0.mk (Kd.R_drew HO_4.out)
       replace BK101 := Aside0.mk (blk_drew BK101.out)
       replace HB := Aside0.mk (below_drew1 HB.out)
       obtain ⟨Ao27, co27, eo27⟩ := Kd.R_slice HO_4.out
       (first | subst eo27 | (injection eo27 with f1_ f2_ f3_; have f4_ := f1_.symm; have f5_ := f3_.symm; clear f1_ f2_ f3_; subst f4_; subst f5_))
       have p105 : 0 ≤ (0 : Int) := (by omega)
       have q105 : 0 < (t102.length : Int) := of_decide_eq_true k91_
       obtain ⟨ad105, e105, hx105_0⟩ := Kd.at_string (Kd.R_reads' HO_4.out).2.2 0 p105 q105
       cases e105
       have qi105 : (0 < t102.length) = True := eq_true (by omega)
       (try rw [show ((0 : Int)).toNat = 0 from rfl] at hx105_0)
       (try rw [Addr.add_zero'] at hx105_0)
       replace p105 := eq_true p105
       replace q105 := eq_true q105
       have p106 : 0 ≤ (1 : Int) := (by omega)
       have q106 : 1 < (t102.length : Int) := of_decide_eq_true k91_
       obtain ⟨ad106, e106, hx106_0⟩ := Kd.at_string (Kd.R_reads' HO_4.out).2.2 1 p106 q106
       obtain rfl : ad105 = ad106 := (by injection e106)
       (try simp only [show (1 : Int).toNat = 1 from rfl, Nat.reduceMul, Nat.reduceEqDiff, Go.Addr.add, ↓reduceIte] at hx106_0)
       have qi106 : (1 < t102.length) = True := eq_true (by omega)
       (try rw [show ((1 : Int)).toNat = 1 from rfl] at hx106_0)
       replace p106 := eq_true p106
       replace q106 := eq_true q106
       refine start_ (n := 10) (S := fun w' => w'.cell? ad105 = some (.string (rdOf ByteArray.empty t102 0)) ∧ w'.cell? ⟨ad105.block, ad105.off + 1, none⟩ = some (.string (rdOf ByteArray.empty t102 1))) (ds := []) (rA_ [0, 10]) (by kernel_rfl) rfl rfl ⟨hx105_0, hx106_0⟩ (fun hHeld => ?_); refine with_tabW spec_ParsePuzzle.tab4 spec_ParsePuzzle.bits4 (fun HT_ HW_ => ?_)
       generalize wc.drew = w26 at HO_4 BK101 HB hx105_0 hx106_0 hHeld ⊢
       refine pu_ 0 17 [1, 9] ?_
       refine pu_ 1 18 [2, 8] ?_
       refine pu_ 3 20 [2, 1, 1, 6] ?_
       refine pu_ 4 21 [2, 1, 2, 5] ?_
       refine ta2_ 2 19 [5, 5] ?_
       refine ta2_ 5 22 [6, 4] ?_
       refine join_ (σ := Nat) 1 (rA_ [9, 1]) (fun s_ => [(23, .int .i64 t107), (5, .pointer (some ⟨s_, 0, none⟩)), (24, .agg #[.string (rdOf ByteArray.empty t102 0), .int .i64 t107])]) (fun s_ w' => (w'.cell? ad105 = some (.string (rdOf ByteArray.empty t102 0)) ∧ w'.cell? ⟨ad105.block, ad105.off + 1, none⟩ = some (.string (rdOf ByteArray.empty t102 1))) ∧ (Kd.R Kd.string 9 w' w.heap.size (fun _ => True) (.slice (some ad105) t102.length co27) t102) ∧ (w'.heap[gb101]? = some (.cells #[.string (⟨#[]⟩ : ByteArray), .int .i64 0] 23 (0, 0))) ∧ (w'.heap[s_]? = some (.cells #[.string (⟨#[]⟩ : ByteArray), .int .i64 0] 23 (0, 0))) ∧ (w.heap.size ≤ s_) ∧ (w.heap.size ≤ s_) ∧ (gb101 ≠ s_) ∧ (s_ ≠ gb101) ∧ (Below w.heap.size w w')) ?_ ?_
       rotate_left
       ·intro hCont
        refine two_ (i := 6) (j := 8) (Ni := some 23) (Nj := some 5) (rA_ [7, 3]) (rA_ [6, 2, 1, 1]) rfl rfl rfl rfl (two_of HT_.out (by kernel_rfl)) (by decide) (by decide) (fun K hK => ?_) (fun K hK => ?_)
        ·skip
         refine goes_ Tryz.func62 (by kernel_rfl) rfl #[.string (rdOf ByteArray.empty t102 1)] (by rfl) rfl rfl k59_ ?_
         with_reducible refine (spec_l1Read.calls kj2 (rdOf ByteArray.empty t102 1) t107 _ A12.out).mono ?_
         rintro e w' ⟨rfl, ⟨nd, rfl⟩⟩
         refine ⟨_, rfl, ?_⟩
         refine hK.out _ _ ⟨hHeld.1, hHeld.2⟩ (fun hHeld => ?_)
         clear hK K
         refine nm_ 23 ?_
         refine pu_ 7 24 [8, 2] ?_
         refine one_ (i := 8) (N := some 5) (rA_ [9, 1]) rfl rfl (one_of HT_.out (by kernel_rfl)) (by decide) (fun K hK => ?_)
         refine box_step ?hg (N := 5) ?hd (cs := #[.string (⟨#[]⟩ : ByteArray), .int .i64 0]) (t := 23) ?hr ?_; (case hd => rfl); (case hg => rfl); (case hr => exact k94_)
         intro gb108 hg w28 hbox hb
         have HS0_ := (hb.cell (World.block_lt_of_cell? _ _ (hHeld.1))).trans (hHeld.1)
         have HS1_ := (hb.cell (World.block_lt_of_cell? _ _ (hHeld.2))).trans (hHeld.2)
         replace HO_4 := HO_4.mw hb
         have BK108 := Aside0.mk (hbox)
         have GW108 := Aside0.mk ((by rw [hg]; exact (below_size k71_) : w.heap.size ≤ gb108))
         have GE108 := Aside0.mk ((by rw [hg]; exact (below_size k71_) : w.heap.size ≤ gb108))
         replace HB := Aside0.mk (below_step k71_ hb)
         have NB101_108 := Aside0.mk (BK101.ne hg)
         have NB108_101 := Aside0.mk (BK101.ne hg).symm
         replace BK101 := Aside0.mk (blk_below k85_ hb)
         clear hb hbox hg
         refine hK.out _ _ ⟨HS0_, HS1_⟩ (fun hHeld => ?_)
         clear hK K
         refine nm_ 5 ?_
         exact norm_ k69_ (hCont (gb108) _ ⟨hHeld, (by apply_rules only [HO_4.out, Kd.R_alloc, Kd.R_drewN, Kd.R_drew]), k85_, (by apply_rules only [BK108.out, blk_drewN, blk_drew, blk_alloc]), GW108.out, GE108.out, NB101_108.out, NB108_101.out, k68_⟩)
        ·skip
         refine box_step ?hg (N := 5) ?hd (cs := #[.string (⟨#[]⟩ : ByteArray), .int .i64 0]) (t := 23) ?hr ?_; (case hd => rfl); (case hg => rfl); (case hr => exact k94_)
         intro gb108 hg w28 hbox hb
         have HS0_ := (hb.cell (World.block_lt_of_cell? _ _ (hHeld.1))).trans (hHeld.1)
         have HS1_ := (hb.cell (World.block_lt_of_cell? _ _ (hHeld.2))).trans (hHeld.2)
         replace HO_4 := HO_4.mw hb
         have BK108 := Aside0.mk (hbox)
         have GW108 := Aside0.mk ((by rw [hg]; exact (below_size k71_) : w.heap.size ≤ gb108))
         have GE108 := Aside0.mk ((by rw [hg]; exact (below_size k71_) : w.heap.size ≤ gb108))
         replace HB := Aside0.mk (below_step k71_ hb)
         have NB101_108 := Aside0.mk (BK101.ne hg)
         have NB108_101 := Aside0.mk (BK101.ne hg).symm
         replace BK101 := Aside0.mk (blk_below k85_ hb)
         clear hb hbox hg
         refine hK.out _ _ ⟨HS0_, HS1_⟩ (fun hHeld => ?_)
         clear hK K
         refine nm_ 5 ?_
         refine one_ (i := 6) (N := some 23) (rA_ [7, 1, 1, 1]) rfl rfl (one_of HT_.out (by kernel_rfl)) (by decide) (fun K hK => ?_)
         refine goes_ Tryz.func62 (by kernel_rfl) rfl #[.string (rdOf ByteArray.empty t102 1)] (by rfl) rfl rfl k59_ ?_
         with_reducible refine (spec_l1Read.calls kj2 (rdOf ByteArray.empty t102 1) t107 _ A12.out).mono ?_
         rintro e w' ⟨rfl, ⟨nd, rfl⟩⟩
         refine ⟨_, rfl, ?_⟩
         refine hK.out _ _ ⟨hHeld.1, hHeld.2⟩ (fun hHeld => ?_)
         clear hK K
         refine nm_ 23 ?_
         refine pu_ 7 24 [9, 1] ?_
         exact norm_ k69_ (hCont (gb108) _ ⟨hHeld, (by apply_rules only [HO_4.out, Kd.R_alloc, Kd.R_drewN, Kd.R_drew]), k85_, (by apply_rules only [BK108.out, blk_drewN, blk_drew, blk_alloc]), GW108.out, GE108.out, NB101_108.out, NB108_101.out, k68_⟩)
       rintro gb108 w29 ⟨hS_, h0_, h1_, h2_, h3_, h4_, h5_, h6_, h7_⟩
       have n0_ : Aside0 (Kd.R Kd.string 9 w29 w.heap.size (fun _ => True) (.slice (some ad105) t102.length co27) t102) := ⟨h0_⟩
       have n1_ : Aside0 (w29.heap[gb101]? = some (.cells #[.string (⟨#[]⟩ : ByteArray), .int .i64 0] 23 (0, 0))) := ⟨h1_⟩
       have n2_ : Aside0 (w29.heap[gb108]? = some (.cells #[.string (⟨#[]⟩ : ByteArray), .int .i64 0] 23 (0, 0))) := ⟨h2_⟩
       have n3_ : Aside0 (w.heap.size ≤ gb108) := ⟨h3_⟩
       have n4_ : Aside0 (w.heap.size ≤ gb108) := ⟨h4_⟩
       have n5_ : Aside0 (gb101 ≠ gb108) := ⟨h5_⟩
       have n6_ : Aside0 (gb108 ≠ gb101) := ⟨h6_⟩
       have n7_ : Aside0 (Below w.heap.size w w29) := ⟨h7_⟩
       clear HO_4
       clear BK101
       clear HB
       clear h0_ h1_ h2_ h3_ h4_ h5_ h6_ h7_
       have HO_4 := n0_
       have BK101 := n1_
       have BK108 := n2_
       have GW108 := n3_
       have GE108 := n4_
       have NB101_108 := n5_
       have NB108_101 := n6_
       have HB := n7_
       clear n0_ n1_ n2_ n3_ n4_ n5_ n6_ n7_
       have hHeld : w29.cell? ad105 = some (.string (rdOf ByteArray.empty t102 0)) ∧ w29.cell? ⟨ad105.block, ad105.off + 1, none⟩ = some (.string (rdOf ByteArray.empty t102 1)) := hS_
       refine norm_ (a' := ?_) ?_ ?_
       rotate_left
       ·simp only [putAll, Act.put, List.setIfInBounds_toArray, List.set_cons_zero, List.set_cons_succ]
        rfl
       refine one_ (i := 9) (N := none) (rA_ [10]) rfl rfl (one_of HT_.out (by kernel_rfl)) (by decide) (fun K hK => ?_)
       have hs30 : w29.cell? ⟨gb108, 0, none⟩ = some (.string (⟨#[]⟩ : ByteArray)) := (blk_cell BK108.out 0).trans rfl
       have hfs30 := blk_frozen BK108.out 0
       have hns30_0 := NB101_108.out
       have hms30_0 := NB108_101.out
       have hs31 : w29.cell? ⟨gb108, 1, none⟩ = some (.int .i64 0) := (blk_cell BK108.out 1).trans rfl
       have hfs31 := blk_frozen BK108.out 1
       have hns31_0 := NB101_108.out
       have hms31_0 := NB108_101.out
       refine skip_ (w1 := ?_) (by rfl) rfl ?_ ?_
       rotate_left
       ·go_simp
        rfl
       refine hK.out _ _ ⟨((cell_far (p := ⟨gb108, _, none⟩) k33_ _).trans (((cell_far (p := ⟨gb108, _, none⟩) k33_ _).trans (hHeld.1)))), ((cell_far (p := ⟨gb108, _, none⟩) k33_ _).trans (((cell_far (p := ⟨gb108, _, none⟩) k33_ _).trans (hHeld.2))))⟩ (fun hHeld => ?_)
       clear hK K
       refine done_ (done_of HT_.out (by kernel_rfl)) ?_
       have hnb32 := NB108_101.out
       have hnc32 := NB101_108.out
       have hcz33_0 : w29.cell? ⟨gb108, 0, none⟩ = some (.string (⟨#[]⟩ : ByteArray)) := (blk_cell BK108.out 0).trans rfl
       have hcz33_1 : w29.cell? ⟨gb108, 1, none⟩ = some (.int .i64 0) := (blk_cell BK108.out 1).trans rfl
       have hfz33_0 := blk_frozen BK108.out 0
       have hfz33_1 := blk_frozen BK108.out 1
       try go_wp2_with (first | ((with_reducible refine gate_callee (f := 45) rfl ?_); refine goesL_ (some 26) rfl rfl Tryz.func45 (by kernel_rfl) rfl #[.agg #[.string (rdOf ByteArray.empty t102 0), .int .i64 t107]] rfl k59_ ?_; (with_reducible refine (spec_pzGood.calls kj2 (rdOf ByteArray.empty t102 0) t107 false _ A13.out).mono ?_); rintro e w34 ⟨rfl, hb⟩; refine ⟨_, rfl, ?_⟩; replace HO_4 := Aside0.mk (Kd.R_below k18_ hb); replace BK101 := Aside0.mk (blk_below (g := gb101) (o := .cells #[.string (⟨#[]⟩ : ByteArray), .int .i64 0] 23 (0, 0)) k22_ hb); replace BK108 := Aside0.mk (blk_below (g := gb108) (o := .cells #[.string (rdOf ByteArray.empty t102 0), .int .i64 t107] 23 (0, 0)) k6_ hb); replace HB := Aside0.mk (below_step k68_ hb); (try clear hb); have hcz35_0 : w34.cell? ⟨gb101, 0, none⟩ = some (.string (⟨#[]⟩ : ByteArray)) := (blk_cell BK101.out 0).trans rfl; have hcz35_1 : w34.cell? ⟨gb101, 1, none⟩ = some (.int .i64 0) := (blk_cell BK101.out 1).trans rfl; have hfz35_0 := blk_frozen BK101.out 0; have hfz35_1 := blk_frozen BK101.out 1))
       refine bodyPost_ret (results_ct rfl _ _ gb101 23 #[.string (⟨#[]⟩ : ByteArray), .int .i64 0] (0, 0) _ rfl k7_ Tryz.underlying23 rfl (by kernel_rfl)) rfl ?_
       exact ⟨k70_, k68_⟩
     ·rw [if_neg c11] at H
      exact absurd H (by simp)
    ·rw [if_neg c10] at H
     exact absurd H (by simp)
end Go.Proofs.YtbnmajedmajfoaaGreatDoor.P
namespace Go.Proofs.YtbnmajedmajfoaaGreatDoor.P
open Go.RowKit Go.Proofs.YtbnmajedmajfoaaGreatDoorW.PrintWords Go.Proofs.YtbnmajedmajfoaaGreatDoorW.PrintLast Go.Proofs.YtbnmajedmajfoaaGreatDoorW.PrintMore
attribute [local go_sem] max2_int min2_int max_two min_two max_three min_three max_four min_four
set_option linter.unusedVariables false
set_option linter.unusedSimpArgs false
attribute [local go_sem high] eqA23 eqA33
mutual
def laws_FnPatternsAnsweredOfAll.j0 : Nat → List (SRule) → ByteArray → Bool → ByteArray → Int → ByteArray → Int → Option (Bool)
 | 0, _, _, _, _, _, _, _ => none
 | k + 1, x2, x3, x71, x102000, x102001, x103000, x103001 => if x71 = true then (some true) else ((impl_Answers.f k x102000 x102001).bind fun bt103 => ((spec_Answers.f k x102000 x102001).bind fun bt107 => ((impl_CountAnswers.f k x102000 x102001).bind fun bt111 => ((spec_CountAnswers.f k x102000 x102001).bind fun bt113 => ((impl_FirstAnswer.f k x102000 x102001).bind fun bt115 => ((spec_FirstAnswer.f k x102000 x102001).bind fun bt119 => ((impl_SureRules.f k x102000 x102001).bind fun bt123 => ((spec_SureRules.f k x102000 x102001).bind fun bt127 => ((impl_RulesThatFit.f k x102000 x102001).bind fun bt131 => ((spec_RulesThatFit.f k x102000 x102001).bind fun bt135 => ((impl_HintOf.f k x102000 x102001).bind fun bt139 => ((spec_HintOf.f k x102000 x102001).bind fun bt144 => ((impl_PuzzleText.f x102000 x102001).bind fun bt149 => ((spec_PuzzleText.f k x102000 x102001).bind fun bt151 => (if (bt103.2 != bt107.2) = true then (some false) else ((laws_gAnswers.f k bt103.1 bt107.1).bind fun t153 => (if t153 = true then (if (bt111.2 != bt113.2) = true then (some false) else (if bt111.1 = bt113.1 then (if (bt115.2 != bt119.2) = true then (some false) else ((laws_gRules.f k bt115.1 bt119.1).bind fun t154 => (if t154 = true then (if (bt123.2 != bt127.2) = true then (some false) else ((laws_gRules.f k bt123.1 bt127.1).bind fun t155 => (if t155 = true then (if (bt131.2 != bt135.2) = true then (some false) else ((laws_gRules.f k bt131.1 bt135.1).bind fun t156 => (if t156 = true then (if (bt139.2.2.2 != bt144.2.2.2) = true then (some false) else (if bt139.1 = bt144.1 then (if (!(bt139.2.1 == bt144.2.1) || (!(bt139.2.2.1 == bt144.2.2.1))) = true then (some false) else (if (bt149.2 != bt151.2) = true then (some false) else (if bt149.1.toList = bt151.1.toList then (if (bt111.2 != bt103.2) = true then (some false) else (if bt103.2 = true then (if (bt115.2 != (decide (bt111.1 > 0))) = true then (some false) else (if (bt123.2 != bt115.2) = true then (some false) else ((impl_IsPuzzle.f x102000 x102001).bind fun t157 => (if (bt131.2 != t157) = true then (some false) else ((impl_IsPuzzle.f x102000 x102001).bind fun t158 => ((spec_IsPuzzle.f k x102000 x102001).bind fun t159 => (if (t158 != t159) = true then (some false) else (if (bt149.2 != bt131.2) = true then (some false) else (laws_FnPatternsAnsweredOfAll.j1 k x2 x3 bt103.1 bt103.2 bt111.1 bt115.1 bt115.2 bt123.1 bt131.1 bt139.1 bt139.2.2.2 bt149.1 bt149.2 (!bt131.2) x102000 x102001 x103000 x103001 bt139.2.1 bt139.2.2.1))))))))) else (if (bt115.2 != false) = true then (some false) else (if (bt123.2 != bt115.2) = true then (some false) else ((impl_IsPuzzle.f x102000 x102001).bind fun t160 => (if (bt131.2 != t160) = true then (some false) else ((impl_IsPuzzle.f x102000 x102001).bind fun t161 => ((spec_IsPuzzle.f k x102000 x102001).bind fun t162 => (if (t161 != t162) = true then (some false) else (if (bt149.2 != bt131.2) = true then (some false) else (laws_FnPatternsAnsweredOfAll.j1 k x2 x3 bt103.1 bt103.2 bt111.1 bt115.1 bt115.2 bt123.1 bt131.1 bt139.1 bt139.2.2.2 bt149.1 bt149.2 false x102000 x102001 x103000 x103001 bt139.2.1 bt139.2.2.1))))))))))) else (some false)))) else (some false))) else (some false)))) else (some false)))) else (some false)))) else (some false))) else (some false))))))))))))))))))
def laws_FnPatternsAnsweredOfAll.j1 : Nat → List (SRule) → ByteArray → List (List (SRule)) → Bool → Int → List (SRule) → Bool → List (SRule) → List (SRule) → Int → Bool → ByteArray → Bool → Bool → ByteArray → Int → ByteArray → Int → Int → Int → Option (Bool)
 | 0, _, _, _, _, _, _, _, _, _, _, _, _, _, _, _, _, _, _, _, _ => none
 | k + 1, x2, x3, x9, x10, x13, x17, x18, x21, x25, x29, x31, x35, x36, x264, x102000, x102001, x103000, x103001, x144000, x144001 => if x264 = true then (some false) else (if x10 = true then (if (x9.length : Int) = x13 then (if x18 = true then (if 0 < (x9.length : Int) then ((laws_gRules.f k x17 (rd_Rules x9 0)).bind fun t164 => (laws_FnPatternsAnsweredOfAll.j2 k x2 x3 x9 x13 x21 x25 x29 x31 x35 x36 (!t164) x102000 x102001 x103000 x103001 x144000 x144001)) else (none)) else (laws_FnPatternsAnsweredOfAll.j2 k x2 x3 x9 x13 x21 x25 x29 x31 x35 x36 false x102000 x102001 x103000 x103001 x144000 x144001)) else (some false)) else (laws_FnPatternsAnsweredOfAll.j7 k x2 x3 x25 x29 x31 x35 x36 x102000 x102001 x103000 x103001 x144000 x144001))
def laws_FnPatternsAnsweredOfAll.j7 : Nat → List (SRule) → ByteArray → List (SRule) → Int → Bool → ByteArray → Bool → ByteArray → Int → ByteArray → Int → Int → Int → Option (Bool)
 | 0, _, _, _, _, _, _, _, _, _, _, _, _, _ => none
 | k + 1, x2, x3, x25, x29, x31, x35, x36, x102000, x102001, x103000, x103001, x144000, x144001 => if x31 = true then (if 0 ≤ (wrap64 (x29 - 1)) then (if (wrap64 (x29 - 1)) < (x102000.size : Int) then (if (bt x102000 (wrap64 (x29 - 1))) = 120 then ((laws_gIn.f k x25 x144000 x144001).bind fun t182 => (laws_FnPatternsAnsweredOfAll.j8 k x2 x3 x35 x36 (!t182) x102000 x102001 x103000 x103001)) else (some false)) else (none)) else (none)) else (laws_FnPatternsAnsweredOfAll.j8 k x2 x3 x35 x36 false x102000 x102001 x103000 x103001)
def laws_FnPatternsAnsweredOfAll.j8 : Nat → List (SRule) → ByteArray → ByteArray → Bool → Bool → ByteArray → Int → ByteArray → Int → Option (Bool)
 | 0, _, _, _, _, _, _, _, _, _ => none
 | k + 1, x2, x3, x35, x36, x415, x102000, x102001, x103000, x103001 => if x415 = true then (some false) else (if x36 = true then ((impl_ParsePuzzle.f x35).bind fun bt183 => (if bt183.2.2 = true then (if (!(bt183.1.toList == x102000.toList) || (!(bt183.2.1 == x102001))) = true then (some false) else (laws_FnPatternsAnsweredOfAll.j9 k x2 x3 x103000 x103001)) else (some false))) else (laws_FnPatternsAnsweredOfAll.j9 k x2 x3 x103000 x103001))
def laws_FnPatternsAnsweredOfAll.j9 : Nat → List (SRule) → ByteArray → ByteArray → Int → Option (Bool)
 | 0, _, _, _, _ => none
 | k + 1, x2, x3, x103000, x103001 => (impl_IsAnswer.f k x103000 x103001 x2).bind fun bt187 => ((spec_IsAnswer.f k x103000 x103001 x2).bind fun bt189 => ((impl_ParsePuzzle.f x3).bind fun bt191 => ((spec_ParsePuzzle.f k x3).bind fun bt195 => (if (bt187.2 != bt189.2) = true then (some false) else (if (bt187.1 != bt189.1) = true then (some false) else (if (bt191.2.2 != bt195.2.2) = true then (some false) else (if (!(bt191.1.toList == bt195.1.toList) || (!(bt191.2.1 == bt195.2.1))) = true then (some false) else (if bt191.2.2 = true then ((impl_PuzzleText.f bt191.1 bt191.2.1).bind fun bt199 => (if bt199.2 = true then (some (bt199.1.toList == x3.toList)) else (some false))) else (some true)))))))))
def laws_FnPatternsAnsweredOfAll.j2 : Nat → List (SRule) → ByteArray → List (List (SRule)) → Int → List (SRule) → List (SRule) → Int → Bool → ByteArray → Bool → Bool → ByteArray → Int → ByteArray → Int → Int → Int → Option (Bool)
 | 0, _, _, _, _, _, _, _, _, _, _, _, _, _, _, _, _, _ => none
 | k + 1, x2, x3, x9, x13, x21, x25, x29, x31, x35, x36, x280, x102000, x102001, x103000, x103001, x144000, x144001 => if x280 = true then (some false) else (laws_FnPatternsAnsweredOfAll.l0 k x2 x3 x13 x21 x25 x29 x31 x35 x36 x9 (x9.length : Int) 0 x102000 x102001 x103000 x103001 x144000 x144001)
def laws_FnPatternsAnsweredOfAll.l0 : Nat → List (SRule) → ByteArray → Int → List (SRule) → List (SRule) → Int → Bool → ByteArray → Bool → List (List (SRule)) → Int → Int → ByteArray → Int → ByteArray → Int → Int → Int → Option (Bool)
 | 0, _, _, _, _, _, _, _, _, _, _, _, _, _, _, _, _, _, _ => none
 | k + 1, x2, x3, x13, x21, x25, x29, x31, x35, x36, x281, x282, x283, x102000, x102001, x103000, x103001, x144000, x144001 => if x283 < x282 then (if 0 ≤ x283 then (if x283 < (x281.length : Int) then ((impl_IsAnswer.f k x102000 x102001 (rd_Rules x281 x283)).bind fun bt168 => ((impl_PatternOf.f k (rd_Rules x281 x283) (x102000.size : Int)).bind fun bt170 => (if bt168.2 = true then (if bt168.1 = true then (if ((rd_Rules x281 x283).length : Int) = x102001 then (if bt170.2 = true then (laws_FnPatternsAnsweredOfAll.l1 k x2 x3 x13 x21 x25 x29 x31 x35 x36 (rd_Rules x281 x283) bt170.1 x281 x282 x283 (bt170.1.size : Int) 0 x102000 x102001 x103000 x103001 x144000 x144001) else (some false)) else (some false)) else (some false)) else (some false)))) else (none)) else (none)) else ((impl_FewestRules.f k x102000).bind fun bt165 => (if x13 > 0 then (if bt165.2 = true then (if bt165.1 > x102001 then (some false) else (laws_FnPatternsAnsweredOfAll.j7 k x2 x3 x25 x29 x31 x35 x36 x102000 x102001 x103000 x103001 x144000 x144001)) else (some false)) else (laws_FnPatternsAnsweredOfAll.j7 k x2 x3 x25 x29 x31 x35 x36 x102000 x102001 x103000 x103001 x144000 x144001)))
def laws_FnPatternsAnsweredOfAll.l1 : Nat → List (SRule) → ByteArray → Int → List (SRule) → List (SRule) → Int → Bool → ByteArray → Bool → List (SRule) → ByteArray → List (List (SRule)) → Int → Int → Int → Int → ByteArray → Int → ByteArray → Int → Int → Int → Option (Bool)
 | 0, _, _, _, _, _, _, _, _, _, _, _, _, _, _, _, _, _, _, _, _, _, _ => none
 | k + 1, x2, x3, x13, x21, x25, x29, x31, x35, x36, x40, x43, x281, x282, x283, x319, x320, x102000, x102001, x103000, x103001, x144000, x144001 => if x320 < x319 then (if (bt x43 x320) < 128 then (if 0 ≤ x320 then (if x320 < (x102000.size : Int) then (if (bt x102000 x320) = 63 then (laws_FnPatternsAnsweredOfAll.l1 k x2 x3 x13 x21 x25 x29 x31 x35 x36 x40 x43 x281 x282 x283 x319 (x320 + 1) x102000 x102001 x103000 x103001 x144000 x144001) else (if x320 < (x43.size : Int) then (if (bt x102000 x320) = (bt x43 x320) then (laws_FnPatternsAnsweredOfAll.l1 k x2 x3 x13 x21 x25 x29 x31 x35 x36 x40 x43 x281 x282 x283 x319 (x320 + 1) x102000 x102001 x103000 x103001 x144000 x144001) else (some false)) else (none))) else (none)) else (none)) else (none)) else (laws_FnPatternsAnsweredOfAll.l2 k x2 x3 x13 x21 x25 x29 x31 x35 x36 x40 x281 x282 x283 x40 (x40.length : Int) 0 x102000 x102001 x103000 x103001 x144000 x144001)
def laws_FnPatternsAnsweredOfAll.l2 : Nat → List (SRule) → ByteArray → Int → List (SRule) → List (SRule) → Int → Bool → ByteArray → Bool → List (SRule) → List (List (SRule)) → Int → Int → List (SRule) → Int → Int → ByteArray → Int → ByteArray → Int → Int → Int → Option (Bool)
 | 0, _, _, _, _, _, _, _, _, _, _, _, _, _, _, _, _, _, _, _, _, _, _ => none
 | k + 1, x2, x3, x13, x21, x25, x29, x31, x35, x36, x40, x281, x282, x283, x338, x339, x340, x102000, x102001, x103000, x103001, x144000, x144001 => if x340 < x339 then (if 0 ≤ x340 then (if x340 < (x338.length : Int) then (if x340 > 0 then (if 0 ≤ (wrap64 (x340 - 1)) then (if (wrap64 (x340 - 1)) < (x40.length : Int) then ((laws_gRuleBefore.f ((rd_Rule x40 (wrap64 (x340 - 1))).f0) ((rd_Rule x40 (wrap64 (x340 - 1))).f1) ((rd_Rule x338 x340).f0) ((rd_Rule x338 x340).f1)).bind fun t175 => (if t175 = true then ((laws_gIn.f k x25 ((rd_Rule x338 x340).f0) ((rd_Rule x338 x340).f1)).bind fun t176 => (if t176 = true then (laws_FnPatternsAnsweredOfAll.l2 k x2 x3 x13 x21 x25 x29 x31 x35 x36 x40 x281 x282 x283 x338 x339 (wrap64 (x340 + 1)) x102000 x102001 x103000 x103001 x144000 x144001) else (some false))) else (some false))) else (none)) else (none)) else ((laws_gIn.f k x25 ((rd_Rule x338 x340).f0) ((rd_Rule x338 x340).f1)).bind fun t177 => (if t177 = true then (laws_FnPatternsAnsweredOfAll.l2 k x2 x3 x13 x21 x25 x29 x31 x35 x36 x40 x281 x282 x283 x338 x339 (wrap64 (x340 + 1)) x102000 x102001 x103000 x103001 x144000 x144001) else (some false)))) else (none)) else (none)) else (laws_FnPatternsAnsweredOfAll.l3 k x2 x3 x13 x21 x25 x29 x31 x35 x36 x40 x281 x282 x283 x21 (x21.length : Int) 0 x102000 x102001 x103000 x103001 x144000 x144001)
def laws_FnPatternsAnsweredOfAll.l3 : Nat → List (SRule) → ByteArray → Int → List (SRule) → List (SRule) → Int → Bool → ByteArray → Bool → List (SRule) → List (List (SRule)) → Int → Int → List (SRule) → Int → Int → ByteArray → Int → ByteArray → Int → Int → Int → Option (Bool)
 | 0, _, _, _, _, _, _, _, _, _, _, _, _, _, _, _, _, _, _, _, _, _, _ => none
 | k + 1, x2, x3, x13, x21, x25, x29, x31, x35, x36, x40, x281, x282, x283, x364, x365, x366, x102000, x102001, x103000, x103001, x144000, x144001 => if x366 < x365 then (if 0 ≤ x366 then (if x366 < (x364.length : Int) then ((laws_gIn.f k x40 ((rd_Rule x364 x366).f0) ((rd_Rule x364 x366).f1)).bind fun t180 => (if t180 = true then (laws_FnPatternsAnsweredOfAll.l3 k x2 x3 x13 x21 x25 x29 x31 x35 x36 x40 x281 x282 x283 x364 x365 (wrap64 (x366 + 1)) x102000 x102001 x103000 x103001 x144000 x144001) else (some false))) else (none)) else (none)) else (if x31 = true then ((laws_gIn.f k x40 x144000 x144001).bind fun t181 => (if t181 = true then (laws_FnPatternsAnsweredOfAll.l0 k x2 x3 x13 x21 x25 x29 x31 x35 x36 x281 x282 (wrap64 (x283 + 1)) x102000 x102001 x103000 x103001 x144000 x144001) else (some false))) else (laws_FnPatternsAnsweredOfAll.l0 k x2 x3 x13 x21 x25 x29 x31 x35 x36 x281 x282 (wrap64 (x283 + 1)) x102000 x102001 x103000 x103001 x144000 x144001))
end
def laws_FnPatternsAnsweredOfAll.f (k : Nat) (a0_0 : ByteArray) (a0_1 : Int) (a1_0 : ByteArray) (a1_1 : Int) (l2 : List (SRule)) (a3 : ByteArray) : Option (Bool) := if (l2.length : Int) > 10000 then (laws_FnPatternsAnsweredOfAll.j0 k l2 a3 true a0_0 a0_1 a1_0 a1_1) else (laws_FnPatternsAnsweredOfAll.j0 k l2 a3 (decide ((a3.size : Int) > 1048576)) a0_0 a0_1 a1_0 a1_1)
def laws_FnPatternsAnsweredOfAll.T17 : Bool × List (List Nat × List Nat) := (true, [([], []), ([], []), ([0, 1], [0, 1]), ([2], [2]), ([3], [3]), ([3], [3]), ([4, 5, 3, 3], [3, 4, 5]), ([6, 3], [3, 6]), ([3, 7], [3, 7]), ([8, 6], [8]), ([9], [9]), ([9], [9]), ([10, 11, 9], [9, 10, 11]), ([9, 12], [9, 12]), ([13, 9], [13]), ([14], [14]), ([14], [14]), ([15, 16, 14], [14, 15, 16]), ([14, 17], [14, 17]), ([18, 14], [18]), ([19], [19]), ([19], [19]), ([20, 21, 19], [19, 20, 21]), ([19, 22], [19, 22]), ([23, 19], [23]), ([24], [24]), ([24], [24]), ([25, 26, 24, 24], [24, 25, 26]), ([27, 24], [24, 27]), ([24, 28], [24, 28]), ([29, 27], [29]), ([30], [30]), ([30], [30]), ([31, 32, 30], [30, 31, 32]), ([30, 33], [30, 33]), ([34, 30], [34]), ([35], [35]), ([35], [35]), ([36, 37, 35, 35], [35, 36, 37]), ([38, 35], [35, 38]), ([35, 39], [35, 39]), ([40, 38], [40]), ([41], [41]), ([41], [41]), ([42, 43, 41], [41, 42, 43]), ([41, 44], [41, 44]), ([45, 41], [45]), ([46], [46]), ([46], [46]), ([47, 48, 46, 46], [46, 47, 48]), ([49, 46], [46, 49]), ([46, 50], [46, 50]), ([51, 49], [51]), ([52], [52]), ([52], [52]), ([53, 54, 52], [52, 53, 54]), ([52, 55], [52, 55]), ([56, 52], [56]), ([57], [57]), ([57], [57]), ([58, 59, 57], [57, 58, 59]), ([57, 60], [57, 60]), ([61, 57], [61]), ([62], [62]), ([62], [62]), ([63, 64, 62], [62, 63, 64]), ([62, 65], [62, 65]), ([66, 62], [66]), ([67], [67]), ([67], [67]), ([68, 69, 67], [67, 68, 69]), ([67, 70], [67, 70]), ([71, 67], [71]), ([72], [72]), ([72], [72]), ([73, 74, 72], [72, 73, 74]), ([72, 75], [72, 75]), ([76, 72], [76]), ([77], [77]), ([77], [77]), ([78, 79, 77], [77, 78, 79]), ([77, 80], [77, 80]), ([81, 77], [81]), ([82], [82]), ([82], [82]), ([84, 82, 82], [82, 84]), ([85], [85]), ([86, 85], [85, 86]), ([85, 87, 82], [82, 85, 87]), ([83, 88, 82], [82, 83, 88]), ([82, 89], [82, 89]), ([90, 85], [90]), ([91], [91]), ([91], [91]), ([92, 93, 91], [91, 92, 93]), ([91, 94], [91, 94]), ([95, 91], [95]), ([96], [96]), ([96], [96]), ([98, 96, 96], [96, 98]), ([97, 99, 96], [96, 97, 99]), ([96, 100], [96, 100]), ([101, 99], [101]), ([102], [102]), ([103, 102, 102], [102, 103]), ([102], [102]), ([105, 104, 102], [102, 105]), ([104, 106, 102], [102, 104, 106]), ([102, 107], [102, 107]), ([108, 106], [108]), ([109], [109]), ([109], [109]), ([110, 111, 109], [109, 110, 111]), ([109, 112], [109, 112]), ([113, 109], [113]), ([114], [114]), ([115, 114, 114], [114, 115]), ([116], [116]), ([117, 116], [116, 117]), ([116, 118, 114], [114, 116, 118]), ([114, 119], [114, 119])])
def laws_FnPatternsAnsweredOfAll.B17 : List Nat := [0, 0, 3, 7, 15, 15, 63, 127, 255, 511, 1023, 1023, 4095, 8191, 16383, 32767, 32767, 131071, 262143, 524287, 1048575, 1048575, 4194303, 8388607, 16777215, 33554431, 33554431, 134217727, 268435455, 536870911, 1073741823, 2147483647, 2147483647, 8589934591, 17179869183, 34359738367, 68719476735, 68719476735, 274877906943, 549755813887, 1099511627775, 2199023255551, 4398046511103, 4398046511103, 17592186044415, 35184372088831, 70368744177663, 140737488355327, 140737488355327, 562949953421311, 1125899906842623, 2251799813685247, 4503599627370495, 9007199254740991, 9007199254740991, 36028797018963967, 72057594037927935, 144115188075855871, 288230376151711743, 288230376151711743, 1152921504606846975, 2305843009213693951, 4611686018427387903, 9223372036854775807, 9223372036854775807, 36893488147419103231, 73786976294838206463, 147573952589676412927, 295147905179352825855, 295147905179352825855, 1180591620717411303423, 2361183241434822606847, 4722366482869645213695, 9444732965739290427391, 9444732965739290427391, 37778931862957161709567, 75557863725914323419135, 151115727451828646838271, 302231454903657293676543, 302231454903657293676543, 1208925819614629174706175, 2417851639229258349412351, 4835703278458516698824703, 9671406556917033397649407, 9671406556917033397649407, 29014219670751100192948223, 67699845898419233783545855, 145071098353755500964741119, 299813603264428035327131647, 618970019642690137449562111, 1237940039285380274899124223, 2475880078570760549798248447, 4951760157141521099596496895, 4951760157141521099596496895, 19807040628566084398385987583, 39614081257132168796771975167, 79228162514264337593543950335, 158456325028528675187087900671, 158456325028528675187087900671, 475368975085586025561263702015, 1267650600228229401496703205375, 2535301200456458802993406410751, 5070602400912917605986812821503, 10141204801825835211973625643007, 20282409603651670423947251286015, 10141204801825835211973625643007, 81129638414606681695789005144063, 162259276829213363391578010288127, 324518553658426726783156020576255, 649037107316853453566312041152511, 1298074214633706907132624082305023, 1298074214633706907132624082305023, 5192296858534827628530496329220095, 10384593717069655257060992658440191, 20769187434139310514121985316880383, 41538374868278621028243970633760767, 83076749736557242056487941267521535, 166153499473114484112975882535043071, 332306998946228968225951765070086143, 664613997892457936451903530140172287, 1329227995784915872903807060280344575]
theorem laws_FnPatternsAnsweredOfAll.tab17 : rtab .any (opsOf Tryz.f3 17) = laws_FnPatternsAnsweredOfAll.T17 := by kernel_rfl
theorem laws_FnPatternsAnsweredOfAll.bits17 : waitsOk laws_FnPatternsAnsweredOfAll.T17.2 laws_FnPatternsAnsweredOfAll.B17 = true := by kernel_rfl
def laws_FnPatternsAnsweredOfAll.T32 : Bool × List (List Nat × List Nat) := (true, [([], []), ([0], [0]), ([], []), ([1, 2], [1, 2]), ([3], [3]), ([4], [4]), ([5], [5]), ([6, 5], [5, 6]), ([5], [5]), ([7, 8, 5], [5, 7, 8]), ([5], [5]), ([5], [5]), ([10, 11, 5], [5, 10, 11]), ([9, 12, 5], [5, 9, 12]), ([5, 13], [5, 13])])
def laws_FnPatternsAnsweredOfAll.B32 : List Nat := [0, 1, 0, 7, 15, 31, 63, 127, 63, 511, 63, 63, 3135, 8191, 16383]
theorem laws_FnPatternsAnsweredOfAll.tab32 : rtab .any (opsOf Tryz.f3 32) = laws_FnPatternsAnsweredOfAll.T32 := by kernel_rfl
theorem laws_FnPatternsAnsweredOfAll.bits32 : waitsOk laws_FnPatternsAnsweredOfAll.T32.2 laws_FnPatternsAnsweredOfAll.B32 = true := by kernel_rfl
def laws_FnPatternsAnsweredOfAll.T37 : Bool × List (List Nat × List Nat) := (true, [([], []), ([0], [0]), ([1], [1]), ([2], [2]), ([2], [2]), ([4, 2], [2, 4]), ([3, 5, 2], [2, 3, 5]), ([6, 2], [2, 6]), ([2], [2]), ([7, 8, 2, 2], [2, 7, 8]), ([9, 2], [2, 9]), ([2, 10], [2, 10]), ([11, 9], [11]), ([12], [12]), ([12], [12]), ([13, 14, 12, 12], [12, 13, 14]), ([15, 12], [12, 15]), ([12, 16], [12, 16])])
def laws_FnPatternsAnsweredOfAll.B37 : List Nat := [0, 1, 3, 7, 7, 23, 63, 127, 7, 511, 1023, 2047, 4095, 8191, 8191, 32767, 65535, 131071]
theorem laws_FnPatternsAnsweredOfAll.tab37 : rtab .any (opsOf Tryz.f3 37) = laws_FnPatternsAnsweredOfAll.T37 := by kernel_rfl
theorem laws_FnPatternsAnsweredOfAll.bits37 : waitsOk laws_FnPatternsAnsweredOfAll.T37.2 laws_FnPatternsAnsweredOfAll.B37 = true := by kernel_rfl
def laws_FnPatternsAnsweredOfAll.codeOf : Option Code → Code
  | some c => c
  | none => .skip
def laws_FnPatternsAnsweredOfAll.seqA : Code → Code
  | .seq a _ => a
  | c => c
def laws_FnPatternsAnsweredOfAll.seqB : Code → Code
  | .seq _ b => b
  | c => c
def laws_FnPatternsAnsweredOfAll.condA : Code → Code
  | .cond _ a _ => a
  | c => c
def laws_FnPatternsAnsweredOfAll.condB : Code → Code
  | .cond _ _ b => b
  | c => c
def laws_FnPatternsAnsweredOfAll.blockB : Code → Code
  | .block _ b => b
  | c => c
def laws_FnPatternsAnsweredOfAll.scopeB : Code → Code
  | .scope b => b
  | c => c
end Go.Proofs.YtbnmajedmajfoaaGreatDoor.P
namespace Go.Proofs.YtbnmajedmajfoaaGreatDoor.P
open Go.RowKit Go.Proofs.YtbnmajedmajfoaaGreatDoorW.PrintWords Go.Proofs.YtbnmajedmajfoaaGreatDoorW.PrintLast Go.Proofs.YtbnmajedmajfoaaGreatDoorW.PrintMore
attribute [local go_sem] max2_int min2_int max_two min_two max_three min_three max_four min_four
set_option linter.unusedVariables false
set_option linter.unusedSimpArgs false
attribute [local go_sem high] eqA23 eqA33
set_option maxHeartbeats 8000000 in
set_option maxRecDepth 100000 in
theorem laws_FnPatternsAnsweredOfAll.part2 (k : Nat) (a0_0 : ByteArray) (a0_1 : Int) (a1_0 : ByteArray) (a1_1 : Int) (A2 : Option Addr) (c2 : Nat) (l2 : List SRule) (a3 : ByteArray) (w : World) (hu23 : Tryz.prog.underlying 23 = some (TypeDesc.struct #[{ name := "Pattern", type := 9, offset := 0, embedded := false, tag := "", pkgPath := "", byteOffset := 0 }, { name := "Rules", type := 3, offset := 1, embedded := false, tag := "", pkgPath := "", byteOffset := 16 }])) (hu33 : Tryz.prog.underlying 33 = some (TypeDesc.struct #[{ name := "Every", type := 3, offset := 0, embedded := false, tag := "", pkgPath := "", byteOffset := 0 }, { name := "Rest", type := 3, offset := 1, embedded := false, tag := "", pkgPath := "", byteOffset := 8 }])) (HR2 : Aside0 (kRule.C w A2 l2.length l2)) (HC2 : Aside0 (l2.length ≤ c2)) (HG : Aside0 (GlobOk w)) (gb101 : Nat) (GW101 : Aside0 (w.heap.size ≤ gb101)) (GE101 : Aside0 (w.heap.size ≤ gb101)) (gb102 : Nat) (GW102 : Aside0 (w.heap.size ≤ gb102)) (GE102 : Aside0 (w.heap.size ≤ gb102)) (NB101_102 : Aside0 (gb101 ≠ gb102)) (NB102_101 : Aside0 (gb102 ≠ gb101)) (u64 : Value) (u65 : Value) (u66 : Value) (u67 : Value) (u68 : Value) (u69 : Value) (u70 : Value) (kj4 : Nat) (HJ4 : Aside0 (kj4 + 1 ≤ k)) (t103 : List (List SRule)) (t106 : Bool) (A10 : Aside0 (impl_Answers.f kj4 a0_0 a0_1 = some (t103, t106))) (t107 : List (List SRule)) (t110 : Bool) (A11 : Aside0 (spec_Answers.f kj4 a0_0 a0_1 = some (t107, t110))) (t111 : Int) (t112 : Bool) (A12 : Aside0 (impl_CountAnswers.f kj4 a0_0 a0_1 = some (t111, t112))) (t113 : Int) (t114 : Bool) (A13 : Aside0 (spec_CountAnswers.f kj4 a0_0 a0_1 = some (t113, t114))) (t115 : List SRule) (t118 : Bool) (A14 : Aside0 (impl_FirstAnswer.f kj4 a0_0 a0_1 = some (t115, t118))) (t119 : List SRule) (t122 : Bool) (A15 : Aside0 (spec_FirstAnswer.f kj4 a0_0 a0_1 = some (t119, t122))) (t123 : List SRule) (t126 : Bool) (A16 : Aside0 (impl_SureRules.f kj4 a0_0 a0_1 = some (t123, t126))) (t127 : List SRule) (t130 : Bool) (A17 : Aside0 (spec_SureRules.f kj4 a0_0 a0_1 = some (t127, t130))) (t131 : List SRule) (t134 : Bool) (A18 : Aside0 (impl_RulesThatFit.f kj4 a0_0 a0_1 = some (t131, t134))) (t135 : List SRule) (t138 : Bool) (A19 : Aside0 (spec_RulesThatFit.f kj4 a0_0 a0_1 = some (t135, t138))) (t139 : Int) (t140 : Int) (t141 : Int) (t142 : Bool) (A20 : Aside0 (impl_HintOf.f kj4 a0_0 a0_1 = some (t139, t140, t141, t142))) (t144 : Int) (t145 : Int) (t146 : Int) (t147 : Bool) (A21 : Aside0 (spec_HintOf.f kj4 a0_0 a0_1 = some (t144, t145, t146, t147))) (t149 : ByteArray) (t150 : Bool) (A22 : Aside0 (impl_PuzzleText.f a0_0 a0_1 = some (t149, t150))) (H : ((spec_PuzzleText.f kj4 a0_0 a0_1).bind fun bt151 => if (t106 != t110) = true then some false else (laws_gAnswers.f kj4 t103 t107).bind fun t153 => if t153 = true then if (t112 != t114) = true then some false else if t111 = t113 then if (t118 != t122) = true then some false else (laws_gRules.f kj4 t115 t119).bind fun t154 => if t154 = true then if (t126 != t130) = true then some false else (laws_gRules.f kj4 t123 t127).bind fun t155 => if t155 = true then if (t134 != t138) = true then some false else (laws_gRules.f kj4 t131 t135).bind fun t156 => if t156 = true then if (t142 != t147) = true then some false else if t139 = t144 then if (!t140 == t145 || !t141 == t146) = true then some false else if (t150 != bt151.snd) = true then some false else if t149.toList = bt151.fst.toList then if (t112 != t106) = true then some false else if t106 = true then if (t118 != decide (t111 > 0)) = true then some false else if (t126 != t118) = true then some false else (impl_IsPuzzle.f a0_0 a0_1).bind fun t157 => if (t134 != t157) = true then some false else (impl_IsPuzzle.f a0_0 a0_1).bind fun t158 => (spec_IsPuzzle.f kj4 a0_0 a0_1).bind fun t159 => if (t158 != t159) = true then some false else if (t150 != t134) = true then some false else j1 kj4 l2 a3 t103 t106 t111 t115 t118 t123 t131 t139 t142 t149 t150 (!t134) a0_0 a0_1 a1_0 a1_1 t140 t141 else if (t118 != false) = true then some false else if (t126 != t118) = true then some false else (impl_IsPuzzle.f a0_0 a0_1).bind fun t160 => if (t134 != t160) = true then some false else (impl_IsPuzzle.f a0_0 a0_1).bind fun t161 => (spec_IsPuzzle.f kj4 a0_0 a0_1).bind fun t162 => if (t161 != t162) = true then some false else if (t150 != t134) = true then some false else j1 kj4 l2 a3 t103 t106 t111 t115 t118 t123 t131 t139 t142 t149 t150 false a0_0 a0_1 a1_0 a1_1 t140 t141 else some false else some false else some false else some false else some false else some false else some false) = some true) (t151 : ByteArray) (t152 : Bool) (A23 : Aside0 (spec_PuzzleText.f kj4 a0_0 a0_1 = some (t151, t152))) (hnb25 : gb101 ≠ gb102) (hnc25 : gb102 ≠ gb101) (w27 : World) (v104 : Value) (hcz28_0 : w27.cell? { block := gb101, off := 0 } = some (Value.string a0_0)) (hcz28_1 : w27.cell? { block := gb101, off := 1 } = some (Value.int IntKind.i64 a0_1)) (hfz28_0 : w27.frozen? { block := gb101, off := 0 } = false) (hfz28_1 : w27.frozen? { block := gb101, off := 1 } = false) (w29 : World) (v108 : Value) (hcz30_0 : w29.cell? { block := gb101, off := 0 } = some (Value.string a0_0)) (hcz30_1 : w29.cell? { block := gb101, off := 1 } = some (Value.int IntKind.i64 a0_1)) (hfz30_0 : w29.frozen? { block := gb101, off := 0 } = false) (hfz30_1 : w29.frozen? { block := gb101, off := 1 } = false) (w31 : World) (hcz32_0 : w31.cell? { block := gb101, off := 0 } = some (Value.string a0_0)) (hcz32_1 : w31.cell? { block := gb101, off := 1 } = some (Value.int IntKind.i64 a0_1)) (hfz32_0 : w31.frozen? { block := gb101, off := 0 } = false) (hfz32_1 : w31.frozen? { block := gb101, off := 1 } = false) (w33 : World) (hcz34_0 : w33.cell? { block := gb101, off := 0 } = some (Value.string a0_0)) (hcz34_1 : w33.cell? { block := gb101, off := 1 } = some (Value.int IntKind.i64 a0_1)) (hfz34_0 : w33.frozen? { block := gb101, off := 0 } = false) (hfz34_1 : w33.frozen? { block := gb101, off := 1 } = false) (w35 : World) (v116 : Value) (hcz36_0 : w35.cell? { block := gb101, off := 0 } = some (Value.string a0_0)) (hcz36_1 : w35.cell? { block := gb101, off := 1 } = some (Value.int IntKind.i64 a0_1)) (hfz36_0 : w35.frozen? { block := gb101, off := 0 } = false) (hfz36_1 : w35.frozen? { block := gb101, off := 1 } = false) (w37 : World) (v120 : Value) (hcz38_0 : w37.cell? { block := gb101, off := 0 } = some (Value.string a0_0)) (hcz38_1 : w37.cell? { block := gb101, off := 1 } = some (Value.int IntKind.i64 a0_1)) (hfz38_0 : w37.frozen? { block := gb101, off := 0 } = false) (hfz38_1 : w37.frozen? { block := gb101, off := 1 } = false) (w39 : World) (v124 : Value) (hcz40_0 : w39.cell? { block := gb101, off := 0 } = some (Value.string a0_0)) (hcz40_1 : w39.cell? { block := gb101, off := 1 } = some (Value.int IntKind.i64 a0_1)) (hfz40_0 : w39.frozen? { block := gb101, off := 0 } = false) (hfz40_1 : w39.frozen? { block := gb101, off := 1 } = false) (w41 : World) (v128 : Value) (hcz42_0 : w41.cell? { block := gb101, off := 0 } = some (Value.string a0_0)) (hcz42_1 : w41.cell? { block := gb101, off := 1 } = some (Value.int IntKind.i64 a0_1)) (hfz42_0 : w41.frozen? { block := gb101, off := 0 } = false) (hfz42_1 : w41.frozen? { block := gb101, off := 1 } = false) (w43 : World) (v132 : Value) (hcz44_0 : w43.cell? { block := gb101, off := 0 } = some (Value.string a0_0)) (hcz44_1 : w43.cell? { block := gb101, off := 1 } = some (Value.int IntKind.i64 a0_1)) (hfz44_0 : w43.frozen? { block := gb101, off := 0 } = false) (hfz44_1 : w43.frozen? { block := gb101, off := 1 } = false) (w45 : World) (v136 : Value) (hcz46_0 : w45.cell? { block := gb101, off := 0 } = some (Value.string a0_0)) (hcz46_1 : w45.cell? { block := gb101, off := 1 } = some (Value.int IntKind.i64 a0_1)) (hfz46_0 : w45.frozen? { block := gb101, off := 0 } = false) (hfz46_1 : w45.frozen? { block := gb101, off := 1 } = false) (gb143 : Nat) (w48 : World) (GW143 : Aside0 (w.heap.size ≤ gb143)) (GE143 : Aside0 (w.heap.size ≤ gb143)) (NB101_143 : Aside0 (gb101 ≠ gb143)) (NB143_101 : Aside0 (gb143 ≠ gb101)) (NB102_143 : Aside0 (gb102 ≠ gb143)) (NB143_102 : Aside0 (gb143 ≠ gb102)) (hnb49 : gb143 ≠ gb101) (hnc49 : gb101 ≠ gb143) (hnb50 : gb143 ≠ gb102) (hnc50 : gb102 ≠ gb143) (hcz51_0 : w48.cell? { block := gb143, off := 0 } = some (Value.int IntKind.i64 0)) (hcz51_1 : w48.cell? { block := gb143, off := 1 } = some (Value.int IntKind.i64 0)) (hfz51_0 : w48.frozen? { block := gb143, off := 0 } = false) (hfz51_1 : w48.frozen? { block := gb143, off := 1 } = false) (hcz52_0 : w48.cell? { block := gb101, off := 0 } = some (Value.string a0_0)) (hcz52_1 : w48.cell? { block := gb101, off := 1 } = some (Value.int IntKind.i64 a0_1)) (hfz52_0 : w48.frozen? { block := gb101, off := 0 } = false) (hfz52_1 : w48.frozen? { block := gb101, off := 1 } = false) (gb148 : Nat) (w54 : World) (GW148 : Aside0 (w.heap.size ≤ gb148)) (GE148 : Aside0 (w.heap.size ≤ gb148)) (NB101_148 : Aside0 (gb101 ≠ gb148)) (NB148_101 : Aside0 (gb148 ≠ gb101)) (NB102_148 : Aside0 (gb102 ≠ gb148)) (NB148_102 : Aside0 (gb148 ≠ gb102)) (NB143_148 : Aside0 (gb143 ≠ gb148)) (NB148_143 : Aside0 (gb148 ≠ gb143)) (hnb55 : gb148 ≠ gb101) (hnc55 : gb101 ≠ gb148) (hnb56 : gb148 ≠ gb102) (hnc56 : gb102 ≠ gb148) (hnb57 : gb148 ≠ gb143) (hnc57 : gb143 ≠ gb148) (hcz58_0 : w54.cell? { block := gb148, off := 0 } = some (Value.int IntKind.i64 0)) (hcz58_1 : w54.cell? { block := gb148, off := 1 } = some (Value.int IntKind.i64 0)) (hfz58_0 : w54.frozen? { block := gb148, off := 0 } = false) (hfz58_1 : w54.frozen? { block := gb148, off := 1 } = false) (hcz59_0 : w54.cell? { block := gb101, off := 0 } = some (Value.string a0_0)) (hcz59_1 : w54.cell? { block := gb101, off := 1 } = some (Value.int IntKind.i64 a0_1)) (hfz59_0 : w54.frozen? { block := gb101, off := 0 } = false) (hfz59_1 : w54.frozen? { block := gb101, off := 1 } = false) (w60 : World) (hcz61_0 : w60.cell? { block := gb101, off := 0 } = some (Value.string a0_0)) (hcz61_1 : w60.cell? { block := gb101, off := 1 } = some (Value.int IntKind.i64 a0_1)) (hfz61_0 : w60.frozen? { block := gb101, off := 0 } = false) (hfz61_1 : w60.frozen? { block := gb101, off := 1 } = false) (w62 : World) (HO105 : Aside0 ((Kd.slice 33 kRule).S 24 w62 w.heap.size (fun x => ((((((((True ∧ some x ≠ v108.ownBlock) ∧ some x ≠ v116.ownBlock) ∧ some x ≠ v120.ownBlock) ∧ some x ≠ v124.ownBlock) ∧ some x ≠ v128.ownBlock) ∧ some x ≠ v132.ownBlock) ∧ some x ≠ v136.ownBlock) ∧ x ≠ gb143) ∧ x ≠ gb148) v104 t103)) (HO109 : Aside0 ((Kd.slice 33 kRule).S 24 w62 w.heap.size (fun x => ((((((((True ∧ some x ≠ v104.ownBlock) ∧ some x ≠ v116.ownBlock) ∧ some x ≠ v120.ownBlock) ∧ some x ≠ v124.ownBlock) ∧ some x ≠ v128.ownBlock) ∧ some x ≠ v132.ownBlock) ∧ some x ≠ v136.ownBlock) ∧ x ≠ gb143) ∧ x ≠ gb148) v108 t107)) (HO117 : Aside0 (kRule.R 33 w62 w.heap.size (fun x => ((((((True ∧ some x ≠ v120.ownBlock) ∧ some x ≠ v124.ownBlock) ∧ some x ≠ v128.ownBlock) ∧ some x ≠ v132.ownBlock) ∧ some x ≠ v136.ownBlock) ∧ x ≠ gb143) ∧ x ≠ gb148) v116 t115)) (HO121 : Aside0 (kRule.R 33 w62 w.heap.size (fun x => ((((((True ∧ some x ≠ v116.ownBlock) ∧ some x ≠ v124.ownBlock) ∧ some x ≠ v128.ownBlock) ∧ some x ≠ v132.ownBlock) ∧ some x ≠ v136.ownBlock) ∧ x ≠ gb143) ∧ x ≠ gb148) v120 t119)) (HO125 : Aside0 (kRule.R 33 w62 w.heap.size (fun x => ((((((True ∧ some x ≠ v116.ownBlock) ∧ some x ≠ v120.ownBlock) ∧ some x ≠ v128.ownBlock) ∧ some x ≠ v132.ownBlock) ∧ some x ≠ v136.ownBlock) ∧ x ≠ gb143) ∧ x ≠ gb148) v124 t123)) (HO129 : Aside0 (kRule.R 33 w62 w.heap.size (fun x => ((((((True ∧ some x ≠ v116.ownBlock) ∧ some x ≠ v120.ownBlock) ∧ some x ≠ v124.ownBlock) ∧ some x ≠ v132.ownBlock) ∧ some x ≠ v136.ownBlock) ∧ x ≠ gb143) ∧ x ≠ gb148) v128 t127)) (HO133 : Aside0 (kRule.R 33 w62 w.heap.size (fun x => ((((((True ∧ some x ≠ v116.ownBlock) ∧ some x ≠ v120.ownBlock) ∧ some x ≠ v124.ownBlock) ∧ some x ≠ v128.ownBlock) ∧ some x ≠ v136.ownBlock) ∧ x ≠ gb143) ∧ x ≠ gb148) v132 t131)) (HO137 : Aside0 (kRule.R 33 w62 w.heap.size (fun x => ((((((True ∧ some x ≠ v116.ownBlock) ∧ some x ≠ v120.ownBlock) ∧ some x ≠ v124.ownBlock) ∧ some x ≠ v128.ownBlock) ∧ some x ≠ v132.ownBlock) ∧ x ≠ gb143) ∧ x ≠ gb148) v136 t135)) (u72 : Value) (u73 : Value) (u74 : Value) (u75 : Value) (u76 : Value) (u77 : Value) (u78 : Value) (u79 : Value) (u80 : Value) (u81 : Value) (u82 : Value) (u83 : Value) (u84 : Value) (u85 : Value) (u86 : Value) (u87 : Value) (u88 : Value) (u89 : Value) (u90 : Value) (u91 : Value) (u92 : Value) (u93 : Value) (u94 : Value) (u95 : Value) (u96 : Value) (u97 : Value) (u98 : Value) (u99 : Value) (u100 : Value) (u101 : Value) (u102 : Value) (u103 : Value) (u104 : Value) (u105 : Value) (u106 : Value) (u107 : Value) (u108 : Value) (u109 : Value) (u110 : Value) (u111 : Value) (u112 : Value) (u113 : Value) (u114 : Value) (u115 : Value) (u116 : Value) (u117 : Value) (u118 : Value) (u119 : Value) (u120 : Value) (u121 : Value) (u122 : Value) (u123 : Value) (u124 : Value) (u125 : Value) (u126 : Value) (u127 : Value) (u128 : Value) (u129 : Value) (u130 : Value) (u131 : Value) (u132 : Value) (u133 : Value) (u134 : Value) (u135 : Value) (u136 : Value) (u137 : Value) (u138 : Value) (u139 : Value) (u140 : Value) (u141 : Value) (u142 : Value) (u143 : Value) (u144 : Value) (u145 : Value) (u146 : Value) (u147 : Value) (u148 : Value) (u149 : Value) (u150 : Value) (u151 : Value) (u152 : Value) (u153 : Value) (u154 : Value) (u155 : Value) (u156 : Value) (u157 : Value) (u158 : Value) (u159 : Value) (u160 : Value) (u161 : Value) (u162 : Value) (u163 : Value) (u164 : Value) (u165 : Value) (u166 : Value) (u167 : Value) (u168 : Value) (u169 : Value) (u170 : Value) (u171 : Value) (u172 : Value) (u173 : Value) (u174 : Value) (u175 : Value) (u176 : Value) (u177 : Value) (u178 : Value) (u179 : Value) (u180 : Value) (u181 : Value) (u182 : Value) (u183 : Value) (u184 : Value) (u185 : Value) (u186 : Value) (u187 : Value) (u188 : Value) (u189 : Value) (u190 : Value) (u191 : Value) (u192 : Value) (u193 : Value) (u194 : Value) (u195 : Value) (u196 : Value) (u197 : Value) (u198 : Value) (u199 : Value) (u200 : Value) (u201 : Value) (u202 : Value) (u203 : Value) (u204 : Value) (u205 : Value) (u206 : Value) (u207 : Value) (u208 : Value) (u209 : Value) (u210 : Value) (u211 : Value) (u212 : Value) (u213 : Value) (u214 : Value) (u215 : Value) (u216 : Value) (u217 : Value) (u218 : Value) (u219 : Value) (u220 : Value) (u221 : Value) (u222 : Value) (u223 : Value) (u224 : Value) (u225 : Value) (u226 : Value) (u227 : Value) (u228 : Value) (u229 : Value) (u230 : Value) (u231 : Value) (u232 : Value) (u233 : Value) (u234 : Value) (u235 : Value) (u236 : Value) (u237 : Value) (u238 : Value) (u239 : Value) (u240 : Value) (u241 : Value) (u242 : Value) (u243 : Value) (u244 : Value) (u245 : Value) (u246 : Value) (u247 : Value) (u248 : Value) (u249 : Value) (u250 : Value) (u251 : Value) (u252 : Value) (u253 : Value) (u254 : Value) (u255 : Value) (u256 : Value) (u257 : Value) (u258 : Value) (u259 : Value) (u260 : Value) (u261 : Value) (u262 : Value) (u263 : Value) (kj23 : Nat) (HJ23 : Aside0 (kj23 + 1 ≤ kj4)) (wc : World) (u8 : Value) (u40 : Value) (u41 : Value) (u42 : Value) (u43 : Value) (u44 : Value) (u45 : Value) (u46 : Value) (u47 : Value) (u49 : Value) (u50 : Value) (u51 : Value) (u265 : Value) (u266 : Value) (u267 : Value) (u268 : Value) (u269 : Value) (u270 : Value) (u271 : Value) (u272 : Value) (u273 : Value) (u274 : Value) (u275 : Value) (u276 : Value) (u277 : Value) (u278 : Value) (u279 : Value) (u280 : Value) (u281 : Value) (u282 : Value) (u283 : Value) (u284 : Value) (u285 : Value) (u286 : Value) (u287 : Value) (u288 : Value) (u289 : Value) (u290 : Value) (u291 : Value) (u292 : Value) (u293 : Value) (u294 : Value) (u295 : Value) (u296 : Value) (u297 : Value) (u298 : Value) (u299 : Value) (u300 : Value) (u301 : Value) (u302 : Value) (u303 : Value) (u304 : Value) (u305 : Value) (u306 : Value) (u307 : Value) (u308 : Value) (u309 : Value) (u310 : Value) (u311 : Value) (u312 : Value) (u313 : Value) (u314 : Value) (u315 : Value) (u316 : Value) (u317 : Value) (u318 : Value) (u319 : Value) (u320 : Value) (u321 : Value) (u322 : Value) (u323 : Value) (u324 : Value) (u325 : Value) (u326 : Value) (u327 : Value) (u328 : Value) (u329 : Value) (u330 : Value) (u331 : Value) (u332 : Value) (u333 : Value) (u334 : Value) (u335 : Value) (u336 : Value) (u337 : Value) (u338 : Value) (u339 : Value) (u340 : Value) (u341 : Value) (u342 : Value) (u343 : Value) (u344 : Value) (u345 : Value) (u346 : Value) (u347 : Value) (u348 : Value) (u349 : Value) (u350 : Value) (u351 : Value) (u352 : Value) (u353 : Value) (u354 : Value) (u355 : Value) (u356 : Value) (u357 : Value) (u358 : Value) (u359 : Value) (u360 : Value) (u361 : Value) (u362 : Value) (u363 : Value) (u364 : Value) (u365 : Value) (u366 : Value) (u367 : Value) (u368 : Value) (u369 : Value) (u370 : Value) (u371 : Value) (u372 : Value) (u373 : Value) (u374 : Value) (u375 : Value) (u376 : Value) (u377 : Value) (u378 : Value) (u379 : Value) (u380 : Value) (u381 : Value) (u382 : Value) (u383 : Value) (u384 : Value) (u385 : Value) (u386 : Value) (u387 : Value) (u388 : Value) (u389 : Value) (u390 : Value) (u391 : Value) (u392 : Value) (u393 : Value) (u394 : Value) (u395 : Value) (u396 : Value) (u397 : Value) (u398 : Value) (u399 : Value) (u400 : Value) (kq : Nat) (HA : Aside0 (j7 kq l2 a3 t131 t139 t142 t149 t150 a0_0 a0_1 a1_0 a1_1 t140 t141 = some true)) (HJ124 : Aside0 (kq ≤ kj23)) (HO_25 : Aside0 (kRule.R 33 wc w.heap.size (fun k_ => k_ ≠ gb143 ∧ k_ ≠ gb148) v132 t131)) (BK101 : Aside0 (wc.heap[gb101]? = some (Obj.cells #[Value.string a0_0, Value.int IntKind.i64 a0_1] 23))) (BK102 : Aside0 (wc.heap[gb102]? = some (Obj.cells #[Value.string a1_0, Value.int IntKind.i64 a1_1] 23))) (BK143 : Aside0 (wc.heap[gb143]? = some (Obj.cells #[Value.int IntKind.i64 t140, Value.int IntKind.i64 t141] 33))) (BK148 : Aside0 (wc.heap[gb148]? = some (Obj.cells #[Value.int IntKind.i64 t145, Value.int IntKind.i64 t146] 33))) (HB : Aside0 (Below w.heap.size w wc)) : Code.wp Tryz.prog (seqB (seqB (seqB (seqB (seqB (seqB (seqB (seqB (seqB (seqB (seqB (seqB (seqB (seqB (seqB (seqB (seqB (seqB (codeOf Tryz.f3.body))))))))))))))))))) (bodyPost Tryz.prog Tryz.f3 fun e w' => e = .returned (.bool true) ∧ Below w.heap.size w w') ⟨#[Value.agg #[Value.string a0_0, Value.int IntKind.i64 a0_1], Value.agg #[Value.string a1_0, Value.int IntKind.i64 a1_1], Value.slice A2 l2.length c2, Value.string a3, Value.pointer (some { block := gb101, off := 0 }), Value.pointer (some { block := gb102, off := 0 }), undef, undef, u8, v104, Value.bool t106, v108, Value.bool t110, Value.int IntKind.i64 t111, Value.bool t112, Value.int IntKind.i64 t113, Value.bool t114, v116, Value.bool t118, v120, Value.bool t122, v124, Value.bool t126, v128, Value.bool t130, v132, Value.bool t134, v136, Value.bool t138, Value.int IntKind.i64 t139, Value.pointer (some { block := gb143, off := 0 }), Value.bool t142, Value.int IntKind.i64 t144, Value.pointer (some { block := gb148, off := 0 }), Value.bool t147, Value.string t149, Value.bool t150, Value.string t151, Value.bool t152, undef, u40, u41, u42, u43, u44, u45, u46, u47, undef, u49, u50, u51, undef, undef, undef, undef, undef, undef, undef, undef, undef, undef, undef, undef, u64, u65, u66, u67, u68, u69, u70, Value.bool false, u72, u73, u74, u75, u76, u77, u78, u79, u80, u81, u82, u83, u84, u85, u86, u87, u88, u89, u90, u91, u92, u93, u94, u95, u96, u97, u98, u99, u100, u101, u102, u103, u104, u105, u106, u107, u108, u109, u110, u111, u112, u113, u114, u115, u116, u117, u118, u119, u120, u121, u122, u123, u124, u125, u126, u127, u128, u129, u130, u131, u132, u133, u134, u135, u136, u137, u138, u139, u140, u141, u142, u143, u144, u145, u146, u147, u148, u149, u150, u151, u152, u153, u154, u155, u156, u157, u158, u159, u160, u161, u162, u163, u164, u165, u166, u167, u168, u169, u170, u171, u172, u173, u174, u175, u176, u177, u178, u179, u180, u181, u182, u183, u184, u185, u186, u187, u188, u189, u190, u191, u192, u193, u194, u195, u196, u197, u198, u199, u200, u201, u202, u203, u204, u205, u206, u207, u208, u209, u210, u211, u212, u213, u214, u215, u216, u217, u218, u219, u220, u221, u222, u223, u224, u225, u226, u227, u228, u229, u230, u231, u232, u233, u234, u235, u236, u237, u238, u239, u240, u241, u242, u243, u244, u245, u246, u247, u248, u249, u250, u251, u252, u253, u254, u255, u256, u257, u258, u259, u260, u261, u262, u263, Value.bool false, u265, u266, u267, u268, u269, u270, u271, u272, u273, u274, u275, u276, u277, u278, u279, u280, u281, u282, u283, u284, u285, u286, u287, u288, u289, u290, u291, u292, u293, u294, u295, u296, u297, u298, u299, u300, u301, u302, u303, u304, u305, u306, u307, u308, u309, u310, u311, u312, u313, u314, u315, u316, u317, u318, u319, u320, u321, u322, u323, u324, u325, u326, u327, u328, u329, u330, u331, u332, u333, u334, u335, u336, u337, u338, u339, u340, u341, u342, u343, u344, u345, u346, u347, u348, u349, u350, u351, u352, u353, u354, u355, u356, u357, u358, u359, u360, u361, u362, u363, u364, u365, u366, u367, u368, u369, u370, u371, u372, u373, u374, u375, u376, u377, u378, u379, u380, u381, u382, u383, u384, u385, u386, u387, u388, u389, u390, u391, u392, u393, u394, u395, u396, u397, u398, u399, u400, undef, undef, undef, undef, undef, undef, undef, undef, undef, undef, undef, undef, undef, undef, undef, undef, undef, undef, undef, undef, undef, undef, undef, undef, undef, undef, undef, undef, undef, undef, undef, undef, undef, undef, undef, undef, undef, undef, undef, undef, undef, undef, undef, undef, undef, undef, undef, undef, undef, undef, undef, undef, undef, undef, undef, undef, undef, undef, undef, undef, undef, undef, undef, undef, undef, undef, undef, undef, undef, undef, undef, undef, undef, undef, undef, undef, undef, undef, undef, undef], []⟩ wc := by
  show (let Q'_ := bodyPost Tryz.prog Tryz.f3 fun e w' => e = .returned (.bool true) ∧ Below w.heap.size w w'; Code.wp Tryz.prog _ Q'_ _ _)
  intro Q'_
  conv => arg 2; whnf
  conv => arg 4; zeta
  cases kq with
  | zero => exact absurd HA.out (by simp [laws_FnPatternsAnsweredOfAll.j7])
  | succ kj124 =>
   have H := HA.out
   clear HA
   simp only [laws_FnPatternsAnsweredOfAll.j7] at H
   have HC235 := Aside0.mk H
   clear H
   go_upto_region 52 with (fail)
   go_cut [415] from 482 to 415 (fun v415 wc => ∃ (kq : Nat) (x415_234 : Bool), v415 = .bool x415_234 ∧ Aside0 (laws_FnPatternsAnsweredOfAll.j8 kq l2 a3 t149 t150 x415_234 a0_0 a0_1 a1_0 a1_1 = some true) ∧ Aside0 (kq ≤ kj124) ∧ Aside0 (wc.heap[gb101]? = some (.cells #[.string a0_0, .int .i64 a0_1] 23 (0, 0))) ∧ Aside0 (wc.heap[gb102]? = some (.cells #[.string a1_0, .int .i64 a1_1] 23 (0, 0))) ∧ Aside0 (wc.heap[gb143]? = some (.cells #[.int .i64 t140, .int .i64 t141] 33 (0, 0))) ∧ Aside0 (wc.heap[gb148]? = some (.cells #[.int .i64 t145, .int .i64 t146] 33 (0, 0))) ∧ Aside0 (Below w.heap.size w wc))
   case first =>
    have H := HC235.out
    clear HC235
    by_cases c236 : t142 = true
    ·subst c236
     rw [if_pos rfl] at H
     obtain ⟨ji237, hji237⟩ : ∃ j_ : Int, (wrap64 (t139 - 1)) = j_ := ⟨_, rfl⟩
     replace H : (if 0 ≤ (ji237) then (if (ji237) < (a0_0.size : Int) then (if (bt a0_0 (ji237)) = 120 then ((laws_gIn.f kj124 t131 t140 t141).bind fun t182 => (laws_FnPatternsAnsweredOfAll.j8 kj124 l2 a3 t149 t150 (!t182) a0_0 a0_1 a1_0 a1_1)) else (some false)) else (none)) else (none)) = some true := by first | (rw [hji237] at H; exact H) | (simp only [hji237] at H ⊢; exact H)
     have hji237w : (IntKind.i64.wrap (t139 - 1)) = ji237 := (i64_w _).trans hji237
     by_cases c238 : 0 ≤ (ji237)
     ·rw [if_pos c238] at H
      have c238b0 : decide (0 ≤ (ji237)) = true := decide_eq_true c238
      clear c238
      (first | rw [c238b0] | rw [c238b1] | (simp only [i64_w, i32_w]; rw [c238b0]) | skip)
      by_cases c239 : (ji237) < (a0_0.size : Int)
      ·rw [if_pos c239] at H
       have c239b0 : decide ((ji237) < (a0_0.size : Int)) = true := decide_eq_true c239
       clear c239
       by_cases c241 : (bt a0_0 (ji237)) = 120
       ·rw [if_pos c241] at H
        have c241b0 : ((bt a0_0 (ji237)) == 120) = true := beq_iff_eq.mpr c241
        have c241b1 : ((bt a0_0 (ji237)) != 120) = false := bne_eq_false_iff_eq.mpr c241
        clear c241
        obtain ⟨t182, A242, H⟩ := obnd_ H
        (try dsimp only at H)
        have H' := Aside0.mk H
        clear H
        have hnb243 := NB101_102.out
        have hnc243 := NB102_101.out
        have hnb244 := NB101_143.out
        have hnc244 := NB143_101.out
        have hnb245 := NB101_148.out
        have hnc245 := NB148_101.out
        have hcz246_0 : wc.cell? ⟨gb101, 0, none⟩ = some (.string a0_0) := (blk_cell BK101.out 0).trans rfl
        have hcz246_1 : wc.cell? ⟨gb101, 1, none⟩ = some (.int .i64 a0_1) := (blk_cell BK101.out 1).trans rfl
        have hfz246_0 := blk_frozen BK101.out 0
        have hfz246_1 := blk_frozen BK101.out 1
        have p240 : 0 ≤ ((ji237) : Int) := of_decide_eq_true k91_
        have q240 : (ji237) < (a0_0.size : Int) := of_decide_eq_true k91_
        have hx240 := bt_at a0_0 (ji237)
        replace p240 := eq_true p240
        replace q240 := eq_true q240
        have hnb247 := NB143_102.out
        have hnc247 := NB102_143.out
        have hnb248 := NB143_148.out
        have hnc248 := NB148_143.out
        have hcz249_0 : wc.cell? ⟨gb143, 0, none⟩ = some (.int .i64 t140) := (blk_cell BK143.out 0).trans rfl
        have hcz249_1 : wc.cell? ⟨gb143, 1, none⟩ = some (.int .i64 t141) := (blk_cell BK143.out 1).trans rfl
        have hfz249_0 := blk_frozen BK143.out 0
        have hfz249_1 := blk_frozen BK143.out 1
        obtain ⟨Ao250, co250, eo250⟩ := Kd.R_slice HO_25.out
        subst eo250
        go_wp2_with (first | (go_at_call 26; (with_reducible refine (laws_gIn.calls kj124 _ _ t131 t140 t141 t182 _ ?side1 ?side2 A242.out).mono ?_); (case side1 => exact k51_); (case side2 => exact (Kd.R_reads' HO_25.out).2.1); rintro e w251 ⟨rfl, hb⟩; replace HO_25 := HO_25.mw hb; replace BK101 := BK101.mw hb; replace BK102 := BK102.mw hb; replace BK143 := BK143.mw hb; replace BK148 := BK148.mw hb; replace HB := Aside0.mk (below_step k62_ hb); (try clear hb)))
        go_meet
        case rel => exact ⟨_, (!t182), k92_, H', ⟨by have := HJ4.out; have := HJ23.out; have := HJ124.out; first | omega | exact Nat.le_refl _⟩, ⟨k85_⟩, ⟨k86_⟩, ⟨k88_⟩, ⟨k89_⟩, ⟨k62_⟩⟩
       ·rw [if_neg c241] at H
        have c241b0 : ((bt a0_0 (ji237)) == 120) = false := beq_eq_false_iff_ne.mpr c241
        have c241b1 : ((bt a0_0 (ji237)) != 120) = true := bne_iff_ne.mpr c241
        exact absurd H (by simp)
      ·rw [if_neg c239] at H
       exact absurd H (by simp)
     ·rw [if_neg c238] at H
      exact absurd H (by simp)
    ·replace c236 := Bool.eq_false_iff.mpr c236
     subst c236
     rw [if_neg (show ¬ (false = true) by decide)] at H
     have H' := Aside0.mk H
     clear H
     go_wp2
     go_meet
     case rel => exact ⟨_, (false), k92_, H', ⟨by have := HJ4.out; have := HJ23.out; have := HJ124.out; first | omega | exact Nat.le_refl _⟩, ⟨k85_⟩, ⟨k86_⟩, ⟨k88_⟩, ⟨k89_⟩, ⟨k62_⟩⟩
   case rest =>
    clear HC235
    obtain ⟨kq, x415_234, rfl, HA, HJ234, BK101, BK102, BK143, BK148, HB⟩ := hcut
    cases kq with
    | zero => exact absurd HA.out (by simp [laws_FnPatternsAnsweredOfAll.j8])
    | succ kj234 =>
     have H := HA.out
     clear HA
     simp only [laws_FnPatternsAnsweredOfAll.j8] at H
     by_cases c252 : x415_234 = true
     ·subst c252
      rw [if_pos rfl] at H
      exact absurd H (by simp)
     ·replace c252 := Bool.eq_false_iff.mpr c252
      subst c252
      rw [if_neg (show ¬ (false = true) by decide)] at H
      have HC253 := Aside0.mk H
      clear H
      go_upto_if 416 with (fail)
      go_cut [] from 416 to 416 (fun wc => ∃ (kq : Nat), Aside0 (laws_FnPatternsAnsweredOfAll.j9 kq l2 a3 a1_0 a1_1 = some true) ∧ Aside0 (kq ≤ kj234) ∧ Aside0 (wc.heap[gb101]? = some (.cells #[.string a0_0, .int .i64 a0_1] 23 (0, 0))) ∧ Aside0 (wc.heap[gb102]? = some (.cells #[.string a1_0, .int .i64 a1_1] 23 (0, 0))) ∧ Aside0 (wc.heap[gb143]? = some (.cells #[.int .i64 t140, .int .i64 t141] 33 (0, 0))) ∧ Aside0 (wc.heap[gb148]? = some (.cells #[.int .i64 t145, .int .i64 t146] 33 (0, 0))) ∧ Aside0 (Below w.heap.size w wc))
      case first =>
       have H := HC253.out
       clear HC253
       by_cases c254 : t150 = true
       ·subst c254
        rw [if_pos rfl] at H
        obtain ⟨⟨t183, t184, t185⟩, A255, H⟩ := obnd_ H
        (try dsimp only at H)
        by_cases c256 : t185 = true
        ·subst c256
         rw [if_pos rfl] at H
         by_cases c257 : (!(t183.toList == a0_0.toList) || (!(t184 == a0_1))) = true
         ·rw [if_pos c257] at H
          have c257b0 : (!(t183.toList == a0_0.toList) || (!(t184 == a0_1))) = true := c257
          clear c257
          (first | rw [c257b0] | rw [c257b1] | (simp only [i64_w, i32_w]; rw [c257b0]) | skip)
          exact absurd H (by simp)
         ·rw [if_neg c257] at H
          have c257b0 : (!(t183.toList == a0_0.toList) || (!(t184 == a0_1))) = false := by simpa using c257
          clear c257
          (first | rw [c257b0] | rw [c257b1] | (simp only [i64_w, i32_w]; rw [c257b0]) | skip)
          have H' := Aside0.mk H
          clear H
          go_wp2_with (first | ((with_reducible refine gate_callee (f := 28) rfl ?_); refine goesL_ (some 419) rfl rfl Tryz.func28 (by kernel_rfl) rfl #[.string t149] rfl k59_ ?_; (refine (impl_ParsePuzzle.calls t149 t183 t184 true _ A255.out (GlobOk.below HG.out k62_)).mono ?_); rintro e w258 ⟨rfl, hb⟩; refine ⟨_, rfl, ?_⟩; replace BK101 := BK101.mw hb; replace BK102 := BK102.mw hb; replace BK143 := BK143.mw hb; replace BK148 := BK148.mw hb; replace HB := Aside0.mk (below_step k62_ hb); (try clear hb)) | ((with_reducible refine gate_dst (N := 52) rfl ?_); (try (refine gate_guard (by rfl) ?_; dsimp only)); refine box_event ?hg (N := 52) ?hd (cs := #[.string (⟨#[]⟩ : ByteArray), .int .i64 0]) (t := 23) ?hr ?_; (case hd => rfl); (case hg => rfl); (case hr => exact k94_); intro gb186 hg w259 hbox hb; have BK186 := Aside0.mk (hbox); have GW186 := Aside0.mk ((by rw [hg]; exact (below_size k62_) : w.heap.size ≤ gb186)); have GE186 := Aside0.mk ((by rw [hg]; exact (below_size k62_) : w.heap.size ≤ gb186)); replace HB := Aside0.mk (below_step k62_ hb); have NB101_186 := Aside0.mk (BK101.ne hg); have NB186_101 := Aside0.mk (BK101.ne hg).symm; replace BK101 := BK101.mw hb; have NB102_186 := Aside0.mk (BK102.ne hg); have NB186_102 := Aside0.mk (BK102.ne hg).symm; replace BK102 := BK102.mw hb; have NB143_186 := Aside0.mk (BK143.ne hg); have NB186_143 := Aside0.mk (BK143.ne hg).symm; replace BK143 := BK143.mw hb; have NB148_186 := Aside0.mk (BK148.ne hg); have NB186_148 := Aside0.mk (BK148.ne hg).symm; replace BK148 := BK148.mw hb; clear hb hbox hg; have hnb260 := NB186_101.out; have hnc260 := NB101_186.out; have hnb261 := NB186_102.out; have hnc261 := NB102_186.out; have hnb262 := NB186_143.out; have hnc262 := NB143_186.out; have hnb263 := NB186_148.out; have hnc263 := NB148_186.out; have hcz264_0 : w259.cell? ⟨gb186, 0, none⟩ = some (.string (⟨#[]⟩ : ByteArray)) := (blk_cell BK186.out 0).trans rfl; have hcz264_1 : w259.cell? ⟨gb186, 1, none⟩ = some (.int .i64 0) := (blk_cell BK186.out 1).trans rfl; have hfz264_0 := blk_frozen BK186.out 0; have hfz264_1 := blk_frozen BK186.out 1; have hnb265 := NB101_102.out; have hnc265 := NB102_101.out; have hnb266 := NB101_143.out; have hnc266 := NB143_101.out; have hnb267 := NB101_148.out; have hnc267 := NB148_101.out; have hcz268_0 : w259.cell? ⟨gb101, 0, none⟩ = some (.string a0_0) := (blk_cell BK101.out 0).trans rfl; have hcz268_1 : w259.cell? ⟨gb101, 1, none⟩ = some (.int .i64 a0_1) := (blk_cell BK101.out 1).trans rfl; have hfz268_0 := blk_frozen BK101.out 0; have hfz268_1 := blk_frozen BK101.out 1))
          go_meet
          case rel => exact ⟨_, H', ⟨by have := HJ4.out; have := HJ23.out; have := HJ124.out; have := HJ234.out; first | omega | exact Nat.le_refl _⟩, ⟨by (with_reducible repeat (first | refine blk_drewN ?_ _ | refine blk_drew ?_ | refine blk_alloc ?_ _)); refine blk_far ?_ NB101_186.out _; (with_reducible repeat (first | refine blk_drewN ?_ _ | refine blk_drew ?_ | refine blk_alloc ?_ _)); refine blk_far ?_ NB101_186.out _; apply_rules only [BK101.out, blk_drewN, blk_drew, blk_alloc]⟩, ⟨by (with_reducible repeat (first | refine blk_drewN ?_ _ | refine blk_drew ?_ | refine blk_alloc ?_ _)); refine blk_far ?_ NB102_186.out _; (with_reducible repeat (first | refine blk_drewN ?_ _ | refine blk_drew ?_ | refine blk_alloc ?_ _)); refine blk_far ?_ NB102_186.out _; apply_rules only [BK102.out, blk_drewN, blk_drew, blk_alloc]⟩, ⟨by (with_reducible repeat (first | refine blk_drewN ?_ _ | refine blk_drew ?_ | refine blk_alloc ?_ _)); refine blk_far ?_ NB143_186.out _; (with_reducible repeat (first | refine blk_drewN ?_ _ | refine blk_drew ?_ | refine blk_alloc ?_ _)); refine blk_far ?_ NB143_186.out _; apply_rules only [BK143.out, blk_drewN, blk_drew, blk_alloc]⟩, ⟨by (with_reducible repeat (first | refine blk_drewN ?_ _ | refine blk_drew ?_ | refine blk_alloc ?_ _)); refine blk_far ?_ NB148_186.out _; (with_reducible repeat (first | refine blk_drewN ?_ _ | refine blk_drew ?_ | refine blk_alloc ?_ _)); refine blk_far ?_ NB148_186.out _; apply_rules only [BK148.out, blk_drewN, blk_drew, blk_alloc]⟩, ⟨by apply_rules only [HB.out, below_alloc, pw_below_drewN, below_drew1, below_set, GE101.out, GE102.out, GE143.out, GE148.out, GE186.out]⟩⟩
        ·replace c256 := Bool.eq_false_iff.mpr c256
         subst c256
         rw [if_neg (show ¬ (false = true) by decide)] at H
         exact absurd H (by simp)
       ·replace c254 := Bool.eq_false_iff.mpr c254
        subst c254
        rw [if_neg (show ¬ (false = true) by decide)] at H
        have H' := Aside0.mk H
        clear H
        go_wp2
        go_meet
        case rel => exact ⟨_, H', ⟨by have := HJ4.out; have := HJ23.out; have := HJ124.out; have := HJ234.out; first | omega | exact Nat.le_refl _⟩, ⟨k85_⟩, ⟨k86_⟩, ⟨k88_⟩, ⟨k89_⟩, ⟨k62_⟩⟩
      case rest =>
       clear HC253
       (try clear c252)
       obtain ⟨kq, HA, HJ252, BK101, BK102, BK143, BK148, HB⟩ := hcut
       cases kq with
       | zero => exact absurd HA.out (by simp [laws_FnPatternsAnsweredOfAll.j9])
       | succ kj252 =>
        have H := HA.out
        clear HA
        simp only [laws_FnPatternsAnsweredOfAll.j9] at H
        obtain ⟨⟨t187, t188⟩, A269, H⟩ := obnd_ H
        (try dsimp only at H)
        obtain ⟨⟨t189, t190⟩, A270, H⟩ := obnd_ H
        (try dsimp only at H)
        obtain ⟨⟨t191, t192, t193⟩, A271, H⟩ := obnd_ H
        (try dsimp only at H)
        obtain ⟨⟨t195, t196, t197⟩, A272, H⟩ := obnd_ H
        (try dsimp only at H)
        by_cases c273 : (t188 != t190) = true
        ·rw [if_pos c273] at H
         have c273b0 : (t188 != t190) = true := c273
         (try (have c273b1 : decide (t188 = t190) = false := by simpa using c273))
         (try (have c273b2 : (t188 == t190) = false := by simpa using c273))
         (try (have c273b3 : ¬ (t188 = t190) := by simpa using c273))
         clear c273
         exact absurd H (by simp)
        ·rw [if_neg c273] at H
         have c273b0 : (t188 != t190) = false := by simpa using c273
         (try (have c273b1 : decide (t188 = t190) = true := by simpa using c273))
         (try (have c273b2 : (t188 == t190) = true := by simpa using c273))
         clear c273
         by_cases c274 : (t187 != t189) = true
         ·rw [if_pos c274] at H
          have c274b0 : (t187 != t189) = true := c274
          (try (have c274b1 : decide (t187 = t189) = false := by simpa using c274))
          (try (have c274b2 : (t187 == t189) = false := by simpa using c274))
          (try (have c274b3 : ¬ (t187 = t189) := by simpa using c274))
          clear c274
          exact absurd H (by simp)
         ·rw [if_neg c274] at H
          have c274b0 : (t187 != t189) = false := by simpa using c274
          (try (have c274b1 : decide (t187 = t189) = true := by simpa using c274))
          (try (have c274b2 : (t187 == t189) = true := by simpa using c274))
          clear c274
          by_cases c275 : (t193 != t197) = true
          ·rw [if_pos c275] at H
           have c275b0 : (t193 != t197) = true := c275
           (try (have c275b1 : decide (t193 = t197) = false := by simpa using c275))
           (try (have c275b2 : (t193 == t197) = false := by simpa using c275))
           (try (have c275b3 : ¬ (t193 = t197) := by simpa using c275))
           clear c275
           exact absurd H (by simp)
          ·rw [if_neg c275] at H
           have c275b0 : (t193 != t197) = false := by simpa using c275
           (try (have c275b1 : decide (t193 = t197) = true := by simpa using c275))
           (try (have c275b2 : (t193 == t197) = true := by simpa using c275))
           clear c275
           by_cases c276 : (!(t191.toList == t195.toList) || (!(t192 == t196))) = true
           ·rw [if_pos c276] at H
            have c276b0 : (!(t191.toList == t195.toList) || (!(t192 == t196))) = true := c276
            clear c276
            exact absurd H (by simp)
           ·rw [if_neg c276] at H
            have c276b0 : (!(t191.toList == t195.toList) || (!(t192 == t196))) = false := by simpa using c276
            clear c276
            by_cases c277 : t193 = true
            ·subst c277
             rw [if_pos rfl] at H
             obtain ⟨⟨t199, t200⟩, A278, H⟩ := obnd_ H
             (try dsimp only at H)
             by_cases c279 : t200 = true
             ·subst c279
              rw [if_pos rfl] at H
              have HV_ := Option.some.inj H
              try subst HV_
              have hnb280 := NB102_101.out
              have hnc280 := NB101_102.out
              have hnb281 := NB102_143.out
              have hnc281 := NB143_102.out
              have hnb282 := NB102_148.out
              have hnc282 := NB148_102.out
              have hcz283_0 : wc.cell? ⟨gb102, 0, none⟩ = some (.string a1_0) := (blk_cell BK102.out 0).trans rfl
              have hcz283_1 : wc.cell? ⟨gb102, 1, none⟩ = some (.int .i64 a1_1) := (blk_cell BK102.out 1).trans rfl
              have hfz283_0 := blk_frozen BK102.out 0
              have hfz283_1 := blk_frozen BK102.out 1
              go_wp2_with (first | ((with_reducible refine gate_callee (f := 23) rfl ?_); refine goesL_ (some 432) rfl rfl Tryz.func23 (by kernel_rfl) rfl #[.agg #[.string a1_0, .int .i64 a1_1], .slice A2 l2.length c2] rfl k59_ ?_; (with_reducible refine (impl_IsAnswer.calls kj252 a1_0 a1_1 _ _ l2 t187 t188 _ ?side1 ?side2 A269.out).mono ?_); (case side1 => exact k49_); (case side2 => exact HC2.out); rintro e w284 ⟨rfl, hb⟩; refine ⟨_, rfl, ?_⟩; replace BK101 := BK101.mw hb; replace BK102 := BK102.mw hb; replace BK143 := BK143.mw hb; replace BK148 := BK148.mw hb; replace HB := Aside0.mk (below_step k62_ hb); (try clear hb); have hcz285_0 : w284.cell? ⟨gb102, 0, none⟩ = some (.string a1_0) := (blk_cell BK102.out 0).trans rfl; have hcz285_1 : w284.cell? ⟨gb102, 1, none⟩ = some (.int .i64 a1_1) := (blk_cell BK102.out 1).trans rfl; have hfz285_0 := blk_frozen BK102.out 0; have hfz285_1 := blk_frozen BK102.out 1) | ((with_reducible refine gate_callee (f := 29) rfl ?_); refine goesL_ (some 438) rfl rfl Tryz.func29 (by kernel_rfl) rfl #[.agg #[.string a1_0, .int .i64 a1_1], .slice A2 l2.length c2] rfl k59_ ?_; (with_reducible refine (spec_IsAnswer.calls kj252 a1_0 a1_1 _ _ l2 t189 t190 _ ?side1 ?side2 A270.out).mono ?_); (case side1 => exact k49_); (case side2 => exact HC2.out); rintro e w286 ⟨rfl, hb⟩; refine ⟨_, rfl, ?_⟩; replace BK101 := BK101.mw hb; replace BK102 := BK102.mw hb; replace BK143 := BK143.mw hb; replace BK148 := BK148.mw hb; replace HB := Aside0.mk (below_step k62_ hb); (try clear hb)) | ((with_reducible refine gate_callee (f := 28) rfl ?_); refine goesL_ (some 443) rfl rfl Tryz.func28 (by kernel_rfl) rfl #[.string a3] rfl k59_ ?_; (refine (impl_ParsePuzzle.calls a3 t191 t192 true _ A271.out (GlobOk.below HG.out k62_)).mono ?_); rintro e w287 ⟨rfl, hb⟩; refine ⟨_, rfl, ?_⟩; replace BK101 := BK101.mw hb; replace BK102 := BK102.mw hb; replace BK143 := BK143.mw hb; replace BK148 := BK148.mw hb; replace HB := Aside0.mk (below_step k62_ hb); (try clear hb)) | ((with_reducible refine gate_dst (N := 58) rfl ?_); (try (refine gate_guard (by rfl) ?_; dsimp only)); refine box_event ?hg (N := 58) ?hd (cs := #[.string (⟨#[]⟩ : ByteArray), .int .i64 0]) (t := 23) ?hr ?_; (case hd => rfl); (case hg => rfl); (case hr => exact k94_); intro gb194 hg w288 hbox hb; have BK194 := Aside0.mk (hbox); have GW194 := Aside0.mk ((by rw [hg]; exact (below_size k62_) : w.heap.size ≤ gb194)); have GE194 := Aside0.mk ((by rw [hg]; exact (below_size k62_) : w.heap.size ≤ gb194)); replace HB := Aside0.mk (below_step k62_ hb); have NB101_194 := Aside0.mk (BK101.ne hg); have NB194_101 := Aside0.mk (BK101.ne hg).symm; replace BK101 := BK101.mw hb; have NB102_194 := Aside0.mk (BK102.ne hg); have NB194_102 := Aside0.mk (BK102.ne hg).symm; replace BK102 := BK102.mw hb; have NB143_194 := Aside0.mk (BK143.ne hg); have NB194_143 := Aside0.mk (BK143.ne hg).symm; replace BK143 := BK143.mw hb; have NB148_194 := Aside0.mk (BK148.ne hg); have NB194_148 := Aside0.mk (BK148.ne hg).symm; replace BK148 := BK148.mw hb; clear hb hbox hg; have hnb289 := NB194_101.out; have hnc289 := NB101_194.out; have hnb290 := NB194_102.out; have hnc290 := NB102_194.out; have hnb291 := NB194_143.out; have hnc291 := NB143_194.out; have hnb292 := NB194_148.out; have hnc292 := NB148_194.out; have hcz293_0 : w288.cell? ⟨gb194, 0, none⟩ = some (.string (⟨#[]⟩ : ByteArray)) := (blk_cell BK194.out 0).trans rfl; have hcz293_1 : w288.cell? ⟨gb194, 1, none⟩ = some (.int .i64 0) := (blk_cell BK194.out 1).trans rfl; have hfz293_0 := blk_frozen BK194.out 0; have hfz293_1 := blk_frozen BK194.out 1) | ((with_reducible refine gate_callee (f := 30) rfl ?_); refine goesL_ (some 448) rfl rfl Tryz.func30 (by kernel_rfl) rfl #[.string a3] rfl k59_ ?_; (with_reducible refine (spec_ParsePuzzle.calls kj252 a3 t195 t196 t197 _ A272.out).mono ?_); rintro e w294 ⟨rfl, hb⟩; refine ⟨_, rfl, ?_⟩; replace BK101 := Aside0.mk (blk_below (g := gb101) (o := .cells #[.string a0_0, .int .i64 a0_1] 23 (0, 0)) k25_ hb); replace BK102 := Aside0.mk (blk_below (g := gb102) (o := .cells #[.string a1_0, .int .i64 a1_1] 23 (0, 0)) k27_ hb); replace BK143 := Aside0.mk (blk_below (g := gb143) (o := .cells #[.int .i64 t140, .int .i64 t141] 33 (0, 0)) k29_ hb); replace BK148 := Aside0.mk (blk_below (g := gb148) (o := .cells #[.int .i64 t145, .int .i64 t146] 33 (0, 0)) k31_ hb); replace BK194 := Aside0.mk (blk_below (g := gb194) (o := .cells #[.string t191, .int .i64 t192] 23 (0, 0)) k14_ hb); replace HB := Aside0.mk (below_step k61_ hb); (try clear hb)) | ((with_reducible refine gate_dst (N := 60) rfl ?_); (try (refine gate_guard (by rfl) ?_; dsimp only)); refine box_event ?hg (N := 60) ?hd (cs := #[.string (⟨#[]⟩ : ByteArray), .int .i64 0]) (t := 23) ?hr ?_; (case hd => rfl); (case hg => rfl); (case hr => exact k94_); intro gb198 hg w295 hbox hb; have BK198 := Aside0.mk (hbox); have GW198 := Aside0.mk ((by rw [hg]; exact (below_size k61_) : w.heap.size ≤ gb198)); have GE198 := Aside0.mk ((by rw [hg]; exact (below_size k61_) : w.heap.size ≤ gb198)); replace HB := Aside0.mk (below_step k61_ hb); have NB101_198 := Aside0.mk (BK101.ne hg); have NB198_101 := Aside0.mk (BK101.ne hg).symm; replace BK101 := BK101.mw hb; have NB102_198 := Aside0.mk (BK102.ne hg); have NB198_102 := Aside0.mk (BK102.ne hg).symm; replace BK102 := BK102.mw hb; have NB143_198 := Aside0.mk (BK143.ne hg); have NB198_143 := Aside0.mk (BK143.ne hg).symm; replace BK143 := BK143.mw hb; have NB148_198 := Aside0.mk (BK148.ne hg); have NB198_148 := Aside0.mk (BK148.ne hg).symm; replace BK148 := BK148.mw hb; have NB194_198 := Aside0.mk (BK194.ne hg); have NB198_194 := Aside0.mk (BK194.ne hg).symm; replace BK194 := BK194.mw hb; clear hb hbox hg; have hnb296 := NB198_101.out; have hnc296 := NB101_198.out; have hnb297 := NB198_102.out; have hnc297 := NB102_198.out; have hnb298 := NB198_143.out; have hnc298 := NB143_198.out; have hnb299 := NB198_148.out; have hnc299 := NB148_198.out; have hnb300 := NB198_194.out; have hnc300 := NB194_198.out; have hcz301_0 : w295.cell? ⟨gb198, 0, none⟩ = some (.string (⟨#[]⟩ : ByteArray)) := (blk_cell BK198.out 0).trans rfl; have hcz301_1 : w295.cell? ⟨gb198, 1, none⟩ = some (.int .i64 0) := (blk_cell BK198.out 1).trans rfl; have hfz301_0 := blk_frozen BK198.out 0; have hfz301_1 := blk_frozen BK198.out 1; have hcz302_0 : w295.cell? ⟨gb194, 0, none⟩ = some (.string t191) := (blk_cell BK194.out 0).trans rfl; have hcz302_1 : w295.cell? ⟨gb194, 1, none⟩ = some (.int .i64 t192) := (blk_cell BK194.out 1).trans rfl; have hfz302_0 := blk_frozen BK194.out 0; have hfz302_1 := blk_frozen BK194.out 1) | ((with_reducible refine gate_callee (f := 17) rfl ?_); refine goesL_ (some 472) rfl rfl Tryz.func17 (by kernel_rfl) rfl #[.agg #[.string t191, .int .i64 t192]] rfl k59_ ?_; (with_reducible refine (impl_PuzzleText.calls t191 t192 t199 true _ A278.out).mono ?_); rintro e w303 ⟨rfl, hb⟩; refine ⟨_, rfl, ?_⟩; replace BK101 := Aside0.mk (blk_below (g := gb101) (o := .cells #[.string a0_0, .int .i64 a0_1] 23 (0, 0)) (by (with_reducible repeat (first | refine blk_drewN ?_ _ | refine blk_drew ?_ | refine blk_alloc ?_ _)); refine blk_far ?_ NB101_198.out _; (with_reducible repeat (first | refine blk_drewN ?_ _ | refine blk_drew ?_ | refine blk_alloc ?_ _)); refine blk_far ?_ NB101_198.out _; apply_rules only [BK101.out, blk_drewN, blk_drew, blk_alloc]) hb); replace BK102 := Aside0.mk (blk_below (g := gb102) (o := .cells #[.string a1_0, .int .i64 a1_1] 23 (0, 0)) (by (with_reducible repeat (first | refine blk_drewN ?_ _ | refine blk_drew ?_ | refine blk_alloc ?_ _)); refine blk_far ?_ NB102_198.out _; (with_reducible repeat (first | refine blk_drewN ?_ _ | refine blk_drew ?_ | refine blk_alloc ?_ _)); refine blk_far ?_ NB102_198.out _; apply_rules only [BK102.out, blk_drewN, blk_drew, blk_alloc]) hb); replace BK143 := Aside0.mk (blk_below (g := gb143) (o := .cells #[.int .i64 t140, .int .i64 t141] 33 (0, 0)) (by (with_reducible repeat (first | refine blk_drewN ?_ _ | refine blk_drew ?_ | refine blk_alloc ?_ _)); refine blk_far ?_ NB143_198.out _; (with_reducible repeat (first | refine blk_drewN ?_ _ | refine blk_drew ?_ | refine blk_alloc ?_ _)); refine blk_far ?_ NB143_198.out _; apply_rules only [BK143.out, blk_drewN, blk_drew, blk_alloc]) hb); replace BK148 := Aside0.mk (blk_below (g := gb148) (o := .cells #[.int .i64 t145, .int .i64 t146] 33 (0, 0)) (by (with_reducible repeat (first | refine blk_drewN ?_ _ | refine blk_drew ?_ | refine blk_alloc ?_ _)); refine blk_far ?_ NB148_198.out _; (with_reducible repeat (first | refine blk_drewN ?_ _ | refine blk_drew ?_ | refine blk_alloc ?_ _)); refine blk_far ?_ NB148_198.out _; apply_rules only [BK148.out, blk_drewN, blk_drew, blk_alloc]) hb); replace BK194 := Aside0.mk (blk_below (g := gb194) (o := .cells #[.string t191, .int .i64 t192] 23 (0, 0)) (by (with_reducible repeat (first | refine blk_drewN ?_ _ | refine blk_drew ?_ | refine blk_alloc ?_ _)); refine blk_far ?_ NB194_198.out _; (with_reducible repeat (first | refine blk_drewN ?_ _ | refine blk_drew ?_ | refine blk_alloc ?_ _)); refine blk_far ?_ NB194_198.out _; apply_rules only [BK194.out, blk_drewN, blk_drew, blk_alloc]) hb); replace BK198 := Aside0.mk (blk_below (g := gb198) (o := .cells #[.string t195, .int .i64 t196] 23 (0, 0)) (by (with_reducible repeat (first | refine blk_drewN ?_ _ | refine blk_drew ?_ | refine blk_alloc ?_ _)); refine blk_put (cs := #[.string t195, .int .i64 0]) ?_ 1 _ rfl; (with_reducible repeat (first | refine blk_drewN ?_ _ | refine blk_drew ?_ | refine blk_alloc ?_ _)); refine blk_put (cs := #[.string (⟨#[]⟩ : ByteArray), .int .i64 0]) ?_ 0 _ rfl; apply_rules only [BK198.out, blk_drewN, blk_drew, blk_alloc]) hb); replace HB := Aside0.mk (below_step (by apply_rules only [HB.out, below_alloc, pw_below_drewN, below_drew1, below_set, GE101.out, GE102.out, GE143.out, GE148.out, GE194.out, GE198.out]) hb); (try clear hb)))
              go_ret
              exact ⟨k70_, by apply_rules only [HB.out, below_alloc, pw_below_drewN, below_drew1, below_set, GE101.out, GE102.out, GE143.out, GE148.out, GE194.out, GE198.out]⟩
             ·replace c279 := Bool.eq_false_iff.mpr c279
              subst c279
              rw [if_neg (show ¬ (false = true) by decide)] at H
              exact absurd H (by simp)
            ·replace c277 := Bool.eq_false_iff.mpr c277
             subst c277
             have H1 : (some true) = some true := rfl
             clear H
             have H := H1
             clear H1
             clear H
             have hnb304 := NB102_101.out
             have hnc304 := NB101_102.out
             have hnb305 := NB102_143.out
             have hnc305 := NB143_102.out
             have hnb306 := NB102_148.out
             have hnc306 := NB148_102.out
             have hcz307_0 : wc.cell? ⟨gb102, 0, none⟩ = some (.string a1_0) := (blk_cell BK102.out 0).trans rfl
             have hcz307_1 : wc.cell? ⟨gb102, 1, none⟩ = some (.int .i64 a1_1) := (blk_cell BK102.out 1).trans rfl
             have hfz307_0 := blk_frozen BK102.out 0
             have hfz307_1 := blk_frozen BK102.out 1
             go_wp2_with (first | ((with_reducible refine gate_callee (f := 23) rfl ?_); refine goesL_ (some 432) rfl rfl Tryz.func23 (by kernel_rfl) rfl #[.agg #[.string a1_0, .int .i64 a1_1], .slice A2 l2.length c2] rfl k59_ ?_; (with_reducible refine (impl_IsAnswer.calls kj252 a1_0 a1_1 _ _ l2 t187 t188 _ ?side1 ?side2 A269.out).mono ?_); (case side1 => exact k49_); (case side2 => exact HC2.out); rintro e w308 ⟨rfl, hb⟩; refine ⟨_, rfl, ?_⟩; replace BK101 := BK101.mw hb; replace BK102 := BK102.mw hb; replace BK143 := BK143.mw hb; replace BK148 := BK148.mw hb; replace HB := Aside0.mk (below_step k62_ hb); (try clear hb); have hcz309_0 : w308.cell? ⟨gb102, 0, none⟩ = some (.string a1_0) := (blk_cell BK102.out 0).trans rfl; have hcz309_1 : w308.cell? ⟨gb102, 1, none⟩ = some (.int .i64 a1_1) := (blk_cell BK102.out 1).trans rfl; have hfz309_0 := blk_frozen BK102.out 0; have hfz309_1 := blk_frozen BK102.out 1) | ((with_reducible refine gate_callee (f := 29) rfl ?_); refine goesL_ (some 438) rfl rfl Tryz.func29 (by kernel_rfl) rfl #[.agg #[.string a1_0, .int .i64 a1_1], .slice A2 l2.length c2] rfl k59_ ?_; (with_reducible refine (spec_IsAnswer.calls kj252 a1_0 a1_1 _ _ l2 t189 t190 _ ?side1 ?side2 A270.out).mono ?_); (case side1 => exact k49_); (case side2 => exact HC2.out); rintro e w310 ⟨rfl, hb⟩; refine ⟨_, rfl, ?_⟩; replace BK101 := BK101.mw hb; replace BK102 := BK102.mw hb; replace BK143 := BK143.mw hb; replace BK148 := BK148.mw hb; replace HB := Aside0.mk (below_step k62_ hb); (try clear hb)) | ((with_reducible refine gate_callee (f := 28) rfl ?_); refine goesL_ (some 443) rfl rfl Tryz.func28 (by kernel_rfl) rfl #[.string a3] rfl k59_ ?_; (refine (impl_ParsePuzzle.calls a3 t191 t192 false _ A271.out (GlobOk.below HG.out k62_)).mono ?_); rintro e w311 ⟨rfl, hb⟩; refine ⟨_, rfl, ?_⟩; replace BK101 := BK101.mw hb; replace BK102 := BK102.mw hb; replace BK143 := BK143.mw hb; replace BK148 := BK148.mw hb; replace HB := Aside0.mk (below_step k62_ hb); (try clear hb)) | ((with_reducible refine gate_dst (N := 58) rfl ?_); (try (refine gate_guard (by rfl) ?_; dsimp only)); refine box_event ?hg (N := 58) ?hd (cs := #[.string (⟨#[]⟩ : ByteArray), .int .i64 0]) (t := 23) ?hr ?_; (case hd => rfl); (case hg => rfl); (case hr => exact k94_); intro gb194 hg w312 hbox hb; have BK194 := Aside0.mk (hbox); have GW194 := Aside0.mk ((by rw [hg]; exact (below_size k62_) : w.heap.size ≤ gb194)); have GE194 := Aside0.mk ((by rw [hg]; exact (below_size k62_) : w.heap.size ≤ gb194)); replace HB := Aside0.mk (below_step k62_ hb); have NB101_194 := Aside0.mk (BK101.ne hg); have NB194_101 := Aside0.mk (BK101.ne hg).symm; replace BK101 := BK101.mw hb; have NB102_194 := Aside0.mk (BK102.ne hg); have NB194_102 := Aside0.mk (BK102.ne hg).symm; replace BK102 := BK102.mw hb; have NB143_194 := Aside0.mk (BK143.ne hg); have NB194_143 := Aside0.mk (BK143.ne hg).symm; replace BK143 := BK143.mw hb; have NB148_194 := Aside0.mk (BK148.ne hg); have NB194_148 := Aside0.mk (BK148.ne hg).symm; replace BK148 := BK148.mw hb; clear hb hbox hg; have hnb313 := NB194_101.out; have hnc313 := NB101_194.out; have hnb314 := NB194_102.out; have hnc314 := NB102_194.out; have hnb315 := NB194_143.out; have hnc315 := NB143_194.out; have hnb316 := NB194_148.out; have hnc316 := NB148_194.out; have hcz317_0 : w312.cell? ⟨gb194, 0, none⟩ = some (.string (⟨#[]⟩ : ByteArray)) := (blk_cell BK194.out 0).trans rfl; have hcz317_1 : w312.cell? ⟨gb194, 1, none⟩ = some (.int .i64 0) := (blk_cell BK194.out 1).trans rfl; have hfz317_0 := blk_frozen BK194.out 0; have hfz317_1 := blk_frozen BK194.out 1) | ((with_reducible refine gate_callee (f := 30) rfl ?_); refine goesL_ (some 448) rfl rfl Tryz.func30 (by kernel_rfl) rfl #[.string a3] rfl k59_ ?_; (with_reducible refine (spec_ParsePuzzle.calls kj252 a3 t195 t196 t197 _ A272.out).mono ?_); rintro e w318 ⟨rfl, hb⟩; refine ⟨_, rfl, ?_⟩; replace BK101 := Aside0.mk (blk_below (g := gb101) (o := .cells #[.string a0_0, .int .i64 a0_1] 23 (0, 0)) k25_ hb); replace BK102 := Aside0.mk (blk_below (g := gb102) (o := .cells #[.string a1_0, .int .i64 a1_1] 23 (0, 0)) k27_ hb); replace BK143 := Aside0.mk (blk_below (g := gb143) (o := .cells #[.int .i64 t140, .int .i64 t141] 33 (0, 0)) k29_ hb); replace BK148 := Aside0.mk (blk_below (g := gb148) (o := .cells #[.int .i64 t145, .int .i64 t146] 33 (0, 0)) k31_ hb); replace BK194 := Aside0.mk (blk_below (g := gb194) (o := .cells #[.string t191, .int .i64 t192] 23 (0, 0)) k14_ hb); replace HB := Aside0.mk (below_step k61_ hb); (try clear hb)) | ((with_reducible refine gate_dst (N := 60) rfl ?_); (try (refine gate_guard (by rfl) ?_; dsimp only)); refine box_event ?hg (N := 60) ?hd (cs := #[.string (⟨#[]⟩ : ByteArray), .int .i64 0]) (t := 23) ?hr ?_; (case hd => rfl); (case hg => rfl); (case hr => exact k94_); intro gb198 hg w319 hbox hb; have BK198 := Aside0.mk (hbox); have GW198 := Aside0.mk ((by rw [hg]; exact (below_size k61_) : w.heap.size ≤ gb198)); have GE198 := Aside0.mk ((by rw [hg]; exact (below_size k61_) : w.heap.size ≤ gb198)); replace HB := Aside0.mk (below_step k61_ hb); have NB101_198 := Aside0.mk (BK101.ne hg); have NB198_101 := Aside0.mk (BK101.ne hg).symm; replace BK101 := BK101.mw hb; have NB102_198 := Aside0.mk (BK102.ne hg); have NB198_102 := Aside0.mk (BK102.ne hg).symm; replace BK102 := BK102.mw hb; have NB143_198 := Aside0.mk (BK143.ne hg); have NB198_143 := Aside0.mk (BK143.ne hg).symm; replace BK143 := BK143.mw hb; have NB148_198 := Aside0.mk (BK148.ne hg); have NB198_148 := Aside0.mk (BK148.ne hg).symm; replace BK148 := BK148.mw hb; have NB194_198 := Aside0.mk (BK194.ne hg); have NB198_194 := Aside0.mk (BK194.ne hg).symm; replace BK194 := BK194.mw hb; clear hb hbox hg; have hnb320 := NB198_101.out; have hnc320 := NB101_198.out; have hnb321 := NB198_102.out; have hnc321 := NB102_198.out; have hnb322 := NB198_143.out; have hnc322 := NB143_198.out; have hnb323 := NB198_148.out; have hnc323 := NB148_198.out; have hnb324 := NB198_194.out; have hnc324 := NB194_198.out; have hcz325_0 : w319.cell? ⟨gb198, 0, none⟩ = some (.string (⟨#[]⟩ : ByteArray)) := (blk_cell BK198.out 0).trans rfl; have hcz325_1 : w319.cell? ⟨gb198, 1, none⟩ = some (.int .i64 0) := (blk_cell BK198.out 1).trans rfl; have hfz325_0 := blk_frozen BK198.out 0; have hfz325_1 := blk_frozen BK198.out 1; have hcz326_0 : w319.cell? ⟨gb194, 0, none⟩ = some (.string t191) := (blk_cell BK194.out 0).trans rfl; have hcz326_1 : w319.cell? ⟨gb194, 1, none⟩ = some (.int .i64 t192) := (blk_cell BK194.out 1).trans rfl; have hfz326_0 := blk_frozen BK194.out 0; have hfz326_1 := blk_frozen BK194.out 1))
             go_ret
             exact ⟨k70_, by apply_rules only [HB.out, below_alloc, pw_below_drewN, below_drew1, below_set, GE101.out, GE102.out, GE143.out, GE148.out, GE194.out, GE198.out]⟩
end Go.Proofs.YtbnmajedmajfoaaGreatDoor.P
