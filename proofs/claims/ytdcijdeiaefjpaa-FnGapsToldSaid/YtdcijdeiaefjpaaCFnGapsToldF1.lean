/- What functions of the program answer. Proved in this text: its theorems. Conditions: as each theorem states them. -/
import Derived.Test.YtdcijdeiaefjpaaCFnGapsToldP
import Derived.Test.YtdcijdeiaefjpaaCFnGapsToldF0
namespace Go.Proofs.Ytdcijdeiaefjpaa.P
open Go.RowKit Go.Proofs.YtdcijdeiaefjpaaW.PrintWords Go.Proofs.YtdcijdeiaefjpaaW.PrintLast Go.Proofs.YtdcijdeiaefjpaaW.PrintMore
attribute [local go_sem] max2_int min2_int max_two min_two max_three min_three max_four min_four
set_option linter.unusedVariables false
set_option linter.unusedSimpArgs false
def spec_gpGaps.l0 : Nat → List (SRule) → List Int → List Int → List Int → Int → Int → Option (List Int × List Int × Bool)
 | 0, _, _, _, _, _, _ => none
 | k + 1, x0, x5, x7, x18, x19, x20 => if x20 < x19 then (if 0 ≤ x20 then (if x20 < (x18.length : Int) then (if 0 < (x5.length : Int) then ((spec_siPeriod.f k x0).bind fun t107 => (if (wrap64 (x20 + 1)) < (x5.length : Int) then (if 0 ≤ (wrap64 (x20 + 1)) then (if x7.length < 17592186044416 then (spec_gpGaps.l0 k x0 x5 (x7 ++ [wrap64 ((rd x5 (wrap64 (x20 + 1))) - (rd x18 x20))]) x18 x19 (wrap64 (x20 + 1))) else (none)) else (none)) else (if x7.length < 17592186044416 then (spec_gpGaps.l0 k x0 x5 (x7 ++ [wrap64 ((wrap64 ((rd x5 0) + t107)) - (rd x18 x20))]) x18 x19 (wrap64 (x20 + 1))) else (none)))) else (none)) else (none)) else (none)) else (some (x7, x5, true))
def spec_gpGaps.f (k : Nat) (l0 : List (SRule)) : Option (List Int × List Int × Bool) := (spec_gpLeft.f k l0).bind fun bt101 => (if bt101.2 = true then (spec_gpGaps.l0 k l0 bt101.1 ([] : List Int) bt101.1 (bt101.1.length : Int) 0) else (some (([] : List Int), ([] : List Int), false)))
set_option maxHeartbeats 8000000 in
set_option maxRecDepth 100000 in
theorem spec_gpGaps.calls (k : Nat) (A0 : Option Addr) (c0 : Nat) (l0 : List (SRule)) (r1 : List Int) (r2 : List Int) (r3 : Bool) (w : World) (hr0 : Kd.C kRule w A0 l0.length l0) (hc0 : l0.length ≤ c0) (h : spec_gpGaps.f k l0 = some (r1, r2, r3)) :
  Calls Try.prog 73 #[.slice A0 l0.length c0] w fun e w' => ∃ v0_ v1_ : Value, e = .returned (.tuple #[v0_, v1_, .bool r3]) ∧ Kd.R (Kd.int .i64) 3 w' w.heap.size (fun k_ => some k_ ≠ (v1_ : Value).ownBlock) v0_ r1 ∧ Kd.R (Kd.int .i64) 3 w' w.heap.size (fun k_ => some k_ ≠ (v0_ : Value).ownBlock) v1_ r2 ∧ Below w.heap.size w w' := by
 have HR0 := Aside0.mk hr0
 have HC0 := Aside0.mk hc0
 clear hr0 hc0
 have HB := Aside0.mk (Below.refl w.heap.size w)
 have H : ((spec_gpLeft.f k l0).bind fun bt101 => (if bt101.2 = true then (spec_gpGaps.l0 k l0 bt101.1 ([] : List Int) bt101.1 (bt101.1.length : Int) 0) else (some (([] : List Int), ([] : List Int), false)))) = some (r1, r2, r3) := h
 clear h
 obtain ⟨⟨t101, t102⟩, A2, H⟩ := obnd_ H
 (try dsimp only at H)
 by_cases c3 : t102 = true
 ·subst c3
  rw [if_pos rfl] at H
  have H' := Aside0.mk H
  clear H
  go_enter Try.func73, Try.ntmps73
  go_wp2_with (first | ((with_reducible refine gate_callee (f := 86) rfl ?_); refine goesL_ (some 13) rfl rfl Try.func86 (by kernel_rfl) rfl #[.slice A0 l0.length c0] rfl k35_ ?_; (with_reducible refine (spec_gpLeft.calls k _ _ l0 t101 true _ ?side1 ?side2 A2.out).mono ?_); (case side1 => exact k31_); (case side2 => exact k77_); rintro e w4 ⟨v103, rfl, ho0, hb⟩; refine ⟨_, rfl, ?_⟩; have HO104 := Aside0.mk (Kd.R_lower ho0 (below_size k49_)); replace HB := HB.mw hb; (try clear hb ho0); obtain ⟨Ao5, co5, eo5⟩ := Kd.R_slice HO104.out; subst eo5))
  go_loopg [7, 20] k (fun kq v7 v20 w' => ∃ (x7_1 : List Int) (x20_1 : Int), v20 = .int .i64 x20_1 ∧ Aside0 (spec_gpGaps.l0 kq l0 t101 x7_1 t101 (t101.length : Int) x20_1 = some (r1, r2, r3)) ∧ Aside0 (kq ≤ k) ∧ Aside0 (Kd.R (Kd.int .i64) 3 w' w.heap.size (fun k_ => some k_ ≠ (v7 : Value).ownBlock) (.slice Ao5 t101.length co5) t101) ∧ Aside0 (Kd.R (Kd.int .i64) 3 w' w.heap.size (fun k_ => some k_ ≠ ((.slice Ao5 t101.length co5) : Value).ownBlock ∧ some k_ ≠ ((.slice Ao5 t101.length co5) : Value).ownBlock) v7 x7_1) ∧ Aside0 (Kd.R (Kd.int .i64) 3 w' w.heap.size (fun k_ => some k_ ≠ (v7 : Value).ownBlock) (.slice Ao5 t101.length co5) t101) ∧ Aside0 (Below w.heap.size w w'))
  case atStart => exact ⟨(([] : List Int)), (0), k69_, H', ⟨Nat.le_refl _⟩, ⟨k30_⟩, ⟨k34_⟩, ⟨k30_⟩, ⟨k49_⟩⟩
  case round =>
   clear H'
   (try clear c3)
   obtain ⟨x7_1, x20_1, rfl, HA, HK1, HO_5, HO_7, HO_18, HB⟩ := hrel
   cases gk with
   | zero => exact absurd HA.out (by simp [spec_gpGaps.l0])
   | succ k1 =>
    have H := HA.out
    clear HA
    simp only [spec_gpGaps.l0] at H
    by_cases c6 : x20_1 < (t101.length : Int)
    ·rw [if_pos c6] at H
     have c6b0 : decide (x20_1 < (t101.length : Int)) = true := decide_eq_true c6
     clear c6
     by_cases c7 : 0 ≤ x20_1
     ·rw [if_pos c7] at H
      have c7b0 : decide (0 ≤ x20_1) = true := decide_eq_true c7
      clear c7
      by_cases c8 : x20_1 < (t101.length : Int)
      ·rw [if_pos c8] at H
       have c8b0 : decide (x20_1 < (t101.length : Int)) = true := decide_eq_true c8
       clear c8
       by_cases c9 : 0 < (t101.length : Int)
       ·rw [if_pos c9] at H
        have c9b0 : decide (0 < (t101.length : Int)) = true := decide_eq_true c9
        have c9b1 : decide (0 < t101.length) = true := decide_eq_true (by omega)
        clear c9
        obtain ⟨t107, A10, H⟩ := obnd_ H
        (try dsimp only at H)
        by_cases c11 : (wrap64 (x20_1 + 1)) < (t101.length : Int)
        ·rw [if_pos c11] at H
         have c11b0 : decide ((wrap64 (x20_1 + 1)) < (t101.length : Int)) = true := decide_eq_true c11
         clear c11
         obtain ⟨ji12, hji12⟩ : ∃ j_ : Int, (wrap64 (x20_1 + 1)) = j_ := ⟨_, rfl⟩
         replace H : (if 0 ≤ (ji12) then (if x7_1.length < 17592186044416 then (spec_gpGaps.l0 k1 l0 t101 (x7_1 ++ [wrap64 ((rd t101 (ji12)) - (rd t101 x20_1))]) t101 (t101.length : Int) ji12) else (none)) else (none)) = some (r1, r2, r3) := by first | (rw [hji12] at H; exact H) | (simp only [hji12] at H ⊢; exact H)
         (try rw [hji12] at c11b0)
         (try rw [hji12] at A10)
         have hji12w : (IntKind.i64.wrap (x20_1 + 1)) = ji12 := (i64_w _).trans hji12
         by_cases c13 : 0 ≤ (ji12)
         ·rw [if_pos c13] at H
          have c13b0 : decide (0 ≤ (ji12)) = true := decide_eq_true c13
          clear c13
          by_cases c14 : x7_1.length < 17592186044416
          ·rw [if_pos c14] at H
           have LMc14 := Aside0.mk c14
           clear c14
           obtain ⟨y109, hy_⟩ : ∃ y_ : List Int, y_ = (x7_1 ++ [wrap64 ((rd t101 (ji12)) - (rd t101 x20_1))]) := ⟨_, rfl⟩
           replace H : (spec_gpGaps.l0 k1 l0 t101 y109 t101 (t101.length : Int) ji12) = some (r1, r2, r3) := k1_
           have Ny109 := Aside0.mk hy_
           clear hy_
           have H' := Aside0.mk H
           clear H
           have p105 : 0 ≤ (x20_1 : Int) := of_decide_eq_true k68_
           have q105 : x20_1 < (t101.length : Int) := of_decide_eq_true k68_
           obtain ⟨ad105, e105, hx105_0⟩ := Kd.at_int (Kd.R_reads' HO_18.out).2.2 x20_1 p105 q105
           cases e105
           replace p105 := eq_true p105
           replace q105 := eq_true q105
           try go_wp2
           have n0_ := Aside0.mk (Kd.R_drew HO_5.out)
           have n1_ := Aside0.mk (Kd.R_drew HO_7.out)
           have n2_ := Aside0.mk (Kd.R_drew HO_18.out)
           have n3_ := Aside0.mk (below_drew1 HB.out)
           clear HO_5
           clear HO_7
           clear HO_18
           clear HB
           have HO_5 := n0_
           have HO_7 := n1_
           have HO_18 := n2_
           have HB := n3_
           clear n0_ n1_ n2_ n3_
           have p106 : 0 ≤ (0 : Int) := (by omega)
           have q106 : 0 < (t101.length : Int) := of_decide_eq_true k68_
           obtain ⟨ad106, e106, hx106_0⟩ := Kd.at_int (Kd.R_reads' HO_5.out).2.2 0 p106 q106
           obtain rfl : ad105 = ad106 := (by injection e106)
           have qi106 : (0 < t101.length) = True := eq_true (by omega)
           (try rw [show ((0 : Int)).toNat = 0 from rfl] at hx106_0)
           (try rw [Addr.add_zero'] at hx106_0)
           replace p106 := eq_true p106
           replace q106 := eq_true q106
           refine start_ (n := 7) (S := fun w' => w'.cell? ad105 = some (.int .i64 (rd t101 0))) (ds := []) #[false, false, false, false, false, false, false] (by kernel_rfl) rfl rfl (hx106_0) (fun hHeld => ?_)
           generalize wr.drew = w15 at HO_5 HO_7 HO_18 HB hx106_0 hHeld ⊢
           refine pure_ (i := 0) (N := some 25) (v := ?_) (a' := ?_) #[true, false, false, false, false, false, false] rfl rfl (by kernel_rfl) (fun _ _ _ h => h) (Or.inl ⟨by rfl, ?_⟩) ?_ ?_
           rotate_left
           ·intro w'
            go_simp
            with_reducible rfl
           rotate_left
           ·simp only [Act.put, List.setIfInBounds_toArray, List.set_cons_zero, List.set_cons_succ, i64_w, i32_w]
            rfl
           refine pure_ (i := 1) (N := some 26) (v := ?_) (a' := ?_) #[true, true, false, false, false, false, false] rfl rfl (by kernel_rfl) (fun _ _ _ h => h) (Or.inl ⟨by rfl, ?_⟩) ?_ ?_
           rotate_left
           ·intro w'
            go_simp
            with_reducible rfl
           rotate_left
           ·simp only [Act.put, List.setIfInBounds_toArray, List.set_cons_zero, List.set_cons_succ, i64_w, i32_w]
            rfl
           refine pure_ (i := 3) (N := some 28) (v := ?_) (a' := ?_) #[true, true, false, true, false, false, false] rfl rfl (by kernel_rfl) (fun _ _ _ h => h) (Or.inl ⟨by rfl, ?_⟩) ?_ ?_
           rotate_left
           ·intro w'
            go_simp
            with_reducible rfl
           rotate_left
           ·simp only [Act.put, List.setIfInBounds_toArray, List.set_cons_zero, List.set_cons_succ, i64_w, i32_w]
            rfl
           refine take_ (i := 2) (N := some 27) (v := ?_) (a' := ?_) #[true, true, true, true, false, false, false] rfl rfl (by kernel_rfl) (fun _ _ _ h => h) (Or.inl ⟨by rfl, ?_⟩) hHeld ?_ ?_
           rotate_left
           ·intro w' s0
            go_simp
            with_reducible rfl
           rotate_left
           ·simp only [Act.put, List.setIfInBounds_toArray, List.set_cons_zero, List.set_cons_succ, i64_w, i32_w]
            rfl
           refine one_ (i := 4) (N := some 29) #[true, true, true, true, true, false, false] rfl rfl (by kernel_rfl) (by decide) (fun K hK => ?_)
           refine goes_ Try.func101 (by kernel_rfl) rfl #[.slice A0 l0.length c0] (by rfl) rfl rfl k35_ ?_
           with_reducible refine (spec_siPeriod.calls k1 _ _ l0 t107 _ ?side1 ?side2 A10.out).mono ?_
           (case side1 => exact k18_)
           (case side2 => exact k77_)
           rintro e w16 ⟨rfl, hb⟩
           have HS0_ := (hb.cell (World.block_lt_of_cell? _ _ (hHeld))).trans (hHeld)
           refine ⟨_, rfl, ?_⟩
           have n0_ := Aside0.mk (HO_5.mv hb)
           have n1_ := Aside0.mk (HO_7.mv hb)
           have n2_ := Aside0.mk (HO_18.mv hb)
           have n3_ := Aside0.mk (HB.mv hb)
           clear HO_5
           clear HO_7
           clear HO_18
           clear HB
           have HO_5 := n0_
           have HO_7 := n1_
           have HO_18 := n2_
           have HB := n3_
           clear n0_ n1_ n2_ n3_
           (try clear hb)
           (try clear hb2)
           (try clear hk)
           (try clear hi)
           refine hK.out _ _ (HS0_) (fun hHeld => ?_)
           clear hK K
           refine norm_ (a' := ?_) ?_ ?_
           rotate_left
           ·show Act.put _ (some 29) _ = _
            simp only [Act.put, List.setIfInBounds_toArray, List.set_cons_zero, List.set_cons_succ, i64_w, i32_w]
            rfl
           refine pure_ (i := 5) (N := some 30) (v := ?_) (a' := ?_) #[true, true, true, true, true, true, false] rfl rfl (by kernel_rfl) (fun _ _ _ h => h) (Or.inl ⟨by rfl, ?_⟩) ?_ ?_
           rotate_left
           ·intro w'
            go_simp
            with_reducible rfl
           rotate_left
           ·simp only [Act.put, List.setIfInBounds_toArray, List.set_cons_zero, List.set_cons_succ, i64_w, i32_w]
            rfl
           refine pure_ (i := 6) (N := some 10) (v := ?_) (a' := ?_) #[true, true, true, true, true, true, true] rfl rfl (by kernel_rfl) (fun _ _ _ h => h) (Or.inl ⟨by rfl, ?_⟩) ?_ ?_
           rotate_left
           ·intro w'
            go_simp
            with_reducible rfl
           rotate_left
           ·simp only [Act.put, List.setIfInBounds_toArray, List.set_cons_zero, List.set_cons_succ, i64_w, i32_w]
            rfl
           refine done_ (by kernel_rfl) ?_
           have p108 : 0 ≤ ((ji12) : Int) := of_decide_eq_true k68_
           have q108 : (ji12) < (t101.length : Int) := of_decide_eq_true k68_
           obtain ⟨ad108, e108, hx108_0⟩ := Kd.at_int (Kd.R_reads' HO_5.out).2.2 (ji12) p108 q108
           obtain rfl : ad105 = ad108 := (by injection e108)
           replace p108 := eq_true p108
           replace q108 := eq_true q108
           try go_wp2_with (first | ((with_reducible refine gate_builtin (b := .append) (xs := #[.tmp 41, .tmp 45]) rfl ?_); at_builtin; refine Kd.R_append (Kd.int .i64) (w0 := w) w.heap.size rfl (.tmp 41) (.tmp 45) 24 3 (.int .i64 0) 8 rfl Try.underlying24 info3 rfl (by decide) (by omega) u7 x7_1 (wrap64 ((rd t101 (ji12)) - (rd t101 x20_1))) [.int .i64 (wrap64 ((rd t101 (ji12)) - (rd t101 x20_1)))] (fun k_ => some k_ ≠ (.slice (some ad105) t101.length co5 : Value).ownBlock ∧ some k_ ≠ (.slice (some ad105) t101.length co5 : Value).ownBlock) (fun _ => False) rfl rfl ?aP (fun _ hk => hk.elim) ?aF ?aO ?aB ?aS ?aL ?_; (case aP => exact rfl); (case aB => exact k49_); (case aF => exact (fun k_ hk => ⟨Kd.fresh' (Kd.R_lt k63_) k_ hk, Kd.fresh' (Kd.R_lt (by apply_rules only [HO_18.out, Kd.R_alloc, Kd.R_drewN, Kd.R_drew])) k_ hk⟩)); (case aO => exact (by apply_rules only [HO_7.out, Kd.R_alloc, Kd.R_drewN, Kd.R_drew])); (case aS => exact (below_size k49_)); (case aL => have := LMc14.out; omega); intro v110 w17 ho hb hg hat; rw [← Ny109.out] at ho; replace HO_5 := Aside0.mk (Kd.R_after (ok := (fun _ => True)) (by (with_reducible repeat (first | apply Kd.R_alloc | apply Kd.R_drewN | apply Kd.R_drew)); exact Kd.R_mono HO_5.out (fun _ hk => ⟨trivial, hk⟩)) hg hat); replace HO_18 := Aside0.mk (Kd.R_after (ok := (fun _ => True)) (by (with_reducible repeat (first | apply Kd.R_alloc | apply Kd.R_drewN | apply Kd.R_drew)); exact Kd.R_mono HO_18.out (fun _ hk => ⟨trivial, hk⟩)) hg hat); replace HB := Aside0.mk (hb); have HO111 := Aside0.mk (ho); clear HO_7; clear ho hb hg hat))
           go_roundg k1
           case measure => have := HK1.out; omega
           case rel => exact ⟨(y109), (ji12), (by first | rfl | (simp; done) | (simp only [← hji12] <;> (first | rfl | simp)) | (simp [*]; done)), H', ⟨k76_⟩, ⟨by (with_reducible repeat (first | apply Kd.R_alloc | apply Kd.R_drewN | apply Kd.R_drew)); exact Kd.R_mono HO_5.out (fun _ hk => hk.2)⟩, ⟨k51_⟩, ⟨by (with_reducible repeat (first | apply Kd.R_alloc | apply Kd.R_drewN | apply Kd.R_drew)); exact Kd.R_mono HO_18.out (fun _ hk => hk.2)⟩, ⟨k49_⟩⟩
          ·rw [if_neg c14] at H
           exact absurd H (by simp)
         ·rw [if_neg c13] at H
          exact absurd H (by simp)
        ·rw [if_neg c11] at H
         have c11b0 : decide ((wrap64 (x20_1 + 1)) < (t101.length : Int)) = false := decide_eq_false c11
         clear c11
         by_cases c18 : x7_1.length < 17592186044416
         ·rw [if_pos c18] at H
          have LMc18 := Aside0.mk c18
          clear c18
          obtain ⟨y112, hy_⟩ : ∃ y_ : List Int, y_ = (x7_1 ++ [wrap64 ((wrap64 ((rd t101 0) + t107)) - (rd t101 x20_1))]) := ⟨_, rfl⟩
          replace H : (spec_gpGaps.l0 k1 l0 t101 y112 t101 (t101.length : Int) (wrap64 (x20_1 + 1))) = some (r1, r2, r3) := k1_
          have Ny112 := Aside0.mk hy_
          clear hy_
          have H' := Aside0.mk H
          clear H
          have p105 : 0 ≤ (x20_1 : Int) := of_decide_eq_true k68_
          have q105 : x20_1 < (t101.length : Int) := of_decide_eq_true k68_
          obtain ⟨ad105, e105, hx105_0⟩ := Kd.at_int (Kd.R_reads' HO_18.out).2.2 x20_1 p105 q105
          cases e105
          replace p105 := eq_true p105
          replace q105 := eq_true q105
          try go_wp2
          have n0_ := Aside0.mk (Kd.R_drew HO_5.out)
          have n1_ := Aside0.mk (Kd.R_drew HO_7.out)
          have n2_ := Aside0.mk (Kd.R_drew HO_18.out)
          have n3_ := Aside0.mk (below_drew1 HB.out)
          clear HO_5
          clear HO_7
          clear HO_18
          clear HB
          have HO_5 := n0_
          have HO_7 := n1_
          have HO_18 := n2_
          have HB := n3_
          clear n0_ n1_ n2_ n3_
          have p106 : 0 ≤ (0 : Int) := (by omega)
          have q106 : 0 < (t101.length : Int) := of_decide_eq_true k68_
          obtain ⟨ad106, e106, hx106_0⟩ := Kd.at_int (Kd.R_reads' HO_5.out).2.2 0 p106 q106
          obtain rfl : ad105 = ad106 := (by injection e106)
          have qi106 : (0 < t101.length) = True := eq_true (by omega)
          (try rw [show ((0 : Int)).toNat = 0 from rfl] at hx106_0)
          (try rw [Addr.add_zero'] at hx106_0)
          replace p106 := eq_true p106
          replace q106 := eq_true q106
          refine start_ (n := 7) (S := fun w' => w'.cell? ad105 = some (.int .i64 (rd t101 0))) (ds := []) #[false, false, false, false, false, false, false] (by kernel_rfl) rfl rfl (hx106_0) (fun hHeld => ?_)
          generalize wr.drew = w19 at HO_5 HO_7 HO_18 HB hx106_0 hHeld ⊢
          refine pure_ (i := 0) (N := some 25) (v := ?_) (a' := ?_) #[true, false, false, false, false, false, false] rfl rfl (by kernel_rfl) (fun _ _ _ h => h) (Or.inl ⟨by rfl, ?_⟩) ?_ ?_
          rotate_left
          ·intro w'
           go_simp
           with_reducible rfl
          rotate_left
          ·simp only [Act.put, List.setIfInBounds_toArray, List.set_cons_zero, List.set_cons_succ, i64_w, i32_w]
           rfl
          refine pure_ (i := 1) (N := some 26) (v := ?_) (a' := ?_) #[true, true, false, false, false, false, false] rfl rfl (by kernel_rfl) (fun _ _ _ h => h) (Or.inl ⟨by rfl, ?_⟩) ?_ ?_
          rotate_left
          ·intro w'
           go_simp
           with_reducible rfl
          rotate_left
          ·simp only [Act.put, List.setIfInBounds_toArray, List.set_cons_zero, List.set_cons_succ, i64_w, i32_w]
           rfl
          refine pure_ (i := 3) (N := some 28) (v := ?_) (a' := ?_) #[true, true, false, true, false, false, false] rfl rfl (by kernel_rfl) (fun _ _ _ h => h) (Or.inl ⟨by rfl, ?_⟩) ?_ ?_
          rotate_left
          ·intro w'
           go_simp
           with_reducible rfl
          rotate_left
          ·simp only [Act.put, List.setIfInBounds_toArray, List.set_cons_zero, List.set_cons_succ, i64_w, i32_w]
           rfl
          refine take_ (i := 2) (N := some 27) (v := ?_) (a' := ?_) #[true, true, true, true, false, false, false] rfl rfl (by kernel_rfl) (fun _ _ _ h => h) (Or.inl ⟨by rfl, ?_⟩) hHeld ?_ ?_
          rotate_left
          ·intro w' s0
           go_simp
           with_reducible rfl
          rotate_left
          ·simp only [Act.put, List.setIfInBounds_toArray, List.set_cons_zero, List.set_cons_succ, i64_w, i32_w]
           rfl
          refine one_ (i := 4) (N := some 29) #[true, true, true, true, true, false, false] rfl rfl (by kernel_rfl) (by decide) (fun K hK => ?_)
          refine goes_ Try.func101 (by kernel_rfl) rfl #[.slice A0 l0.length c0] (by rfl) rfl rfl k35_ ?_
          with_reducible refine (spec_siPeriod.calls k1 _ _ l0 t107 _ ?side1 ?side2 A10.out).mono ?_
          (case side1 => exact k18_)
          (case side2 => exact k77_)
          rintro e w20 ⟨rfl, hb⟩
          have HS0_ := (hb.cell (World.block_lt_of_cell? _ _ (hHeld))).trans (hHeld)
          refine ⟨_, rfl, ?_⟩
          have n0_ := Aside0.mk (HO_5.mv hb)
          have n1_ := Aside0.mk (HO_7.mv hb)
          have n2_ := Aside0.mk (HO_18.mv hb)
          have n3_ := Aside0.mk (HB.mv hb)
          clear HO_5
          clear HO_7
          clear HO_18
          clear HB
          have HO_5 := n0_
          have HO_7 := n1_
          have HO_18 := n2_
          have HB := n3_
          clear n0_ n1_ n2_ n3_
          (try clear hb)
          (try clear hb2)
          (try clear hk)
          (try clear hi)
          refine hK.out _ _ (HS0_) (fun hHeld => ?_)
          clear hK K
          refine norm_ (a' := ?_) ?_ ?_
          rotate_left
          ·show Act.put _ (some 29) _ = _
           simp only [Act.put, List.setIfInBounds_toArray, List.set_cons_zero, List.set_cons_succ, i64_w, i32_w]
           rfl
          refine pure_ (i := 5) (N := some 30) (v := ?_) (a' := ?_) #[true, true, true, true, true, true, false] rfl rfl (by kernel_rfl) (fun _ _ _ h => h) (Or.inl ⟨by rfl, ?_⟩) ?_ ?_
          rotate_left
          ·intro w'
           go_simp
           with_reducible rfl
          rotate_left
          ·simp only [Act.put, List.setIfInBounds_toArray, List.set_cons_zero, List.set_cons_succ, i64_w, i32_w]
           rfl
          refine pure_ (i := 6) (N := some 10) (v := ?_) (a' := ?_) #[true, true, true, true, true, true, true] rfl rfl (by kernel_rfl) (fun _ _ _ h => h) (Or.inl ⟨by rfl, ?_⟩) ?_ ?_
          rotate_left
          ·intro w'
           go_simp
           with_reducible rfl
          rotate_left
          ·simp only [Act.put, List.setIfInBounds_toArray, List.set_cons_zero, List.set_cons_succ, i64_w, i32_w]
           rfl
          refine done_ (by kernel_rfl) ?_
          try go_wp2_with (first | ((with_reducible refine gate_builtin (b := .append) (xs := #[.tmp 41, .tmp 45]) rfl ?_); at_builtin; refine Kd.R_append (Kd.int .i64) (w0 := w) w.heap.size rfl (.tmp 41) (.tmp 45) 24 3 (.int .i64 0) 8 rfl Try.underlying24 info3 rfl (by decide) (by omega) u7 x7_1 (wrap64 ((wrap64 ((rd t101 0) + t107)) - (rd t101 x20_1))) [.int .i64 (wrap64 ((wrap64 ((rd t101 0) + t107)) - (rd t101 x20_1)))] (fun k_ => some k_ ≠ (.slice (some ad105) t101.length co5 : Value).ownBlock ∧ some k_ ≠ (.slice (some ad105) t101.length co5 : Value).ownBlock) (fun _ => False) rfl rfl ?aP (fun _ hk => hk.elim) ?aF ?aO ?aB ?aS ?aL ?_; (case aP => exact rfl); (case aB => exact k49_); (case aF => exact (fun k_ hk => ⟨Kd.fresh' (Kd.R_lt k63_) k_ hk, Kd.fresh' (Kd.R_lt (by apply_rules only [HO_18.out, Kd.R_alloc, Kd.R_drewN, Kd.R_drew])) k_ hk⟩)); (case aO => exact (by apply_rules only [HO_7.out, Kd.R_alloc, Kd.R_drewN, Kd.R_drew])); (case aS => exact (below_size k49_)); (case aL => have := LMc18.out; omega); intro v113 w21 ho hb hg hat; rw [← Ny112.out] at ho; replace HO_5 := Aside0.mk (Kd.R_after (ok := (fun _ => True)) (by (with_reducible repeat (first | apply Kd.R_alloc | apply Kd.R_drewN | apply Kd.R_drew)); exact Kd.R_mono HO_5.out (fun _ hk => ⟨trivial, hk⟩)) hg hat); replace HO_18 := Aside0.mk (Kd.R_after (ok := (fun _ => True)) (by (with_reducible repeat (first | apply Kd.R_alloc | apply Kd.R_drewN | apply Kd.R_drew)); exact Kd.R_mono HO_18.out (fun _ hk => ⟨trivial, hk⟩)) hg hat); replace HB := Aside0.mk (hb); have HO114 := Aside0.mk (ho); clear HO_7; clear ho hb hg hat))
          go_roundg k1
          case measure => have := HK1.out; omega
          case rel => exact ⟨(y112), (wrap64 (x20_1 + 1)), k69_, H', ⟨k76_⟩, ⟨by (with_reducible repeat (first | apply Kd.R_alloc | apply Kd.R_drewN | apply Kd.R_drew)); exact Kd.R_mono HO_5.out (fun _ hk => hk.2)⟩, ⟨by apply_rules only [HO114.out, Kd.R_alloc, Kd.R_drewN, Kd.R_drew]⟩, ⟨by (with_reducible repeat (first | apply Kd.R_alloc | apply Kd.R_drewN | apply Kd.R_drew)); exact Kd.R_mono HO_18.out (fun _ hk => hk.2)⟩, ⟨k49_⟩⟩
         ·rw [if_neg c18] at H
          exact absurd H (by simp)
       ·rw [if_neg c9] at H
        exact absurd H (by simp)
      ·rw [if_neg c8] at H
       exact absurd H (by simp)
     ·rw [if_neg c7] at H
      exact absurd H (by simp)
    ·rw [if_neg c6] at H
     have c6b0 : decide (x20_1 < (t101.length : Int)) = false := decide_eq_false c6
     clear c6
     simp only [Option.some.injEq, Prod.mk.injEq] at H
     obtain ⟨rfl, rfl, rfl⟩ := H
     go_wp2
     go_ret3
     exact ⟨_, _, k46_, by (with_reducible repeat (first | apply Kd.R_alloc | apply Kd.R_drewN | apply Kd.R_drew)); exact Kd.R_mono HO_7.out (fun _ hk => hk.1), by (with_reducible repeat (first | apply Kd.R_alloc | apply Kd.R_drewN | apply Kd.R_drew)); exact HO_5.out, k49_⟩
 ·replace c3 := Bool.eq_false_iff.mpr c3
  subst c3
  rw [if_neg (show ¬ (false = true) by decide)] at H
  simp only [Option.some.injEq, Prod.mk.injEq] at H
  obtain ⟨rfl, rfl, rfl⟩ := H
  go_enter Try.func73, Try.ntmps73
  go_wp2_with (first | ((with_reducible refine gate_callee (f := 86) rfl ?_); refine goesL_ (some 13) rfl rfl Try.func86 (by kernel_rfl) rfl #[.slice A0 l0.length c0] rfl k35_ ?_; (with_reducible refine (spec_gpLeft.calls k _ _ l0 t101 false _ ?side1 ?side2 A2.out).mono ?_); (case side1 => exact k31_); (case side2 => exact k77_); rintro e w22 ⟨v103, rfl, ho0, hb⟩; refine ⟨_, rfl, ?_⟩; have HO104 := Aside0.mk (Kd.R_lower ho0 (below_size k49_)); replace HB := HB.mw hb; (try clear hb ho0)))
  go_ret3
  exact ⟨_, _, k46_, k34_, k34_, k49_⟩
end Go.Proofs.Ytdcijdeiaefjpaa.P
namespace Go.Proofs.Ytdcijdeiaefjpaa.P
open Go.RowKit Go.Proofs.YtdcijdeiaefjpaaW.PrintWords Go.Proofs.YtdcijdeiaefjpaaW.PrintLast Go.Proofs.YtdcijdeiaefjpaaW.PrintMore
attribute [local go_sem] max2_int min2_int max_two min_two max_three min_three max_four min_four
set_option linter.unusedVariables false
set_option linter.unusedSimpArgs false
def spec_GapsOfPeriod.f (k : Nat) (l0 : List (SRule)) : Option (List Int × Bool) := (spec_gpGaps.f k l0).bind fun bt101 => (if bt101.2.2 = true then (some (bt101.1, true)) else (some (([] : List Int), false)))
set_option maxHeartbeats 8000000 in
set_option maxRecDepth 100000 in
theorem spec_GapsOfPeriod.calls (k : Nat) (A0 : Option Addr) (c0 : Nat) (l0 : List (SRule)) (r1 : List Int) (r2 : Bool) (w : World) (hr0 : Kd.C kRule w A0 l0.length l0) (hc0 : l0.length ≤ c0) (h : spec_GapsOfPeriod.f k l0 = some (r1, r2)) :
  Calls Try.prog 24 #[.slice A0 l0.length c0] w fun e w' => ∃ v0_ : Value, e = .returned (.tuple #[v0_, .bool r2]) ∧ Kd.R (Kd.int .i64) 3 w' w.heap.size (fun _ => True) v0_ r1 ∧ Below w.heap.size w w' := by
 have HR0 := Aside0.mk hr0
 have HC0 := Aside0.mk hc0
 clear hr0 hc0
 have HB := Aside0.mk (Below.refl w.heap.size w)
 have H : ((spec_gpGaps.f k l0).bind fun bt101 => (if bt101.2.2 = true then (some (bt101.1, true)) else (some (([] : List Int), false)))) = some (r1, r2) := h
 clear h
 obtain ⟨⟨t101, t102, t103⟩, A2, H⟩ := obnd_ H
 (try dsimp only at H)
 by_cases c3 : t103 = true
 ·subst c3
  rw [if_pos rfl] at H
  simp only [Option.some.injEq, Prod.mk.injEq] at H
  obtain ⟨rfl, rfl⟩ := H
  go_enter Try.func24, Try.ntmps24
  go_wp2_with (first | ((with_reducible refine gate_callee (f := 73) rfl ?_); refine goesL_ (some 9) rfl rfl Try.func73 (by kernel_rfl) rfl #[.slice A0 l0.length c0] rfl k35_ ?_; (with_reducible refine (spec_gpGaps.calls k _ _ l0 t101 t102 true _ ?side1 ?side2 A2.out).mono ?_); (case side1 => exact k31_); (case side2 => exact k77_); rintro e w4 ⟨v104, v106, rfl, ho0, ho1, hb⟩; refine ⟨_, rfl, ?_⟩; have HO105 := Aside0.mk (Kd.R_lower ho0 (below_size k49_)); have HO107 := Aside0.mk (Kd.R_lower ho1 (below_size k49_)); replace HB := HB.mw hb; (try clear hb ho0 ho1)))
  go_ret2
  exact ⟨_, k46_, k37_, k49_⟩
 ·replace c3 := Bool.eq_false_iff.mpr c3
  subst c3
  rw [if_neg (show ¬ (false = true) by decide)] at H
  simp only [Option.some.injEq, Prod.mk.injEq] at H
  obtain ⟨rfl, rfl⟩ := H
  go_enter Try.func24, Try.ntmps24
  go_wp2_with (first | ((with_reducible refine gate_callee (f := 73) rfl ?_); refine goesL_ (some 9) rfl rfl Try.func73 (by kernel_rfl) rfl #[.slice A0 l0.length c0] rfl k35_ ?_; (with_reducible refine (spec_gpGaps.calls k _ _ l0 t101 t102 false _ ?side1 ?side2 A2.out).mono ?_); (case side1 => exact k31_); (case side2 => exact k77_); rintro e w5 ⟨v104, v106, rfl, ho0, ho1, hb⟩; refine ⟨_, rfl, ?_⟩; have HO105 := Aside0.mk (Kd.R_lower ho0 (below_size k49_)); have HO107 := Aside0.mk (Kd.R_lower ho1 (below_size k49_)); replace HB := HB.mw hb; (try clear hb ho0 ho1)))
  go_ret2
  exact ⟨_, k46_, k34_, k49_⟩
end Go.Proofs.Ytdcijdeiaefjpaa.P
namespace Go.Proofs.Ytdcijdeiaefjpaa.P
open Go.RowKit Go.Proofs.YtdcijdeiaefjpaaW.PrintWords Go.Proofs.YtdcijdeiaefjpaaW.PrintLast Go.Proofs.YtdcijdeiaefjpaaW.PrintMore
attribute [local go_sem] max2_int min2_int max_two min_two max_three min_three max_four min_four
set_option linter.unusedVariables false
set_option linter.unusedSimpArgs false
def slices_Index_int_int.l0 : Nat → List Int → Int → Int → Int → Option (Int)
 | 0, _, _, _, _ => none
 | k + 1, x0, x1, x7, x8 => if x8 < x7 then (if 0 ≤ x8 then (if x8 < (x0.length : Int) then (if x1 = (rd x0 x8) then (some x8) else (slices_Index_int_int.l0 k x0 x1 x7 (wrap64 (x8 + 1)))) else (none)) else (none)) else (some (-1))
def slices_Index_int_int.f (k : Nat) (l0 : List Int) (a1 : Int) : Option (Int) := slices_Index_int_int.l0 k l0 a1 (l0.length : Int) 0
set_option maxHeartbeats 8000000 in
set_option maxRecDepth 100000 in
theorem slices_Index_int_int.calls (k : Nat) (A0 : Option Addr) (c0 : Nat) (l0 : List Int) (a1 : Int) (r : Int) (w : World) (hr0 : Kd.C (Kd.int .i64) w A0 l0.length l0) (hc0 : l0.length ≤ c0) (h : slices_Index_int_int.f k l0 a1 = some r) :
  Calls Try.prog 74 #[.slice A0 l0.length c0, .int .i64 a1] w fun e w' => e = .returned (.int .i64 r) ∧ Drawn0 w w' := by
 have HR0 := Aside0.mk hr0
 have HC0 := Aside0.mk hc0
 clear hr0 hc0
 have H : (slices_Index_int_int.l0 k l0 a1 (l0.length : Int) 0) = some r := h
 clear h
 have H' := Aside0.mk H
 clear H
 go_enter Try.func74, Try.ntmps74
 go_wp2
 go_loopg [8] k (fun kq v8 w' => ∃ (x8_1 : Int), v8 = .int .i64 x8_1 ∧ Aside0 (slices_Index_int_int.l0 kq l0 a1 (l0.length : Int) x8_1 = some r) ∧ Aside0 (kq ≤ k) ∧ Drawn0 w w')
 case atStart => exact ⟨(0), k69_, H', ⟨Nat.le_refl _⟩, k67_⟩
 case round =>
  clear H'
  obtain ⟨x8_1, rfl, HA, HK1, ⟨m1, rfl⟩⟩ := hrel
  cases gk with
  | zero => exact absurd HA.out (by simp [slices_Index_int_int.l0])
  | succ k1 =>
   have H := HA.out
   clear HA
   simp only [slices_Index_int_int.l0] at H
   by_cases c3 : x8_1 < (l0.length : Int)
   ·rw [if_pos c3] at H
    have c3b0 : decide (x8_1 < (l0.length : Int)) = true := decide_eq_true c3
    clear c3
    by_cases c4 : 0 ≤ x8_1
    ·rw [if_pos c4] at H
     have c4b0 : decide (0 ≤ x8_1) = true := decide_eq_true c4
     clear c4
     by_cases c5 : x8_1 < (l0.length : Int)
     ·rw [if_pos c5] at H
      have c5b0 : decide (x8_1 < (l0.length : Int)) = true := decide_eq_true c5
      clear c5
      by_cases c6 : a1 = (rd l0 x8_1)
      ·rw [if_pos c6] at H
       have c6b0 : (a1 == (rd l0 x8_1)) = true := beq_iff_eq.mpr c6
       have c6b1 : (a1 != (rd l0 x8_1)) = false := bne_eq_false_iff_eq.mpr c6
       clear c6
       obtain rfl := Option.some.inj H
       have p101 : 0 ≤ (x8_1 : Int) := of_decide_eq_true k68_
       have q101 : x8_1 < (l0.length : Int) := of_decide_eq_true k68_
       obtain ⟨ad101, e101, hx101_0⟩ := Kd.at_int HR0.out x8_1 p101 q101
       cases e101
       replace p101 := eq_true p101
       replace q101 := eq_true q101
       go_wp2
       go_ret
       exact ⟨k69_, k67_⟩
      ·rw [if_neg c6] at H
       have c6b0 : (a1 == (rd l0 x8_1)) = false := beq_eq_false_iff_ne.mpr c6
       have c6b1 : (a1 != (rd l0 x8_1)) = true := bne_iff_ne.mpr c6
       have H' := Aside0.mk H
       clear H
       have p101 : 0 ≤ (x8_1 : Int) := of_decide_eq_true k68_
       have q101 : x8_1 < (l0.length : Int) := of_decide_eq_true k68_
       obtain ⟨ad101, e101, hx101_0⟩ := Kd.at_int HR0.out x8_1 p101 q101
       cases e101
       replace p101 := eq_true p101
       replace q101 := eq_true q101
       go_wp2
       go_roundg k1
       case measure => have := HK1.out; omega
       case rel => exact ⟨(wrap64 (x8_1 + 1)), k69_, H', ⟨k76_⟩, k67_⟩
     ·rw [if_neg c5] at H
      exact absurd H (by simp)
    ·rw [if_neg c4] at H
     exact absurd H (by simp)
   ·rw [if_neg c3] at H
    have c3b0 : decide (x8_1 < (l0.length : Int)) = false := decide_eq_false c3
    clear c3
    obtain rfl := Option.some.inj H
    go_wp2
    go_ret
    exact ⟨k69_, k67_⟩
end Go.Proofs.Ytdcijdeiaefjpaa.P
namespace Go.Proofs.Ytdcijdeiaefjpaa.P
open Go.RowKit Go.Proofs.YtdcijdeiaefjpaaW.PrintWords Go.Proofs.YtdcijdeiaefjpaaW.PrintLast Go.Proofs.YtdcijdeiaefjpaaW.PrintMore
attribute [local go_sem] max2_int min2_int max_two min_two max_three min_three max_four min_four
set_option linter.unusedVariables false
set_option linter.unusedSimpArgs false
def impl_LongestGap.f (k : Nat) (l0 : List (SRule)) : Option (Int × Int × Bool) := (impl_periodGaps.f k l0).bind fun bt101 => (if bt101.2.2 = true then ((slices_Max_int_int.f bt101.2.1).bind fun t108 => ((slices_Index_int_int.f k bt101.2.1 t108).bind fun t109 => (if 0 ≤ t109 then (if t109 < (bt101.1.length : Int) then (some (t108, rd bt101.1 t109, true)) else (none)) else (none)))) else (some (0, 0, false)))
set_option maxHeartbeats 8000000 in
set_option maxRecDepth 100000 in
theorem impl_LongestGap.calls (k : Nat) (A0 : Option Addr) (c0 : Nat) (l0 : List (SRule)) (r1 : Int) (r2 : Int) (r3 : Bool) (w : World) (hr0 : Kd.C kRule w A0 l0.length l0) (hc0 : l0.length ≤ c0) (h : impl_LongestGap.f k l0 = some (r1, r2, r3)) :
  Calls Try.prog 25 #[.slice A0 l0.length c0] w fun e w' => e = .returned (.tuple #[.int .i64 r1, .int .i64 r2, .bool r3]) ∧ Below w.heap.size w w' := by
 have HR0 := Aside0.mk hr0
 have HC0 := Aside0.mk hc0
 clear hr0 hc0
 have HB := Aside0.mk (Below.refl w.heap.size w)
 have H : ((impl_periodGaps.f k l0).bind fun bt101 => (if bt101.2.2 = true then ((slices_Max_int_int.f bt101.2.1).bind fun t108 => ((slices_Index_int_int.f k bt101.2.1 t108).bind fun t109 => (if 0 ≤ t109 then (if t109 < (bt101.1.length : Int) then (some (t108, rd bt101.1 t109, true)) else (none)) else (none)))) else (some (0, 0, false)))) = some (r1, r2, r3) := h
 clear h
 obtain ⟨⟨t101, t102, t103⟩, A2, H⟩ := obnd_ H
 (try dsimp only at H)
 by_cases c3 : t103 = true
 ·subst c3
  rw [if_pos rfl] at H
  obtain ⟨t108, A4, H⟩ := obnd_ H
  (try dsimp only at H)
  obtain ⟨t109, A5, H⟩ := obnd_ H
  (try dsimp only at H)
  by_cases c6 : 0 ≤ t109
  ·rw [if_pos c6] at H
   have c6b0 : decide (0 ≤ t109) = true := decide_eq_true c6
   clear c6
   by_cases c7 : t109 < (t101.length : Int)
   ·rw [if_pos c7] at H
    have c7b0 : decide (t109 < (t101.length : Int)) = true := decide_eq_true c7
    clear c7
    simp only [Option.some.injEq, Prod.mk.injEq] at H
    obtain ⟨rfl, rfl, rfl⟩ := H
    go_enter Try.func25, Try.ntmps25
    go_wp2_with (first | (go_at_call 62; (with_reducible refine (impl_periodGaps.calls k _ _ l0 t101 t102 true _ ?side1 ?side2 A2.out).mono ?_); (case side1 => exact k31_); (case side2 => exact k77_); rintro e w8 ⟨v104, v106, rfl, ho0, ho1, hb⟩; have HO105 := Aside0.mk (Kd.R_lower ho0 (below_size k49_)); have HO107 := Aside0.mk (Kd.R_lower ho1 (below_size k49_)); replace HB := HB.mw hb; (try clear hb ho0 ho1); obtain ⟨Ao9, co9, eo9⟩ := Kd.R_slice HO107.out; subst eo9) | (go_at_call 63; (with_reducible refine (slices_Max_int_int.calls _ _ t102 t108 _ ?side1 ?side2 A4.out).mono ?_); (case side1 => exact k15_); (case side2 => exact (Kd.R_reads' HO107.out).2.1); rintro e w' ⟨rfl, ⟨nd, rfl⟩⟩; (try first | exact ⟨rfl, _, World.drewN_drewN _ _ _⟩ | exact ⟨rfl, _, Eq.trans (World.drewN_drewN _ _ _) (congrArg (World.drewN _) (Nat.add_assoc _ _ _))⟩)) | (go_at_call 74; (with_reducible refine (slices_Index_int_int.calls k _ _ t102 t108 t109 _ ?side1 ?side2 A5.out).mono ?_); (case side1 => exact k15_); (case side2 => exact (Kd.R_reads' HO107.out).2.1); rintro e w' ⟨rfl, ⟨nd, rfl⟩⟩; (try first | exact ⟨rfl, _, World.drewN_drewN _ _ _⟩ | exact ⟨rfl, _, Eq.trans (World.drewN_drewN _ _ _) (congrArg (World.drewN _) (Nat.add_assoc _ _ _))⟩); obtain ⟨Ao10, co10, eo10⟩ := Kd.R_slice HO105.out; subst eo10; have p110 : 0 ≤ (t109 : Int) := of_decide_eq_true k68_; have q110 : t109 < (t101.length : Int) := of_decide_eq_true k68_; obtain ⟨ad110, e110, hx110_0⟩ := Kd.at_int (Kd.R_reads' HO105.out).2.2 t109 p110 q110; cases e110; replace p110 := eq_true p110; replace q110 := eq_true q110))
    repeat (go_quiet (first | (go_at_call 62; (with_reducible refine (impl_periodGaps.calls k _ _ l0 t101 t102 true _ ?side1 ?side2 A2.out).mono ?_); (case side1 => exact k31_); (case side2 => exact k77_); rintro e w8 ⟨v104, v106, rfl, ho0, ho1, hb⟩; have HO105 := Aside0.mk (Kd.R_lower ho0 (below_size k49_)); have HO107 := Aside0.mk (Kd.R_lower ho1 (below_size k49_)); replace HB := HB.mw hb; (try clear hb ho0 ho1); obtain ⟨Ao9, co9, eo9⟩ := Kd.R_slice HO107.out; subst eo9) | (go_at_call 63; (with_reducible refine (slices_Max_int_int.calls _ _ t102 t108 _ ?side1 ?side2 A4.out).mono ?_); (case side1 => exact k15_); (case side2 => exact (Kd.R_reads' HO107.out).2.1); rintro e w' ⟨rfl, ⟨nd, rfl⟩⟩; (try first | exact ⟨rfl, _, World.drewN_drewN _ _ _⟩ | exact ⟨rfl, _, Eq.trans (World.drewN_drewN _ _ _) (congrArg (World.drewN _) (Nat.add_assoc _ _ _))⟩)) | (go_at_call 74; (with_reducible refine (slices_Index_int_int.calls k _ _ t102 t108 t109 _ ?side1 ?side2 A5.out).mono ?_); (case side1 => exact k15_); (case side2 => exact (Kd.R_reads' HO107.out).2.1); rintro e w' ⟨rfl, ⟨nd, rfl⟩⟩; (try first | exact ⟨rfl, _, World.drewN_drewN _ _ _⟩ | exact ⟨rfl, _, Eq.trans (World.drewN_drewN _ _ _) (congrArg (World.drewN _) (Nat.add_assoc _ _ _))⟩); obtain ⟨Ao10, co10, eo10⟩ := Kd.R_slice HO105.out; subst eo10; have p110 : 0 ≤ (t109 : Int) := of_decide_eq_true k68_; have q110 : t109 < (t101.length : Int) := of_decide_eq_true k68_; obtain ⟨ad110, e110, hx110_0⟩ := Kd.at_int (Kd.R_reads' HO105.out).2.2 t109 p110 q110; cases e110; replace p110 := eq_true p110; replace q110 := eq_true q110)); try go_wp2_with (first | (go_at_call 62; (with_reducible refine (impl_periodGaps.calls k _ _ l0 t101 t102 true _ ?side1 ?side2 A2.out).mono ?_); (case side1 => exact k31_); (case side2 => exact k77_); rintro e w8 ⟨v104, v106, rfl, ho0, ho1, hb⟩; have HO105 := Aside0.mk (Kd.R_lower ho0 (below_size k49_)); have HO107 := Aside0.mk (Kd.R_lower ho1 (below_size k49_)); replace HB := HB.mw hb; (try clear hb ho0 ho1); obtain ⟨Ao9, co9, eo9⟩ := Kd.R_slice HO107.out; subst eo9) | (go_at_call 63; (with_reducible refine (slices_Max_int_int.calls _ _ t102 t108 _ ?side1 ?side2 A4.out).mono ?_); (case side1 => exact k15_); (case side2 => exact (Kd.R_reads' HO107.out).2.1); rintro e w' ⟨rfl, ⟨nd, rfl⟩⟩; (try first | exact ⟨rfl, _, World.drewN_drewN _ _ _⟩ | exact ⟨rfl, _, Eq.trans (World.drewN_drewN _ _ _) (congrArg (World.drewN _) (Nat.add_assoc _ _ _))⟩)) | (go_at_call 74; (with_reducible refine (slices_Index_int_int.calls k _ _ t102 t108 t109 _ ?side1 ?side2 A5.out).mono ?_); (case side1 => exact k15_); (case side2 => exact (Kd.R_reads' HO107.out).2.1); rintro e w' ⟨rfl, ⟨nd, rfl⟩⟩; (try first | exact ⟨rfl, _, World.drewN_drewN _ _ _⟩ | exact ⟨rfl, _, Eq.trans (World.drewN_drewN _ _ _) (congrArg (World.drewN _) (Nat.add_assoc _ _ _))⟩); obtain ⟨Ao10, co10, eo10⟩ := Kd.R_slice HO105.out; subst eo10; have p110 : 0 ≤ (t109 : Int) := of_decide_eq_true k68_; have q110 : t109 < (t101.length : Int) := of_decide_eq_true k68_; obtain ⟨ad110, e110, hx110_0⟩ := Kd.at_int (Kd.R_reads' HO105.out).2.2 t109 p110 q110; cases e110; replace p110 := eq_true p110; replace q110 := eq_true q110)))
    go_ret3
    exact ⟨k46_, k49_⟩
   ·rw [if_neg c7] at H
    exact absurd H (by simp)
  ·rw [if_neg c6] at H
   exact absurd H (by simp)
 ·replace c3 := Bool.eq_false_iff.mpr c3
  subst c3
  rw [if_neg (show ¬ (false = true) by decide)] at H
  simp only [Option.some.injEq, Prod.mk.injEq] at H
  obtain ⟨rfl, rfl, rfl⟩ := H
  go_enter Try.func25, Try.ntmps25
  go_wp2_with (first | (go_at_call 62; (with_reducible refine (impl_periodGaps.calls k _ _ l0 t101 t102 false _ ?side1 ?side2 A2.out).mono ?_); (case side1 => exact k31_); (case side2 => exact k77_); rintro e w11 ⟨v104, v106, rfl, ho0, ho1, hb⟩; have HO105 := Aside0.mk (Kd.R_lower ho0 (below_size k49_)); have HO107 := Aside0.mk (Kd.R_lower ho1 (below_size k49_)); replace HB := HB.mw hb; (try clear hb ho0 ho1)))
  repeat (go_quiet (first | (go_at_call 62; (with_reducible refine (impl_periodGaps.calls k _ _ l0 t101 t102 false _ ?side1 ?side2 A2.out).mono ?_); (case side1 => exact k31_); (case side2 => exact k77_); rintro e w11 ⟨v104, v106, rfl, ho0, ho1, hb⟩; have HO105 := Aside0.mk (Kd.R_lower ho0 (below_size k49_)); have HO107 := Aside0.mk (Kd.R_lower ho1 (below_size k49_)); replace HB := HB.mw hb; (try clear hb ho0 ho1))); try go_wp2_with (first | (go_at_call 62; (with_reducible refine (impl_periodGaps.calls k _ _ l0 t101 t102 false _ ?side1 ?side2 A2.out).mono ?_); (case side1 => exact k31_); (case side2 => exact k77_); rintro e w11 ⟨v104, v106, rfl, ho0, ho1, hb⟩; have HO105 := Aside0.mk (Kd.R_lower ho0 (below_size k49_)); have HO107 := Aside0.mk (Kd.R_lower ho1 (below_size k49_)); replace HB := HB.mw hb; (try clear hb ho0 ho1))))
  go_ret3
  exact ⟨k46_, k49_⟩
end Go.Proofs.Ytdcijdeiaefjpaa.P
namespace Go.Proofs.Ytdcijdeiaefjpaa.P
open Go.RowKit Go.Proofs.YtdcijdeiaefjpaaW.PrintWords Go.Proofs.YtdcijdeiaefjpaaW.PrintLast Go.Proofs.YtdcijdeiaefjpaaW.PrintMore
attribute [local go_sem] max2_int min2_int max_two min_two max_three min_three max_four min_four
set_option linter.unusedVariables false
set_option linter.unusedSimpArgs false
def spec_LongestGap.l0 : Nat → List Int → List Int → Int → List Int → Int → Int → Option (Int × Int × Bool)
 | 0, _, _, _, _, _, _ => none
 | k + 1, x5, x6, x8, x19, x20, x21 => if x21 < x20 then (if 0 ≤ x21 then (if x21 < (x19.length : Int) then (if 0 ≤ x8 then (if x8 < (x5.length : Int) then (if (rd x19 x21) > (rd x5 x8) then (spec_LongestGap.l0 k x5 x6 x21 x19 x20 (wrap64 (x21 + 1))) else (spec_LongestGap.l0 k x5 x6 x8 x19 x20 (wrap64 (x21 + 1)))) else (none)) else (none)) else (none)) else (none)) else (if 0 ≤ x8 then (if x8 < (x5.length : Int) then (if x8 < (x6.length : Int) then (some (rd x5 x8, rd x6 x8, true)) else (none)) else (none)) else (none))
def spec_LongestGap.f (k : Nat) (l0 : List (SRule)) : Option (Int × Int × Bool) := (spec_gpGaps.f k l0).bind fun bt101 => (if bt101.2.2 = true then (spec_LongestGap.l0 k bt101.1 bt101.2.1 0 bt101.1 (bt101.1.length : Int) 0) else (some (0, 0, false)))
set_option maxHeartbeats 8000000 in
set_option maxRecDepth 100000 in
theorem spec_LongestGap.calls (k : Nat) (A0 : Option Addr) (c0 : Nat) (l0 : List (SRule)) (r1 : Int) (r2 : Int) (r3 : Bool) (w : World) (hr0 : Kd.C kRule w A0 l0.length l0) (hc0 : l0.length ≤ c0) (h : spec_LongestGap.f k l0 = some (r1, r2, r3)) :
  Calls Try.prog 26 #[.slice A0 l0.length c0] w fun e w' => e = .returned (.tuple #[.int .i64 r1, .int .i64 r2, .bool r3]) ∧ Below w.heap.size w w' := by
 have HR0 := Aside0.mk hr0
 have HC0 := Aside0.mk hc0
 clear hr0 hc0
 have HB := Aside0.mk (Below.refl w.heap.size w)
 have H : ((spec_gpGaps.f k l0).bind fun bt101 => (if bt101.2.2 = true then (spec_LongestGap.l0 k bt101.1 bt101.2.1 0 bt101.1 (bt101.1.length : Int) 0) else (some (0, 0, false)))) = some (r1, r2, r3) := h
 clear h
 obtain ⟨⟨t101, t102, t103⟩, A2, H⟩ := obnd_ H
 (try dsimp only at H)
 by_cases c3 : t103 = true
 ·subst c3
  rw [if_pos rfl] at H
  have H' := Aside0.mk H
  clear H
  go_enter Try.func26, Try.ntmps26
  go_wp2_with (first | (go_at_call 73; (with_reducible refine (spec_gpGaps.calls k _ _ l0 t101 t102 true _ ?side1 ?side2 A2.out).mono ?_); (case side1 => exact k31_); (case side2 => exact k77_); rintro e w4 ⟨v104, v106, rfl, ho0, ho1, hb⟩; have HO105 := Aside0.mk (Kd.R_lower ho0 (below_size k49_)); have HO107 := Aside0.mk (Kd.R_lower ho1 (below_size k49_)); replace HB := HB.mw hb; (try clear hb ho0 ho1); obtain ⟨Ao5, co5, eo5⟩ := Kd.R_slice HO105.out; subst eo5))
  repeat (go_quiet (first | (go_at_call 73; (with_reducible refine (spec_gpGaps.calls k _ _ l0 t101 t102 true _ ?side1 ?side2 A2.out).mono ?_); (case side1 => exact k31_); (case side2 => exact k77_); rintro e w4 ⟨v104, v106, rfl, ho0, ho1, hb⟩; have HO105 := Aside0.mk (Kd.R_lower ho0 (below_size k49_)); have HO107 := Aside0.mk (Kd.R_lower ho1 (below_size k49_)); replace HB := HB.mw hb; (try clear hb ho0 ho1); obtain ⟨Ao5, co5, eo5⟩ := Kd.R_slice HO105.out; subst eo5)); try go_wp2_with (first | (go_at_call 73; (with_reducible refine (spec_gpGaps.calls k _ _ l0 t101 t102 true _ ?side1 ?side2 A2.out).mono ?_); (case side1 => exact k31_); (case side2 => exact k77_); rintro e w4 ⟨v104, v106, rfl, ho0, ho1, hb⟩; have HO105 := Aside0.mk (Kd.R_lower ho0 (below_size k49_)); have HO107 := Aside0.mk (Kd.R_lower ho1 (below_size k49_)); replace HB := HB.mw hb; (try clear hb ho0 ho1); obtain ⟨Ao5, co5, eo5⟩ := Kd.R_slice HO105.out; subst eo5)))
  go_loopg [8, 21] k (fun kq v8 v21 w' => ∃ (x8_1 : Int) (x21_1 : Int), v8 = .int .i64 x8_1 ∧ v21 = .int .i64 x21_1 ∧ Aside0 (spec_LongestGap.l0 kq t101 t102 x8_1 t101 (t101.length : Int) x21_1 = some (r1, r2, r3)) ∧ Aside0 (kq ≤ k) ∧ Aside0 (Kd.R (Kd.int .i64) 3 w' w.heap.size (fun k_ => some k_ ≠ (v106 : Value).ownBlock) (.slice Ao5 t101.length co5) t101) ∧ Aside0 (Kd.R (Kd.int .i64) 3 w' w.heap.size (fun k_ => some k_ ≠ ((.slice Ao5 t101.length co5) : Value).ownBlock ∧ some k_ ≠ ((.slice Ao5 t101.length co5) : Value).ownBlock) v106 t102) ∧ Aside0 (Kd.R (Kd.int .i64) 3 w' w.heap.size (fun k_ => some k_ ≠ (v106 : Value).ownBlock) (.slice Ao5 t101.length co5) t101) ∧ Aside0 (Below w.heap.size w w'))
  case atStart => exact ⟨(0), (0), k69_, k69_, H', ⟨Nat.le_refl _⟩, ⟨k59_⟩, ⟨by (with_reducible repeat (first | apply Kd.R_alloc | apply Kd.R_drewN | apply Kd.R_drew)); exact Kd.R_mono HO107.out (fun _ hk => ⟨hk, hk⟩)⟩, ⟨k59_⟩, ⟨k49_⟩⟩
  case round =>
   clear H'
   (try clear c3)
   obtain ⟨x8_1, x21_1, rfl, rfl, HA, HK1, HO_5, HO_6, HO_19, HB⟩ := hrel
   cases gk with
   | zero => exact absurd HA.out (by simp [spec_LongestGap.l0])
   | succ k1 =>
    have H := HA.out
    clear HA
    simp only [spec_LongestGap.l0] at H
    by_cases c6 : x21_1 < (t101.length : Int)
    ·rw [if_pos c6] at H
     have c6b0 : decide (x21_1 < (t101.length : Int)) = true := decide_eq_true c6
     clear c6
     by_cases c7 : 0 ≤ x21_1
     ·rw [if_pos c7] at H
      have c7b0 : decide (0 ≤ x21_1) = true := decide_eq_true c7
      clear c7
      by_cases c8 : x21_1 < (t101.length : Int)
      ·rw [if_pos c8] at H
       have c8b0 : decide (x21_1 < (t101.length : Int)) = true := decide_eq_true c8
       clear c8
       by_cases c9 : 0 ≤ x8_1
       ·rw [if_pos c9] at H
        have c9b0 : decide (0 ≤ x8_1) = true := decide_eq_true c9
        clear c9
        by_cases c10 : x8_1 < (t101.length : Int)
        ·rw [if_pos c10] at H
         have c10b0 : decide (x8_1 < (t101.length : Int)) = true := decide_eq_true c10
         clear c10
         by_cases c11 : (rd t101 x21_1) > (rd t101 x8_1)
         ·rw [if_pos c11] at H
          have c11b0 : decide ((rd t101 x8_1) < (rd t101 x21_1)) = true := decide_eq_true c11
          clear c11
          have H' := Aside0.mk H
          clear H
          have p108 : 0 ≤ (x21_1 : Int) := of_decide_eq_true k68_
          have q108 : x21_1 < (t101.length : Int) := of_decide_eq_true k68_
          obtain ⟨ad108, e108, hx108_0⟩ := Kd.at_int (Kd.R_reads' HO_19.out).2.2 x21_1 p108 q108
          cases e108
          replace p108 := eq_true p108
          replace q108 := eq_true q108
          have p109 : 0 ≤ (x8_1 : Int) := of_decide_eq_true k68_
          have q109 : x8_1 < (t101.length : Int) := of_decide_eq_true k68_
          obtain ⟨ad109, e109, hx109_0⟩ := Kd.at_int (Kd.R_reads' HO_5.out).2.2 x8_1 p109 q109
          obtain rfl : ad108 = ad109 := (by injection e109)
          replace p109 := eq_true p109
          replace q109 := eq_true q109
          go_wp2
          repeat (go_quiet (fail); try go_wp2)
          go_roundg k1
          case measure => have := HK1.out; omega
          case rel => exact ⟨(x21_1), (wrap64 (x21_1 + 1)), k69_, k69_, H', ⟨k76_⟩, ⟨k63_⟩, ⟨k66_⟩, ⟨by apply_rules only [HO_19.out, Kd.R_alloc, Kd.R_drewN, Kd.R_drew]⟩, ⟨k49_⟩⟩
         ·rw [if_neg c11] at H
          have c11b0 : decide ((rd t101 x8_1) < (rd t101 x21_1)) = false := decide_eq_false c11
          clear c11
          have H' := Aside0.mk H
          clear H
          have p108 : 0 ≤ (x21_1 : Int) := of_decide_eq_true k68_
          have q108 : x21_1 < (t101.length : Int) := of_decide_eq_true k68_
          obtain ⟨ad108, e108, hx108_0⟩ := Kd.at_int (Kd.R_reads' HO_19.out).2.2 x21_1 p108 q108
          cases e108
          replace p108 := eq_true p108
          replace q108 := eq_true q108
          have p109 : 0 ≤ (x8_1 : Int) := of_decide_eq_true k68_
          have q109 : x8_1 < (t101.length : Int) := of_decide_eq_true k68_
          obtain ⟨ad109, e109, hx109_0⟩ := Kd.at_int (Kd.R_reads' HO_5.out).2.2 x8_1 p109 q109
          obtain rfl : ad108 = ad109 := (by injection e109)
          replace p109 := eq_true p109
          replace q109 := eq_true q109
          go_wp2
          repeat (go_quiet (fail); try go_wp2)
          go_roundg k1
          case measure => have := HK1.out; omega
          case rel => exact ⟨(x8_1), (wrap64 (x21_1 + 1)), k69_, k69_, H', ⟨k76_⟩, ⟨k63_⟩, ⟨k66_⟩, ⟨by apply_rules only [HO_19.out, Kd.R_alloc, Kd.R_drewN, Kd.R_drew]⟩, ⟨k49_⟩⟩
        ·rw [if_neg c10] at H
         exact absurd H (by simp)
       ·rw [if_neg c9] at H
        exact absurd H (by simp)
      ·rw [if_neg c8] at H
       exact absurd H (by simp)
     ·rw [if_neg c7] at H
      exact absurd H (by simp)
    ·rw [if_neg c6] at H
     have c6b0 : decide (x21_1 < (t101.length : Int)) = false := decide_eq_false c6
     clear c6
     by_cases c12 : 0 ≤ x8_1
     ·rw [if_pos c12] at H
      have c12b0 : decide (0 ≤ x8_1) = true := decide_eq_true c12
      clear c12
      by_cases c13 : x8_1 < (t101.length : Int)
      ·rw [if_pos c13] at H
       have c13b0 : decide (x8_1 < (t101.length : Int)) = true := decide_eq_true c13
       clear c13
       by_cases c14 : x8_1 < (t102.length : Int)
       ·rw [if_pos c14] at H
        have c14b0 : decide (x8_1 < (t102.length : Int)) = true := decide_eq_true c14
        clear c14
        simp only [Option.some.injEq, Prod.mk.injEq] at H
        obtain ⟨rfl, rfl, rfl⟩ := H
        have p110 : 0 ≤ (x8_1 : Int) := of_decide_eq_true k68_
        have q110 : x8_1 < (t101.length : Int) := of_decide_eq_true k68_
        obtain ⟨ad110, e110, hx110_0⟩ := Kd.at_int (Kd.R_reads' HO_5.out).2.2 x8_1 p110 q110
        cases e110
        replace p110 := eq_true p110
        replace q110 := eq_true q110
        obtain ⟨Ao15, co15, eo15⟩ := Kd.R_slice HO_6.out
        subst eo15
        have p111 : 0 ≤ (x8_1 : Int) := of_decide_eq_true k68_
        have q111 : x8_1 < (t102.length : Int) := of_decide_eq_true k68_
        obtain ⟨ad111, e111, hx111_0⟩ := Kd.at_int (Kd.R_reads' HO_6.out).2.2 x8_1 p111 q111
        cases e111
        replace p111 := eq_true p111
        replace q111 := eq_true q111
        go_wp2
        repeat (go_quiet (fail); try go_wp2)
        go_ret3
        exact ⟨k46_, k49_⟩
       ·rw [if_neg c14] at H
        exact absurd H (by simp)
      ·rw [if_neg c13] at H
       exact absurd H (by simp)
     ·rw [if_neg c12] at H
      exact absurd H (by simp)
 ·replace c3 := Bool.eq_false_iff.mpr c3
  subst c3
  rw [if_neg (show ¬ (false = true) by decide)] at H
  simp only [Option.some.injEq, Prod.mk.injEq] at H
  obtain ⟨rfl, rfl, rfl⟩ := H
  go_enter Try.func26, Try.ntmps26
  go_wp2_with (first | (go_at_call 73; (with_reducible refine (spec_gpGaps.calls k _ _ l0 t101 t102 false _ ?side1 ?side2 A2.out).mono ?_); (case side1 => exact k31_); (case side2 => exact k77_); rintro e w16 ⟨v104, v106, rfl, ho0, ho1, hb⟩; have HO105 := Aside0.mk (Kd.R_lower ho0 (below_size k49_)); have HO107 := Aside0.mk (Kd.R_lower ho1 (below_size k49_)); replace HB := HB.mw hb; (try clear hb ho0 ho1)))
  repeat (go_quiet (first | (go_at_call 73; (with_reducible refine (spec_gpGaps.calls k _ _ l0 t101 t102 false _ ?side1 ?side2 A2.out).mono ?_); (case side1 => exact k31_); (case side2 => exact k77_); rintro e w16 ⟨v104, v106, rfl, ho0, ho1, hb⟩; have HO105 := Aside0.mk (Kd.R_lower ho0 (below_size k49_)); have HO107 := Aside0.mk (Kd.R_lower ho1 (below_size k49_)); replace HB := HB.mw hb; (try clear hb ho0 ho1))); try go_wp2_with (first | (go_at_call 73; (with_reducible refine (spec_gpGaps.calls k _ _ l0 t101 t102 false _ ?side1 ?side2 A2.out).mono ?_); (case side1 => exact k31_); (case side2 => exact k77_); rintro e w16 ⟨v104, v106, rfl, ho0, ho1, hb⟩; have HO105 := Aside0.mk (Kd.R_lower ho0 (below_size k49_)); have HO107 := Aside0.mk (Kd.R_lower ho1 (below_size k49_)); replace HB := HB.mw hb; (try clear hb ho0 ho1))))
  go_ret3
  exact ⟨k46_, k49_⟩
end Go.Proofs.Ytdcijdeiaefjpaa.P
namespace Go.Proofs.Ytdcijdeiaefjpaa.P
open Go.RowKit Go.Proofs.YtdcijdeiaefjpaaW.PrintWords Go.Proofs.YtdcijdeiaefjpaaW.PrintLast Go.Proofs.YtdcijdeiaefjpaaW.PrintMore
attribute [local go_sem] max2_int min2_int max_two min_two max_three min_three max_four min_four
set_option linter.unusedVariables false
set_option linter.unusedSimpArgs false
def spec_l1Most.f (a0 : Int) (a1 : Int) : Option (Int) := if a0 > a1 then (some a0) else (some a1)
set_option maxHeartbeats 8000000 in
set_option maxRecDepth 100000 in
theorem spec_l1Most.calls (a0 : Int) (a1 : Int) (r : Int) (w : World) (h : spec_l1Most.f a0 a1 = some r) :
  Calls Try.prog 75 #[.int .i64 a0, .int .i64 a1] w fun e w' => e = .returned (.int .i64 r) ∧ Drawn0 w w' := by
 have H : (if a0 > a1 then (some a0) else (some a1)) = some r := h
 clear h
 by_cases c3 : a0 > a1
 ·rw [if_pos c3] at H
  have c3b0 : decide (a1 < a0) = true := decide_eq_true c3
  clear c3
  obtain rfl := Option.some.inj H
  go_enter Try.func75, Try.ntmps75
  go_wp2
  go_ret
  exact ⟨k69_, k67_⟩
 ·rw [if_neg c3] at H
  have c3b0 : decide (a1 < a0) = false := decide_eq_false c3
  clear c3
  obtain rfl := Option.some.inj H
  go_enter Try.func75, Try.ntmps75
  go_wp2
  go_ret
  exact ⟨k69_, k67_⟩
end Go.Proofs.Ytdcijdeiaefjpaa.P
namespace Go.Proofs.Ytdcijdeiaefjpaa.P
open Go.RowKit Go.Proofs.YtdcijdeiaefjpaaW.PrintWords Go.Proofs.YtdcijdeiaefjpaaW.PrintLast Go.Proofs.YtdcijdeiaefjpaaW.PrintMore
attribute [local go_sem] max2_int min2_int max_two min_two max_three min_three max_four min_four
set_option linter.unusedVariables false
set_option linter.unusedSimpArgs false
def spec_LongestRunOut.l0 : Nat → Int → List Int → Int → Int → Option (Int × Bool)
 | 0, _, _, _, _ => none
 | k + 1, x7, x18, x19, x20 => if x20 < x19 then (if 0 ≤ x20 then (if x20 < (x18.length : Int) then ((spec_l1Most.f x7 (wrap64 ((rd x18 x20) - 1))).bind fun t109 => (spec_LongestRunOut.l0 k t109 x18 x19 (wrap64 (x20 + 1)))) else (none)) else (none)) else (some (x7, true))
def spec_LongestRunOut.f (k : Nat) (l0 : List (SRule)) : Option (Int × Bool) := (spec_gpGaps.f k l0).bind fun bt101 => (if bt101.2.2 = true then (spec_LongestRunOut.l0 k 0 bt101.1 (bt101.1.length : Int) 0) else (some (0, false)))
set_option maxHeartbeats 8000000 in
set_option maxRecDepth 100000 in
theorem spec_LongestRunOut.calls (k : Nat) (A0 : Option Addr) (c0 : Nat) (l0 : List (SRule)) (r1 : Int) (r2 : Bool) (w : World) (hr0 : Kd.C kRule w A0 l0.length l0) (hc0 : l0.length ≤ c0) (h : spec_LongestRunOut.f k l0 = some (r1, r2)) :
  Calls Try.prog 27 #[.slice A0 l0.length c0] w fun e w' => e = .returned (.tuple #[.int .i64 r1, .bool r2]) ∧ Below w.heap.size w w' := by
 have HR0 := Aside0.mk hr0
 have HC0 := Aside0.mk hc0
 clear hr0 hc0
 have HB := Aside0.mk (Below.refl w.heap.size w)
 have H : ((spec_gpGaps.f k l0).bind fun bt101 => (if bt101.2.2 = true then (spec_LongestRunOut.l0 k 0 bt101.1 (bt101.1.length : Int) 0) else (some (0, false)))) = some (r1, r2) := h
 clear h
 obtain ⟨⟨t101, t102, t103⟩, A2, H⟩ := obnd_ H
 (try dsimp only at H)
 by_cases c3 : t103 = true
 ·subst c3
  rw [if_pos rfl] at H
  have H' := Aside0.mk H
  clear H
  go_enter Try.func27, Try.ntmps27
  go_wp2_with (first | ((with_reducible refine gate_callee (f := 73) rfl ?_); refine goesL_ (some 12) rfl rfl Try.func73 (by kernel_rfl) rfl #[.slice A0 l0.length c0] rfl k35_ ?_; (with_reducible refine (spec_gpGaps.calls k _ _ l0 t101 t102 true _ ?side1 ?side2 A2.out).mono ?_); (case side1 => exact k31_); (case side2 => exact k77_); rintro e w4 ⟨v104, v106, rfl, ho0, ho1, hb⟩; refine ⟨_, rfl, ?_⟩; have HO105 := Aside0.mk (Kd.R_lower ho0 (below_size k49_)); have HO107 := Aside0.mk (Kd.R_lower ho1 (below_size k49_)); replace HB := HB.mw hb; (try clear hb ho0 ho1); obtain ⟨Ao5, co5, eo5⟩ := Kd.R_slice HO105.out; subst eo5))
  go_loopg [7, 20] k (fun kq v7 v20 w' => ∃ (x7_1 : Int) (x20_1 : Int), v7 = .int .i64 x7_1 ∧ v20 = .int .i64 x20_1 ∧ Aside0 (spec_LongestRunOut.l0 kq x7_1 t101 (t101.length : Int) x20_1 = some (r1, r2)) ∧ Aside0 (kq ≤ k) ∧ Aside0 (Kd.R (Kd.int .i64) 3 w' w.heap.size (fun _ => True) (.slice Ao5 t101.length co5) t101) ∧ Aside0 (Below w.heap.size w w'))
  case atStart => exact ⟨(0), (0), k69_, k69_, H', ⟨Nat.le_refl _⟩, ⟨k37_⟩, ⟨k49_⟩⟩
  case round =>
   clear H'
   (try clear c3)
   obtain ⟨x7_1, x20_1, rfl, rfl, HA, HK1, HO_18, HB⟩ := hrel
   cases gk with
   | zero => exact absurd HA.out (by simp [spec_LongestRunOut.l0])
   | succ k1 =>
    have H := HA.out
    clear HA
    simp only [spec_LongestRunOut.l0] at H
    by_cases c6 : x20_1 < (t101.length : Int)
    ·rw [if_pos c6] at H
     have c6b0 : decide (x20_1 < (t101.length : Int)) = true := decide_eq_true c6
     clear c6
     by_cases c7 : 0 ≤ x20_1
     ·rw [if_pos c7] at H
      have c7b0 : decide (0 ≤ x20_1) = true := decide_eq_true c7
      clear c7
      by_cases c8 : x20_1 < (t101.length : Int)
      ·rw [if_pos c8] at H
       have c8b0 : decide (x20_1 < (t101.length : Int)) = true := decide_eq_true c8
       clear c8
       obtain ⟨t109, A9, H⟩ := obnd_ H
       (try dsimp only at H)
       have H' := Aside0.mk H
       clear H
       have p108 : 0 ≤ (x20_1 : Int) := of_decide_eq_true k68_
       have q108 : x20_1 < (t101.length : Int) := of_decide_eq_true k68_
       obtain ⟨ad108, e108, hx108_0⟩ := Kd.at_int (Kd.R_reads' HO_18.out).2.2 x20_1 p108 q108
       cases e108
       replace p108 := eq_true p108
       replace q108 := eq_true q108
       go_wp2_with (first | ((with_reducible refine gate_callee (f := 75) rfl ?_); refine goesL_ (some 27) rfl rfl Try.func75 (by kernel_rfl) rfl #[.int .i64 x7_1, .int .i64 (wrap64 ((rd t101 x20_1) - 1))] rfl k35_ ?_; (with_reducible refine (spec_l1Most.calls x7_1 (wrap64 ((rd t101 x20_1) - 1)) t109 _ A9.out).mono ?_); rintro e w' ⟨rfl, ⟨nd, rfl⟩⟩; refine ⟨_, rfl, ?_⟩))
       go_roundg k1
       case measure => have := HK1.out; omega
       case rel => exact ⟨(t109), (wrap64 (x20_1 + 1)), k69_, k69_, H', ⟨k76_⟩, ⟨by apply_rules only [HO_18.out, Kd.R_alloc, Kd.R_drewN, Kd.R_drew]⟩, ⟨k49_⟩⟩
      ·rw [if_neg c8] at H
       exact absurd H (by simp)
     ·rw [if_neg c7] at H
      exact absurd H (by simp)
    ·rw [if_neg c6] at H
     have c6b0 : decide (x20_1 < (t101.length : Int)) = false := decide_eq_false c6
     clear c6
     simp only [Option.some.injEq, Prod.mk.injEq] at H
     obtain ⟨rfl, rfl⟩ := H
     go_wp2
     go_ret2
     exact ⟨k46_, k49_⟩
 ·replace c3 := Bool.eq_false_iff.mpr c3
  subst c3
  rw [if_neg (show ¬ (false = true) by decide)] at H
  simp only [Option.some.injEq, Prod.mk.injEq] at H
  obtain ⟨rfl, rfl⟩ := H
  go_enter Try.func27, Try.ntmps27
  go_wp2_with (first | ((with_reducible refine gate_callee (f := 73) rfl ?_); refine goesL_ (some 12) rfl rfl Try.func73 (by kernel_rfl) rfl #[.slice A0 l0.length c0] rfl k35_ ?_; (with_reducible refine (spec_gpGaps.calls k _ _ l0 t101 t102 false _ ?side1 ?side2 A2.out).mono ?_); (case side1 => exact k31_); (case side2 => exact k77_); rintro e w10 ⟨v104, v106, rfl, ho0, ho1, hb⟩; refine ⟨_, rfl, ?_⟩; have HO105 := Aside0.mk (Kd.R_lower ho0 (below_size k49_)); have HO107 := Aside0.mk (Kd.R_lower ho1 (below_size k49_)); replace HB := HB.mw hb; (try clear hb ho0 ho1)))
  go_ret2
  exact ⟨k46_, k49_⟩
end Go.Proofs.Ytdcijdeiaefjpaa.P
namespace Go.Proofs.Ytdcijdeiaefjpaa.P
open Go.RowKit Go.Proofs.YtdcijdeiaefjpaaW.PrintWords Go.Proofs.YtdcijdeiaefjpaaW.PrintLast Go.Proofs.YtdcijdeiaefjpaaW.PrintMore
attribute [local go_sem] max2_int min2_int max_two min_two max_three min_three max_four min_four
set_option linter.unusedVariables false
set_option linter.unusedSimpArgs false
mutual
def impl_LongestRunLeft.j0 : Nat → List Int → Bool → Option (Int × Bool)
 | 0, _, _ => none
 | k + 1, x5, x23 => if x23 = true then (some (0, false)) else (impl_LongestRunLeft.l0 k x5 1 1 0)
def impl_LongestRunLeft.l0 : Nat → List Int → Int → Int → Int → Option (Int × Bool)
 | 0, _, _, _, _ => none
 | k + 1, x5, x7, x8, x24 => if x24 < 2 then (impl_LongestRunLeft.l1 k x5 x7 x8 x24 x5 (x5.length : Int) 0) else (some (x7, true))
def impl_LongestRunLeft.l1 : Nat → List Int → Int → Int → Int → List Int → Int → Int → Option (Int × Bool)
 | 0, _, _, _, _, _, _, _ => none
 | k + 1, x5, x7, x8, x24, x26, x27, x28 => if x28 < x27 then (if 0 ≤ x28 then (if x28 < (x26.length : Int) then (if (rd x26 x28) > 1 then (impl_LongestRunLeft.l1 k x5 (mx x7 1) 1 x24 x26 x27 (wrap64 (x28 + 1))) else (impl_LongestRunLeft.l1 k x5 (mx x7 (wrap64 (x8 + 1))) (wrap64 (x8 + 1)) x24 x26 x27 (wrap64 (x28 + 1)))) else (none)) else (none)) else (impl_LongestRunLeft.l0 k x5 x7 x8 (wrap64 (x24 + 1)))
end
def impl_LongestRunLeft.f (k : Nat) (l0 : List (SRule)) : Option (Int × Bool) := (impl_periodGaps.f k l0).bind fun bt101 => (if bt101.2.2 = true then (impl_LongestRunLeft.j0 k bt101.2.1 ((l0.length : Int) == 0)) else (impl_LongestRunLeft.j0 k bt101.2.1 true))
set_option maxHeartbeats 8000000 in
set_option maxRecDepth 100000 in
theorem impl_LongestRunLeft.calls (k : Nat) (A0 : Option Addr) (c0 : Nat) (l0 : List (SRule)) (r1 : Int) (r2 : Bool) (w : World) (hr0 : Kd.C kRule w A0 l0.length l0) (hc0 : l0.length ≤ c0) (h : impl_LongestRunLeft.f k l0 = some (r1, r2)) :
  Calls Try.prog 28 #[.slice A0 l0.length c0] w fun e w' => e = .returned (.tuple #[.int .i64 r1, .bool r2]) ∧ Below w.heap.size w w' := by
 have HR0 := Aside0.mk hr0
 have HC0 := Aside0.mk hc0
 clear hr0 hc0
 have HB := Aside0.mk (Below.refl w.heap.size w)
 have H : ((impl_periodGaps.f k l0).bind fun bt101 => (if bt101.2.2 = true then (impl_LongestRunLeft.j0 k bt101.2.1 ((l0.length : Int) == 0)) else (impl_LongestRunLeft.j0 k bt101.2.1 true))) = some (r1, r2) := h
 clear h
 obtain ⟨⟨t101, t102, t103⟩, A2, H⟩ := obnd_ H
 (try dsimp only at H)
 have HC3 := Aside0.mk H
 clear H
 go_enter Try.func28, Try.ntmps28
 go_upto_region 2 with (first | ((with_reducible refine gate_callee (f := 62) rfl ?_); refine goesL_ (some 13) rfl rfl Try.func62 (by kernel_rfl) rfl #[.slice A0 l0.length c0] rfl k35_ ?_; (with_reducible refine (impl_periodGaps.calls k _ _ l0 t101 t102 t103 _ ?side1 ?side2 A2.out).mono ?_); (case side1 => exact k31_); (case side2 => exact k77_); rintro e w4 ⟨v104, v106, rfl, ho0, ho1, hb⟩; refine ⟨_, rfl, ?_⟩; have HO105 := Aside0.mk (Kd.R_lower ho0 (below_size k49_)); have HO107 := Aside0.mk (Kd.R_lower ho1 (below_size k49_)); replace HB := HB.mw hb; (try clear hb ho0 ho1)))
 (try simp only [Act.put, List.setIfInBounds_toArray, List.set_cons_zero, List.set_cons_succ])
 go_cut [23] (fun v23 wc => ∃ (kq : Nat) (x23_2 : Bool), v23 = .bool x23_2 ∧ Aside0 (impl_LongestRunLeft.j0 kq t102 x23_2 = some (r1, r2)) ∧ Aside0 (kq ≤ k) ∧ Aside0 (Kd.R (Kd.int .i64) 3 wc w.heap.size (fun _ => True) v106 t102) ∧ Aside0 (Below w.heap.size w wc))
 case first =>
  have H := HC3.out
  clear HC3
  by_cases c5 : t103 = true
  ·subst c5
   rw [if_pos rfl] at H
   have H' := Aside0.mk H
   clear H
   go_wp2
   go_meet
   case rel => exact ⟨_, (((l0.length : Int) == 0)), k69_, H', ⟨k72_⟩, ⟨k36_⟩, ⟨k49_⟩⟩
  ·replace c5 := Bool.eq_false_iff.mpr c5
   subst c5
   rw [if_neg (show ¬ (false = true) by decide)] at H
   have H' := Aside0.mk H
   clear H
   go_wp2
   go_meet
   case rel => exact ⟨_, (true), k69_, H', ⟨k72_⟩, ⟨k36_⟩, ⟨k49_⟩⟩
 case rest =>
  clear HC3
  obtain ⟨kq, x23_2, rfl, HA, HJ2, HO_5, HB⟩ := hcut
  cases kq with
  | zero => exact absurd HA.out (by simp [impl_LongestRunLeft.j0])
  | succ kj2 =>
   have H := HA.out
   clear HA
   simp only [impl_LongestRunLeft.j0] at H
   by_cases c6 : x23_2 = true
   ·subst c6
    rw [if_pos rfl] at H
    simp only [Option.some.injEq, Prod.mk.injEq] at H
    obtain ⟨rfl, rfl⟩ := H
    go_wp2
    go_ret2
    exact ⟨k46_, k49_⟩
   ·replace c6 := Bool.eq_false_iff.mpr c6
    subst c6
    rw [if_neg (show ¬ (false = true) by decide)] at H
    have H' := Aside0.mk H
    clear H
    go_wp2
    go_loopg [7, 8, 24] kj2 (fun kq v7 v8 v24 w' => ∃ (x7_2 : Int) (x8_2 : Int) (x24_2 : Int), v7 = .int .i64 x7_2 ∧ v8 = .int .i64 x8_2 ∧ v24 = .int .i64 x24_2 ∧ Aside0 (impl_LongestRunLeft.l0 kq t102 x7_2 x8_2 x24_2 = some (r1, r2)) ∧ Aside0 (kq ≤ kj2) ∧ Aside0 (Kd.R (Kd.int .i64) 3 w' w.heap.size (fun _ => True) v106 t102) ∧ Aside0 (Below w.heap.size w w'))
    case atStart => exact ⟨(1), (1), (0), k69_, k69_, k69_, H', ⟨Nat.le_refl _⟩, ⟨k63_⟩, ⟨k49_⟩⟩
    case round =>
     clear H'
     (try clear c6)
     obtain ⟨x7_2, x8_2, x24_2, rfl, rfl, rfl, HA, HK2, HO_5, HB⟩ := hrel
     cases gk with
     | zero => exact absurd HA.out (by simp [impl_LongestRunLeft.l0])
     | succ k2 =>
      have H := HA.out
      clear HA
      simp only [impl_LongestRunLeft.l0] at H
      by_cases c7 : x24_2 < 2
      ·rw [if_pos c7] at H
       have c7b0 : decide (x24_2 < 2) = true := decide_eq_true c7
       clear c7
       have H' := Aside0.mk H
       clear H
       obtain ⟨Ao8, co8, eo8⟩ := Kd.R_slice HO_5.out
       subst eo8
       go_wp2
       go_loopg [7, 8, 28] k2 (fun kq v7 v8 v28 w' => ∃ (x7_3 : Int) (x8_3 : Int) (x28_3 : Int), v7 = .int .i64 x7_3 ∧ v8 = .int .i64 x8_3 ∧ v28 = .int .i64 x28_3 ∧ Aside0 (impl_LongestRunLeft.l1 kq t102 x7_3 x8_3 x24_2 t102 (t102.length : Int) x28_3 = some (r1, r2)) ∧ Aside0 (kq ≤ k2) ∧ Aside0 (Kd.R (Kd.int .i64) 3 w' w.heap.size (fun _ => True) (.slice Ao8 t102.length co8) t102) ∧ Aside0 (Kd.R (Kd.int .i64) 3 w' w.heap.size (fun _ => True) (.slice Ao8 t102.length co8) t102) ∧ Aside0 (Below w.heap.size w w'))
       case atStart => exact ⟨(x7_2), (x8_2), (0), k69_, k69_, k69_, H', ⟨Nat.le_refl _⟩, ⟨k63_⟩, ⟨k63_⟩, ⟨k49_⟩⟩
       case round =>
        clear H'
        skip
        obtain ⟨x7_3, x8_3, x28_3, rfl, rfl, rfl, HA, HK3, HO_5, HO_26, HB⟩ := hrel
        cases gk with
        | zero => exact absurd HA.out (by simp [impl_LongestRunLeft.l1])
        | succ k3 =>
         have H := HA.out
         clear HA
         simp only [impl_LongestRunLeft.l1] at H
         by_cases c9 : x28_3 < (t102.length : Int)
         ·rw [if_pos c9] at H
          have c9b0 : decide (x28_3 < (t102.length : Int)) = true := decide_eq_true c9
          clear c9
          by_cases c10 : 0 ≤ x28_3
          ·rw [if_pos c10] at H
           have c10b0 : decide (0 ≤ x28_3) = true := decide_eq_true c10
           clear c10
           by_cases c11 : x28_3 < (t102.length : Int)
           ·rw [if_pos c11] at H
            have c11b0 : decide (x28_3 < (t102.length : Int)) = true := decide_eq_true c11
            clear c11
            by_cases c12 : (rd t102 x28_3) > 1
            ·rw [if_pos c12] at H
             have c12b0 : decide (1 < (rd t102 x28_3)) = true := decide_eq_true c12
             clear c12
             obtain ⟨ji13, hji13⟩ : ∃ j_ : Int, (mx x7_3 1) = j_ := ⟨_, rfl⟩
             replace H : (impl_LongestRunLeft.l1 k3 t102 ji13 1 x24_2 t102 (t102.length : Int) (wrap64 (x28_3 + 1))) = some (r1, r2) := by first | (rw [hji13] at H; exact H) | (simp only [hji13] at H ⊢; exact H)
             have hji13_ : (if x7_3 < 1 then 1 else x7_3) = ji13 := hji13
             have H' := Aside0.mk H
             clear H
             have p108 : 0 ≤ (x28_3 : Int) := of_decide_eq_true k68_
             have q108 : x28_3 < (t102.length : Int) := of_decide_eq_true k68_
             obtain ⟨ad108, e108, hx108_0⟩ := Kd.at_int (Kd.R_reads' HO_26.out).2.2 x28_3 p108 q108
             cases e108
             replace p108 := eq_true p108
             replace q108 := eq_true q108
             go_wp2
             go_roundg k3
             case measure => have := HJ2.out; have := HK2.out; have := HK3.out; omega
             case rel => exact ⟨(ji13), (1), (wrap64 (x28_3 + 1)), (by first | rfl | (simp; done) | (simp only [← hji13] <;> (first | rfl | simp)) | (simp [*]; done)), k69_, k69_, H', ⟨by have := HJ2.out; have := HK2.out; have := HK3.out; omega⟩, ⟨k63_⟩, ⟨by apply_rules only [HO_26.out, Kd.R_alloc, Kd.R_drewN, Kd.R_drew]⟩, ⟨k49_⟩⟩
            ·rw [if_neg c12] at H
             have c12b0 : decide (1 < (rd t102 x28_3)) = false := decide_eq_false c12
             clear c12
             obtain ⟨ji14, hji14⟩ : ∃ j_ : Int, (mx x7_3 (wrap64 (x8_3 + 1))) = j_ := ⟨_, rfl⟩
             replace H : (impl_LongestRunLeft.l1 k3 t102 ji14 (wrap64 (x8_3 + 1)) x24_2 t102 (t102.length : Int) (wrap64 (x28_3 + 1))) = some (r1, r2) := by first | (rw [hji14] at H; exact H) | (simp only [hji14] at H ⊢; exact H)
             have hji14_ : (if x7_3 < (wrap64 (x8_3 + 1)) then (wrap64 (x8_3 + 1)) else x7_3) = ji14 := hji14
             have H' := Aside0.mk H
             clear H
             have p108 : 0 ≤ (x28_3 : Int) := of_decide_eq_true k68_
             have q108 : x28_3 < (t102.length : Int) := of_decide_eq_true k68_
             obtain ⟨ad108, e108, hx108_0⟩ := Kd.at_int (Kd.R_reads' HO_26.out).2.2 x28_3 p108 q108
             cases e108
             replace p108 := eq_true p108
             replace q108 := eq_true q108
             go_wp2
             go_roundg k3
             case measure => have := HJ2.out; have := HK2.out; have := HK3.out; omega
             case rel => exact ⟨(ji14), (wrap64 (x8_3 + 1)), (wrap64 (x28_3 + 1)), (by first | rfl | (simp; done) | (simp only [← hji14] <;> (first | rfl | simp)) | (simp [*]; done)), k69_, k69_, H', ⟨by have := HJ2.out; have := HK2.out; have := HK3.out; omega⟩, ⟨k63_⟩, ⟨by apply_rules only [HO_26.out, Kd.R_alloc, Kd.R_drewN, Kd.R_drew]⟩, ⟨k49_⟩⟩
           ·rw [if_neg c11] at H
            exact absurd H (by simp)
          ·rw [if_neg c10] at H
           exact absurd H (by simp)
         ·rw [if_neg c9] at H
          have c9b0 : decide (x28_3 < (t102.length : Int)) = false := decide_eq_false c9
          clear c9
          have H' := Aside0.mk H
          clear H
          go_wp2
          go_roundg k3
          case measure => have := HJ2.out; have := HK2.out; have := HK3.out; omega
          case rel => exact ⟨(x7_3), (x8_3), (wrap64 (x24_2 + 1)), k69_, k69_, k69_, H', ⟨by have := HJ2.out; have := HK2.out; have := HK3.out; omega⟩, ⟨k63_⟩, ⟨k49_⟩⟩
      ·rw [if_neg c7] at H
       have c7b0 : decide (x24_2 < 2) = false := decide_eq_false c7
       clear c7
       simp only [Option.some.injEq, Prod.mk.injEq] at H
       obtain ⟨rfl, rfl⟩ := H
       go_wp2
       go_ret2
       exact ⟨k46_, k49_⟩
end Go.Proofs.Ytdcijdeiaefjpaa.P
namespace Go.Proofs.Ytdcijdeiaefjpaa.P
open Go.RowKit Go.Proofs.YtdcijdeiaefjpaaW.PrintWords Go.Proofs.YtdcijdeiaefjpaaW.PrintLast Go.Proofs.YtdcijdeiaefjpaaW.PrintMore
attribute [local go_sem] max2_int min2_int max_two min_two max_three min_three max_four min_four
set_option linter.unusedVariables false
set_option linter.unusedSimpArgs false
mutual
def spec_LongestRunLeft.j0 : Nat → List Int → Bool → Option (Int × Bool)
 | 0, _, _ => none
 | k + 1, x4, x22 => if x22 = true then (some (0, false)) else (spec_LongestRunLeft.l0 k x4 1 1 0)
def spec_LongestRunLeft.l0 : Nat → List Int → Int → Int → Int → Option (Int × Bool)
 | 0, _, _, _, _ => none
 | k + 1, x4, x7, x8, x9 => if x9 < (wrap64 (2 * (x4.length : Int))) then (if (x4.length : Int) = 0 then (none) else (if 0 ≤ (Int.tmod x9 (x4.length : Int)) then (if (Int.tmod x9 (x4.length : Int)) < (x4.length : Int) then (if (rd x4 (Int.tmod x9 (x4.length : Int))) = 1 then ((spec_l1Most.f x7 (wrap64 (x8 + 1))).bind fun t109 => (spec_LongestRunLeft.l0 k x4 t109 (wrap64 (x8 + 1)) (wrap64 (x9 + 1)))) else ((spec_l1Most.f x7 1).bind fun t110 => (spec_LongestRunLeft.l0 k x4 t110 1 (wrap64 (x9 + 1))))) else (none)) else (none))) else (some (x7, true))
end
def spec_LongestRunLeft.f (k : Nat) (l0 : List (SRule)) : Option (Int × Bool) := (spec_gpGaps.f k l0).bind fun bt101 => (if bt101.2.2 = true then (spec_LongestRunLeft.j0 k bt101.1 ((l0.length : Int) == 0)) else (spec_LongestRunLeft.j0 k bt101.1 true))
set_option maxHeartbeats 8000000 in
set_option maxRecDepth 100000 in
theorem spec_LongestRunLeft.calls (k : Nat) (A0 : Option Addr) (c0 : Nat) (l0 : List (SRule)) (r1 : Int) (r2 : Bool) (w : World) (hr0 : Kd.C kRule w A0 l0.length l0) (hc0 : l0.length ≤ c0) (h : spec_LongestRunLeft.f k l0 = some (r1, r2)) :
  Calls Try.prog 29 #[.slice A0 l0.length c0] w fun e w' => e = .returned (.tuple #[.int .i64 r1, .bool r2]) ∧ Below w.heap.size w w' := by
 have HR0 := Aside0.mk hr0
 have HC0 := Aside0.mk hc0
 clear hr0 hc0
 have HB := Aside0.mk (Below.refl w.heap.size w)
 have H : ((spec_gpGaps.f k l0).bind fun bt101 => (if bt101.2.2 = true then (spec_LongestRunLeft.j0 k bt101.1 ((l0.length : Int) == 0)) else (spec_LongestRunLeft.j0 k bt101.1 true))) = some (r1, r2) := h
 clear h
 obtain ⟨⟨t101, t102, t103⟩, A2, H⟩ := obnd_ H
 (try dsimp only at H)
 have HC3 := Aside0.mk H
 clear H
 go_enter Try.func29, Try.ntmps29
 go_upto_region 2 with (first | ((with_reducible refine gate_callee (f := 73) rfl ?_); refine goesL_ (some 12) rfl rfl Try.func73 (by kernel_rfl) rfl #[.slice A0 l0.length c0] rfl k35_ ?_; (with_reducible refine (spec_gpGaps.calls k _ _ l0 t101 t102 t103 _ ?side1 ?side2 A2.out).mono ?_); (case side1 => exact k31_); (case side2 => exact k77_); rintro e w4 ⟨v104, v106, rfl, ho0, ho1, hb⟩; refine ⟨_, rfl, ?_⟩; have HO105 := Aside0.mk (Kd.R_lower ho0 (below_size k49_)); have HO107 := Aside0.mk (Kd.R_lower ho1 (below_size k49_)); replace HB := HB.mw hb; (try clear hb ho0 ho1)))
 (try simp only [Act.put, List.setIfInBounds_toArray, List.set_cons_zero, List.set_cons_succ])
 go_cut [22] (fun v22 wc => ∃ (kq : Nat) (x22_2 : Bool), v22 = .bool x22_2 ∧ Aside0 (spec_LongestRunLeft.j0 kq t101 x22_2 = some (r1, r2)) ∧ Aside0 (kq ≤ k) ∧ Aside0 (Kd.R (Kd.int .i64) 3 wc w.heap.size (fun _ => True) v104 t101) ∧ Aside0 (Below w.heap.size w wc))
 case first =>
  have H := HC3.out
  clear HC3
  by_cases c5 : t103 = true
  ·subst c5
   rw [if_pos rfl] at H
   have H' := Aside0.mk H
   clear H
   go_wp2
   go_meet
   case rel => exact ⟨_, (((l0.length : Int) == 0)), k69_, H', ⟨k72_⟩, ⟨k37_⟩, ⟨k49_⟩⟩
  ·replace c5 := Bool.eq_false_iff.mpr c5
   subst c5
   rw [if_neg (show ¬ (false = true) by decide)] at H
   have H' := Aside0.mk H
   clear H
   go_wp2
   go_meet
   case rel => exact ⟨_, (true), k69_, H', ⟨k72_⟩, ⟨k37_⟩, ⟨k49_⟩⟩
 case rest =>
  clear HC3
  obtain ⟨kq, x22_2, rfl, HA, HJ2, HO_4, HB⟩ := hcut
  cases kq with
  | zero => exact absurd HA.out (by simp [spec_LongestRunLeft.j0])
  | succ kj2 =>
   have H := HA.out
   clear HA
   simp only [spec_LongestRunLeft.j0] at H
   by_cases c6 : x22_2 = true
   ·subst c6
    rw [if_pos rfl] at H
    simp only [Option.some.injEq, Prod.mk.injEq] at H
    obtain ⟨rfl, rfl⟩ := H
    go_wp2
    go_ret2
    exact ⟨k46_, k49_⟩
   ·replace c6 := Bool.eq_false_iff.mpr c6
    subst c6
    rw [if_neg (show ¬ (false = true) by decide)] at H
    have H' := Aside0.mk H
    clear H
    go_wp2
    go_loopg [7, 8, 9] kj2 (fun kq v7 v8 v9 w' => ∃ (x7_2 : Int) (x8_2 : Int) (x9_2 : Int), v7 = .int .i64 x7_2 ∧ v8 = .int .i64 x8_2 ∧ v9 = .int .i64 x9_2 ∧ Aside0 (spec_LongestRunLeft.l0 kq t101 x7_2 x8_2 x9_2 = some (r1, r2)) ∧ Aside0 (kq ≤ kj2) ∧ Aside0 (Kd.R (Kd.int .i64) 3 w' w.heap.size (fun _ => True) v104 t101) ∧ Aside0 (Below w.heap.size w w'))
    case atStart => exact ⟨(1), (1), (0), k69_, k69_, k69_, H', ⟨Nat.le_refl _⟩, ⟨k65_⟩, ⟨k49_⟩⟩
    case round =>
     clear H'
     (try clear c6)
     obtain ⟨x7_2, x8_2, x9_2, rfl, rfl, rfl, HA, HK2, HO_4, HB⟩ := hrel
     cases gk with
     | zero => exact absurd HA.out (by simp [spec_LongestRunLeft.l0])
     | succ k2 =>
      have H := HA.out
      clear HA
      simp only [spec_LongestRunLeft.l0] at H
      by_cases c7 : x9_2 < (wrap64 (2 * (t101.length : Int)))
      ·rw [if_pos c7] at H
       have c7b0 : decide (x9_2 < (wrap64 (2 * (t101.length : Int)))) = true := decide_eq_true c7
       clear c7
       by_cases c8 : (t101.length : Int) = 0
       ·rw [if_pos c8] at H
        exact absurd H (by simp)
       ·rw [if_neg c8] at H
        have c8b0 : ((t101.length : Int) == 0) = false := beq_eq_false_iff_ne.mpr c8
        have c8b1 : ((t101.length : Int) != 0) = true := bne_iff_ne.mpr c8
        have c8b2 : ¬ (t101 = []) := fun h_ => c8 (by rw [h_]; rfl)
        obtain ⟨ji9, hji9⟩ : ∃ j_ : Int, (Int.tmod x9_2 (t101.length : Int)) = j_ := ⟨_, rfl⟩
        replace H : (if 0 ≤ (ji9) then (if (ji9) < (t101.length : Int) then (if (rd t101 (ji9)) = 1 then ((spec_l1Most.f x7_2 (wrap64 (x8_2 + 1))).bind fun t109 => (spec_LongestRunLeft.l0 k2 t101 t109 (wrap64 (x8_2 + 1)) (wrap64 (x9_2 + 1)))) else ((spec_l1Most.f x7_2 1).bind fun t110 => (spec_LongestRunLeft.l0 k2 t101 t110 1 (wrap64 (x9_2 + 1))))) else (none)) else (none)) = some (r1, r2) := by first | (rw [hji9] at H; exact H) | (simp only [hji9] at H ⊢; exact H)
        by_cases c10 : 0 ≤ (ji9)
        ·rw [if_pos c10] at H
         have c10b0 : decide (0 ≤ (ji9)) = true := decide_eq_true c10
         clear c10
         by_cases c11 : (ji9) < (t101.length : Int)
         ·rw [if_pos c11] at H
          have c11b0 : decide ((ji9) < (t101.length : Int)) = true := decide_eq_true c11
          clear c11
          by_cases c12 : (rd t101 (ji9)) = 1
          ·rw [if_pos c12] at H
           have c12b0 : ((rd t101 (ji9)) == 1) = true := beq_iff_eq.mpr c12
           have c12b1 : ((rd t101 (ji9)) != 1) = false := bne_eq_false_iff_eq.mpr c12
           clear c12
           obtain ⟨t109, A13, H⟩ := obnd_ H
           (try dsimp only at H)
           have H' := Aside0.mk H
           clear H
           obtain ⟨Ao14, co14, eo14⟩ := Kd.R_slice HO_4.out
           subst eo14
           have p108 : 0 ≤ ((ji9) : Int) := of_decide_eq_true k68_
           have q108 : (ji9) < (t101.length : Int) := of_decide_eq_true k68_
           obtain ⟨ad108, e108, hx108_0⟩ := Kd.at_int (Kd.R_reads' HO_4.out).2.2 (ji9) p108 q108
           cases e108
           replace p108 := eq_true p108
           replace q108 := eq_true q108
           go_wp2_with (first | ((with_reducible refine gate_callee (f := 75) rfl ?_); refine goesL_ (some 42) rfl rfl Try.func75 (by kernel_rfl) rfl #[.int .i64 x7_2, .int .i64 (wrap64 (x8_2 + 1))] rfl k35_ ?_; (with_reducible refine (spec_l1Most.calls x7_2 (wrap64 (x8_2 + 1)) t109 _ A13.out).mono ?_); rintro e w' ⟨rfl, ⟨nd, rfl⟩⟩; refine ⟨_, rfl, ?_⟩))
           go_roundg k2
           case measure => have := HJ2.out; have := HK2.out; omega
           case rel => exact ⟨(t109), (wrap64 (x8_2 + 1)), (wrap64 (x9_2 + 1)), k69_, k69_, k69_, H', ⟨by have := HJ2.out; have := HK2.out; omega⟩, ⟨k65_⟩, ⟨k49_⟩⟩
          ·rw [if_neg c12] at H
           have c12b0 : ((rd t101 (ji9)) == 1) = false := beq_eq_false_iff_ne.mpr c12
           have c12b1 : ((rd t101 (ji9)) != 1) = true := bne_iff_ne.mpr c12
           obtain ⟨t110, A15, H⟩ := obnd_ H
           (try dsimp only at H)
           have H' := Aside0.mk H
           clear H
           obtain ⟨Ao16, co16, eo16⟩ := Kd.R_slice HO_4.out
           subst eo16
           have p108 : 0 ≤ ((ji9) : Int) := of_decide_eq_true k68_
           have q108 : (ji9) < (t101.length : Int) := of_decide_eq_true k68_
           obtain ⟨ad108, e108, hx108_0⟩ := Kd.at_int (Kd.R_reads' HO_4.out).2.2 (ji9) p108 q108
           cases e108
           replace p108 := eq_true p108
           replace q108 := eq_true q108
           go_wp2_with (first | ((with_reducible refine gate_callee (f := 75) rfl ?_); refine goesL_ (some 42) rfl rfl Try.func75 (by kernel_rfl) rfl #[.int .i64 x7_2, .int .i64 1] rfl k35_ ?_; (with_reducible refine (spec_l1Most.calls x7_2 1 t110 _ A15.out).mono ?_); rintro e w' ⟨rfl, ⟨nd, rfl⟩⟩; refine ⟨_, rfl, ?_⟩))
           go_roundg k2
           case measure => have := HJ2.out; have := HK2.out; omega
           case rel => exact ⟨(t110), (1), (wrap64 (x9_2 + 1)), k69_, k69_, k69_, H', ⟨by have := HJ2.out; have := HK2.out; omega⟩, ⟨k65_⟩, ⟨k49_⟩⟩
         ·rw [if_neg c11] at H
          exact absurd H (by simp)
        ·rw [if_neg c10] at H
         exact absurd H (by simp)
      ·rw [if_neg c7] at H
       have c7b0 : decide (x9_2 < (wrap64 (2 * (t101.length : Int)))) = false := decide_eq_false c7
       clear c7
       simp only [Option.some.injEq, Prod.mk.injEq] at H
       obtain ⟨rfl, rfl⟩ := H
       obtain ⟨Ao17, co17, eo17⟩ := Kd.R_slice HO_4.out
       subst eo17
       go_wp2
       go_ret2
       exact ⟨k46_, k49_⟩
end Go.Proofs.Ytdcijdeiaefjpaa.P
namespace Go.Proofs.Ytdcijdeiaefjpaa.P
open Go.RowKit Go.Proofs.YtdcijdeiaefjpaaW.PrintWords Go.Proofs.YtdcijdeiaefjpaaW.PrintLast Go.Proofs.YtdcijdeiaefjpaaW.PrintMore
attribute [local go_sem] max2_int min2_int max_two min_two max_three min_three max_four min_four
set_option linter.unusedVariables false
set_option linter.unusedSimpArgs false
def laws_tSame.l0 : Nat → List Int → List Int → Int → Int → Option (Bool)
 | 0, _, _, _, _ => none
 | k + 1, x0, x1, x12, x13 => if x13 < x12 then (if 0 ≤ x13 then (if x13 < (x0.length : Int) then (if x13 < (x1.length : Int) then (if (rd x0 x13) = (rd x1 x13) then (laws_tSame.l0 k x0 x1 x12 (wrap64 (x13 + 1))) else (some false)) else (none)) else (none)) else (none)) else (some true)
def laws_tSame.f (k : Nat) (l0 : List Int) (l1 : List Int) : Option (Bool) := if (l0.length : Int) = (l1.length : Int) then (laws_tSame.l0 k l0 l1 (l0.length : Int) 0) else (some false)
set_option maxHeartbeats 8000000 in
set_option maxRecDepth 100000 in
theorem laws_tSame.calls (k : Nat) (A0 : Option Addr) (c0 : Nat) (l0 : List Int) (A1 : Option Addr) (c1 : Nat) (l1 : List Int) (r : Bool) (w : World) (hr0 : Kd.C (Kd.int .i64) w A0 l0.length l0) (hc0 : l0.length ≤ c0) (hr1 : Kd.C (Kd.int .i64) w A1 l1.length l1) (hc1 : l1.length ≤ c1) (h : laws_tSame.f k l0 l1 = some r) :
  Calls Try.prog 30 #[.slice A0 l0.length c0, .slice A1 l1.length c1] w fun e w' => e = .returned (.bool r) ∧ Drawn0 w w' := by
 have HR0 := Aside0.mk hr0
 have HC0 := Aside0.mk hc0
 clear hr0 hc0
 have HR1 := Aside0.mk hr1
 have HC1 := Aside0.mk hc1
 clear hr1 hc1
 have H : (if (l0.length : Int) = (l1.length : Int) then (laws_tSame.l0 k l0 l1 (l0.length : Int) 0) else (some false)) = some r := h
 clear h
 by_cases c3 : (l0.length : Int) = (l1.length : Int)
 ·rw [if_pos c3] at H
  have c3b0 : ((l0.length : Int) == (l1.length : Int)) = true := beq_iff_eq.mpr c3
  have c3b1 : ((l0.length : Int) != (l1.length : Int)) = false := bne_eq_false_iff_eq.mpr c3
  have c3b2 : (l0.length == l1.length) = true := by first | simpa using c3 | (simp at c3 ⊢; omega)
  clear c3
  have H' := Aside0.mk H
  clear H
  go_enter Try.func30, Try.ntmps30
  go_wp2
  repeat (go_quiet (fail); try go_wp2)
  go_loopg [13] k (fun kq v13 w' => ∃ (x13_1 : Int), v13 = .int .i64 x13_1 ∧ Aside0 (laws_tSame.l0 kq l0 l1 (l0.length : Int) x13_1 = some r) ∧ Aside0 (kq ≤ k) ∧ Drawn0 w w')
  case atStart => exact ⟨(0), k69_, H', ⟨Nat.le_refl _⟩, k67_⟩
  case round =>
   clear H'
   (try clear c3); (try clear c3b0); (try clear c3b1); (try clear c3b2)
   obtain ⟨x13_1, rfl, HA, HK1, ⟨m1, rfl⟩⟩ := hrel
   cases gk with
   | zero => exact absurd HA.out (by simp [laws_tSame.l0])
   | succ k1 =>
    have H := HA.out
    clear HA
    simp only [laws_tSame.l0] at H
    by_cases c4 : x13_1 < (l0.length : Int)
    ·rw [if_pos c4] at H
     have c4b0 : decide (x13_1 < (l0.length : Int)) = true := decide_eq_true c4
     clear c4
     by_cases c5 : 0 ≤ x13_1
     ·rw [if_pos c5] at H
      have c5b0 : decide (0 ≤ x13_1) = true := decide_eq_true c5
      clear c5
      by_cases c6 : x13_1 < (l0.length : Int)
      ·rw [if_pos c6] at H
       have c6b0 : decide (x13_1 < (l0.length : Int)) = true := decide_eq_true c6
       clear c6
       by_cases c7 : x13_1 < (l1.length : Int)
       ·rw [if_pos c7] at H
        have c7b0 : decide (x13_1 < (l1.length : Int)) = true := decide_eq_true c7
        clear c7
        by_cases c8 : (rd l0 x13_1) = (rd l1 x13_1)
        ·rw [if_pos c8] at H
         have c8b0 : ((rd l0 x13_1) == (rd l1 x13_1)) = true := beq_iff_eq.mpr c8
         have c8b1 : ((rd l0 x13_1) != (rd l1 x13_1)) = false := bne_eq_false_iff_eq.mpr c8
         clear c8
         have H' := Aside0.mk H
         clear H
         have p101 : 0 ≤ (x13_1 : Int) := of_decide_eq_true k68_
         have q101 : x13_1 < (l0.length : Int) := of_decide_eq_true k68_
         obtain ⟨ad101, e101, hx101_0⟩ := Kd.at_int HR0.out x13_1 p101 q101
         cases e101
         replace p101 := eq_true p101
         replace q101 := eq_true q101
         have p102 : 0 ≤ (x13_1 : Int) := of_decide_eq_true k68_
         have q102 : x13_1 < (l1.length : Int) := of_decide_eq_true k68_
         obtain ⟨ad102, e102, hx102_0⟩ := Kd.at_int HR1.out x13_1 p102 q102
         cases e102
         replace p102 := eq_true p102
         replace q102 := eq_true q102
         go_wp2
         repeat (go_quiet (fail); try go_wp2)
         go_roundg k1
         case measure => have := HK1.out; omega
         case rel => exact ⟨(wrap64 (x13_1 + 1)), k69_, H', ⟨k76_⟩, k67_⟩
        ·rw [if_neg c8] at H
         have c8b0 : ((rd l0 x13_1) == (rd l1 x13_1)) = false := beq_eq_false_iff_ne.mpr c8
         have c8b1 : ((rd l0 x13_1) != (rd l1 x13_1)) = true := bne_iff_ne.mpr c8
         obtain rfl := Option.some.inj H
         have p101 : 0 ≤ (x13_1 : Int) := of_decide_eq_true k68_
         have q101 : x13_1 < (l0.length : Int) := of_decide_eq_true k68_
         obtain ⟨ad101, e101, hx101_0⟩ := Kd.at_int HR0.out x13_1 p101 q101
         cases e101
         replace p101 := eq_true p101
         replace q101 := eq_true q101
         have p102 : 0 ≤ (x13_1 : Int) := of_decide_eq_true k68_
         have q102 : x13_1 < (l1.length : Int) := of_decide_eq_true k68_
         obtain ⟨ad102, e102, hx102_0⟩ := Kd.at_int HR1.out x13_1 p102 q102
         cases e102
         replace p102 := eq_true p102
         replace q102 := eq_true q102
         go_wp2
         repeat (go_quiet (fail); try go_wp2)
         go_ret
         exact ⟨k69_, k67_⟩
       ·rw [if_neg c7] at H
        exact absurd H (by simp)
      ·rw [if_neg c6] at H
       exact absurd H (by simp)
     ·rw [if_neg c5] at H
      exact absurd H (by simp)
    ·rw [if_neg c4] at H
     have c4b0 : decide (x13_1 < (l0.length : Int)) = false := decide_eq_false c4
     clear c4
     obtain rfl := Option.some.inj H
     go_wp2
     repeat (go_quiet (fail); try go_wp2)
     go_ret
     exact ⟨k69_, k67_⟩
 ·rw [if_neg c3] at H
  have c3b0 : ((l0.length : Int) == (l1.length : Int)) = false := beq_eq_false_iff_ne.mpr c3
  have c3b1 : ((l0.length : Int) != (l1.length : Int)) = true := bne_iff_ne.mpr c3
  have c3b2 : (l0.length == l1.length) = false := by first | simpa using c3 | (simp at c3 ⊢; omega)
  obtain rfl := Option.some.inj H
  go_enter Try.func30, Try.ntmps30
  go_wp2
  repeat (go_quiet (fail); try go_wp2)
  go_ret
  exact ⟨k69_, k67_⟩
end Go.Proofs.Ytdcijdeiaefjpaa.P
namespace Go.Proofs.Ytdcijdeiaefjpaa.P
open Go.RowKit Go.Proofs.YtdcijdeiaefjpaaW.PrintWords Go.Proofs.YtdcijdeiaefjpaaW.PrintLast Go.Proofs.YtdcijdeiaefjpaaW.PrintMore
attribute [local go_sem] max2_int min2_int max_two min_two max_three min_three max_four min_four
set_option linter.unusedVariables false
set_option linter.unusedSimpArgs false
def impl_PeriodOfRules.f (k : Nat) (l0 : List (SRule)) : Option (Int × Bool) := (impl_periodOf.f k l0).bind fun bt101 => (some (bt101.1, bt101.2))
set_option maxHeartbeats 8000000 in
set_option maxRecDepth 100000 in
theorem impl_PeriodOfRules.calls (k : Nat) (A0 : Option Addr) (c0 : Nat) (l0 : List (SRule)) (r1 : Int) (r2 : Bool) (w : World) (hr0 : Kd.C kRule w A0 l0.length l0) (hc0 : l0.length ≤ c0) (h : impl_PeriodOfRules.f k l0 = some (r1, r2)) :
  Calls Try.prog 31 #[.slice A0 l0.length c0] w fun e w' => e = .returned (.tuple #[.int .i64 r1, .bool r2]) ∧ Below w.heap.size w w' := by
 have HR0 := Aside0.mk hr0
 have HC0 := Aside0.mk hc0
 clear hr0 hc0
 have HB := Aside0.mk (Below.refl w.heap.size w)
 have H : ((impl_periodOf.f k l0).bind fun bt101 => (some (bt101.1, bt101.2))) = some (r1, r2) := h
 clear h
 obtain ⟨⟨t101, t102⟩, A2, H⟩ := obnd_ H
 (try dsimp only at H)
 simp only [Option.some.injEq, Prod.mk.injEq] at H
 obtain ⟨rfl, rfl⟩ := H
 go_enter Try.func31, Try.ntmps31
 go_wp2_with (first | ((with_reducible refine gate_callee (f := 76) rfl ?_); refine goesL_ (some 5) rfl rfl Try.func76 (by kernel_rfl) rfl #[.slice A0 l0.length c0] rfl k35_ ?_; (with_reducible refine (impl_periodOf.calls k _ _ l0 t101 t102 _ ?side1 ?side2 A2.out).mono ?_); (case side1 => exact k31_); (case side2 => exact k77_); rintro e w3 ⟨rfl, hb⟩; refine ⟨_, rfl, ?_⟩; replace HB := HB.mw hb; (try clear hb)))
 go_ret2
 exact ⟨k46_, k49_⟩
end Go.Proofs.Ytdcijdeiaefjpaa.P
namespace Go.Proofs.Ytdcijdeiaefjpaa.P
open Go.RowKit Go.Proofs.YtdcijdeiaefjpaaW.PrintWords Go.Proofs.YtdcijdeiaefjpaaW.PrintLast Go.Proofs.YtdcijdeiaefjpaaW.PrintMore
attribute [local go_sem] max2_int min2_int max_two min_two max_three min_three max_four min_four
set_option linter.unusedVariables false
set_option linter.unusedSimpArgs false
def impl_LeftInPeriod.f (k : Nat) (l0 : List (SRule)) : Option (Int × Bool) := (impl_periodOf.f k l0).bind fun bt101 => (if bt101.2 = true then ((impl_leftBetween.f k l0 1 bt101.1).bind fun t103 => (some ((t103.length : Int), true))) else (some (0, false)))
set_option maxHeartbeats 8000000 in
set_option maxRecDepth 100000 in
theorem impl_LeftInPeriod.calls (k : Nat) (A0 : Option Addr) (c0 : Nat) (l0 : List (SRule)) (r1 : Int) (r2 : Bool) (w : World) (hr0 : Kd.C kRule w A0 l0.length l0) (hc0 : l0.length ≤ c0) (h : impl_LeftInPeriod.f k l0 = some (r1, r2)) :
  Calls Try.prog 32 #[.slice A0 l0.length c0] w fun e w' => e = .returned (.tuple #[.int .i64 r1, .bool r2]) ∧ Below w.heap.size w w' := by
 have HR0 := Aside0.mk hr0
 have HC0 := Aside0.mk hc0
 clear hr0 hc0
 have HB := Aside0.mk (Below.refl w.heap.size w)
 have H : ((impl_periodOf.f k l0).bind fun bt101 => (if bt101.2 = true then ((impl_leftBetween.f k l0 1 bt101.1).bind fun t103 => (some ((t103.length : Int), true))) else (some (0, false)))) = some (r1, r2) := h
 clear h
 obtain ⟨⟨t101, t102⟩, A2, H⟩ := obnd_ H
 (try dsimp only at H)
 by_cases c3 : t102 = true
 ·subst c3
  rw [if_pos rfl] at H
  obtain ⟨t103, A4, H⟩ := obnd_ H
  (try dsimp only at H)
  simp only [Option.some.injEq, Prod.mk.injEq] at H
  obtain ⟨rfl, rfl⟩ := H
  go_enter Try.func32, Try.ntmps32
  go_wp2_with (first | ((with_reducible refine gate_callee (f := 76) rfl ?_); refine goesL_ (some 8) rfl rfl Try.func76 (by kernel_rfl) rfl #[.slice A0 l0.length c0] rfl k35_ ?_; (with_reducible refine (impl_periodOf.calls k _ _ l0 t101 true _ ?side1 ?side2 A2.out).mono ?_); (case side1 => exact k31_); (case side2 => exact k77_); rintro e w5 ⟨rfl, hb⟩; refine ⟨_, rfl, ?_⟩; replace HB := HB.mw hb; (try clear hb)) | ((with_reducible refine gate_callee (f := 61) rfl ?_); refine goesL_ (some 15) rfl rfl Try.func61 (by kernel_rfl) rfl #[.slice A0 l0.length c0, .int .i64 1, .int .i64 t101] rfl k35_ ?_; (with_reducible refine (impl_leftBetween.calls k _ _ l0 1 t101 t103 _ ?side1 ?side2 A4.out).mono ?_); (case side1 => exact k18_); (case side2 => exact k77_); rintro e w6 ⟨v104, rfl, ho0, hb⟩; refine ⟨_, rfl, ?_⟩; have HO105 := Aside0.mk (Kd.R_lower ho0 (below_size k49_)); replace HB := HB.mw hb; (try clear hb ho0); obtain ⟨Ao7, co7, eo7⟩ := Kd.R_slice HO105.out; subst eo7))
  go_ret2
  exact ⟨k46_, k49_⟩
 ·replace c3 := Bool.eq_false_iff.mpr c3
  subst c3
  rw [if_neg (show ¬ (false = true) by decide)] at H
  simp only [Option.some.injEq, Prod.mk.injEq] at H
  obtain ⟨rfl, rfl⟩ := H
  go_enter Try.func32, Try.ntmps32
  go_wp2_with (first | ((with_reducible refine gate_callee (f := 76) rfl ?_); refine goesL_ (some 8) rfl rfl Try.func76 (by kernel_rfl) rfl #[.slice A0 l0.length c0] rfl k35_ ?_; (with_reducible refine (impl_periodOf.calls k _ _ l0 t101 false _ ?side1 ?side2 A2.out).mono ?_); (case side1 => exact k31_); (case side2 => exact k77_); rintro e w8 ⟨rfl, hb⟩; refine ⟨_, rfl, ?_⟩; replace HB := HB.mw hb; (try clear hb)))
  go_ret2
  exact ⟨k46_, k49_⟩
end Go.Proofs.Ytdcijdeiaefjpaa.P
namespace Go.Proofs.Ytdcijdeiaefjpaa.P
open Go.RowKit Go.Proofs.YtdcijdeiaefjpaaW.PrintWords Go.Proofs.YtdcijdeiaefjpaaW.PrintLast Go.Proofs.YtdcijdeiaefjpaaW.PrintMore
attribute [local go_sem] max2_int min2_int max_two min_two max_three min_three max_four min_four
set_option linter.unusedVariables false
set_option linter.unusedSimpArgs false
def laws_tSum.l0 : Nat → Int → List Int → Int → Int → Option (Int)
 | 0, _, _, _, _ => none
 | k + 1, x3, x6, x7, x8 => if x8 < x7 then (if 0 ≤ x8 then (if x8 < (x6.length : Int) then (laws_tSum.l0 k (wrap64 (x3 + (rd x6 x8))) x6 x7 (wrap64 (x8 + 1))) else (none)) else (none)) else (some x3)
def laws_tSum.f (k : Nat) (l0 : List Int) : Option (Int) := laws_tSum.l0 k 0 l0 (l0.length : Int) 0
set_option maxHeartbeats 8000000 in
set_option maxRecDepth 100000 in
theorem laws_tSum.calls (k : Nat) (A0 : Option Addr) (c0 : Nat) (l0 : List Int) (r : Int) (w : World) (hr0 : Kd.C (Kd.int .i64) w A0 l0.length l0) (hc0 : l0.length ≤ c0) (h : laws_tSum.f k l0 = some r) :
  Calls Try.prog 33 #[.slice A0 l0.length c0] w fun e w' => e = .returned (.int .i64 r) ∧ Drawn0 w w' := by
 have HR0 := Aside0.mk hr0
 have HC0 := Aside0.mk hc0
 clear hr0 hc0
 have H : (laws_tSum.l0 k 0 l0 (l0.length : Int) 0) = some r := h
 clear h
 have H' := Aside0.mk H
 clear H
 go_enter Try.func33, Try.ntmps33
 go_wp2
 go_loopg [3, 8] k (fun kq v3 v8 w' => ∃ (x3_1 : Int) (x8_1 : Int), v3 = .int .i64 x3_1 ∧ v8 = .int .i64 x8_1 ∧ Aside0 (laws_tSum.l0 kq x3_1 l0 (l0.length : Int) x8_1 = some r) ∧ Aside0 (kq ≤ k) ∧ Drawn0 w w')
 case atStart => exact ⟨(0), (0), k69_, k69_, H', ⟨Nat.le_refl _⟩, k67_⟩
 case round =>
  clear H'
  obtain ⟨x3_1, x8_1, rfl, rfl, HA, HK1, ⟨m1, rfl⟩⟩ := hrel
  cases gk with
  | zero => exact absurd HA.out (by simp [laws_tSum.l0])
  | succ k1 =>
   have H := HA.out
   clear HA
   simp only [laws_tSum.l0] at H
   by_cases c2 : x8_1 < (l0.length : Int)
   ·rw [if_pos c2] at H
    have c2b0 : decide (x8_1 < (l0.length : Int)) = true := decide_eq_true c2
    clear c2
    by_cases c3 : 0 ≤ x8_1
    ·rw [if_pos c3] at H
     have c3b0 : decide (0 ≤ x8_1) = true := decide_eq_true c3
     clear c3
     by_cases c4 : x8_1 < (l0.length : Int)
     ·rw [if_pos c4] at H
      have c4b0 : decide (x8_1 < (l0.length : Int)) = true := decide_eq_true c4
      clear c4
      have H' := Aside0.mk H
      clear H
      have p101 : 0 ≤ (x8_1 : Int) := of_decide_eq_true k68_
      have q101 : x8_1 < (l0.length : Int) := of_decide_eq_true k68_
      obtain ⟨ad101, e101, hx101_0⟩ := Kd.at_int HR0.out x8_1 p101 q101
      cases e101
      replace p101 := eq_true p101
      replace q101 := eq_true q101
      go_wp2
      go_roundg k1
      case measure => have := HK1.out; omega
      case rel => exact ⟨(wrap64 (x3_1 + (rd l0 x8_1))), (wrap64 (x8_1 + 1)), k69_, k69_, H', ⟨k76_⟩, k67_⟩
     ·rw [if_neg c4] at H
      exact absurd H (by simp)
    ·rw [if_neg c3] at H
     exact absurd H (by simp)
   ·rw [if_neg c2] at H
    have c2b0 : decide (x8_1 < (l0.length : Int)) = false := decide_eq_false c2
    clear c2
    obtain rfl := Option.some.inj H
    go_wp2
    go_ret
    exact ⟨k69_, k67_⟩
end Go.Proofs.Ytdcijdeiaefjpaa.P
namespace Go.Proofs.Ytdcijdeiaefjpaa.P
open Go.RowKit Go.Proofs.YtdcijdeiaefjpaaW.PrintWords Go.Proofs.YtdcijdeiaefjpaaW.PrintLast Go.Proofs.YtdcijdeiaefjpaaW.PrintMore
attribute [local go_sem] max2_int min2_int max_two min_two max_three min_three max_four min_four
set_option linter.unusedVariables false
set_option linter.unusedSimpArgs false
mutual
def impl_CountGaps.j0 : Nat → Int → List Int → Bool → Option (Int × Bool)
 | 0, _, _, _ => none
 | k + 1, x1, x7, x23 => if x23 = true then (some (0, false)) else (impl_CountGaps.l0 k x1 0 x7 (x7.length : Int) 0)
def impl_CountGaps.l0 : Nat → Int → Int → List Int → Int → Int → Option (Int × Bool)
 | 0, _, _, _, _, _ => none
 | k + 1, x1, x9, x24, x25, x26 => if x26 < x25 then (if 0 ≤ x26 then (if x26 < (x24.length : Int) then (if (rd x24 x26) = x1 then (impl_CountGaps.l0 k x1 (wrap64 (x9 + 1)) x24 x25 (wrap64 (x26 + 1))) else (impl_CountGaps.l0 k x1 x9 x24 x25 (wrap64 (x26 + 1)))) else (none)) else (none)) else (some (x9, true))
end
def impl_CountGaps.f (k : Nat) (l0 : List (SRule)) (a1 : Int) : Option (Int × Bool) := (impl_periodGaps.f k l0).bind fun bt101 => (if bt101.2.2 = true then (impl_CountGaps.j0 k a1 bt101.2.1 (decide (a1 < 1))) else (impl_CountGaps.j0 k a1 bt101.2.1 true))
set_option maxHeartbeats 8000000 in
set_option maxRecDepth 100000 in
theorem impl_CountGaps.calls (k : Nat) (A0 : Option Addr) (c0 : Nat) (l0 : List (SRule)) (a1 : Int) (r1 : Int) (r2 : Bool) (w : World) (hr0 : Kd.C kRule w A0 l0.length l0) (hc0 : l0.length ≤ c0) (h : impl_CountGaps.f k l0 a1 = some (r1, r2)) :
  Calls Try.prog 34 #[.slice A0 l0.length c0, .int .i64 a1] w fun e w' => e = .returned (.tuple #[.int .i64 r1, .bool r2]) ∧ Below w.heap.size w w' := by
 have HR0 := Aside0.mk hr0
 have HC0 := Aside0.mk hc0
 clear hr0 hc0
 have HB := Aside0.mk (Below.refl w.heap.size w)
 have H : ((impl_periodGaps.f k l0).bind fun bt101 => (if bt101.2.2 = true then (impl_CountGaps.j0 k a1 bt101.2.1 (decide (a1 < 1))) else (impl_CountGaps.j0 k a1 bt101.2.1 true))) = some (r1, r2) := h
 clear h
 obtain ⟨⟨t101, t102, t103⟩, A3, H⟩ := obnd_ H
 (try dsimp only at H)
 have HC4 := Aside0.mk H
 clear H
 go_enter Try.func34, Try.ntmps34
 go_upto_region 2 with (first | ((with_reducible refine gate_callee (f := 62) rfl ?_); refine goesL_ (some 14) rfl rfl Try.func62 (by kernel_rfl) rfl #[.slice A0 l0.length c0] rfl k35_ ?_; (with_reducible refine (impl_periodGaps.calls k _ _ l0 t101 t102 t103 _ ?side1 ?side2 A3.out).mono ?_); (case side1 => exact k31_); (case side2 => exact k77_); rintro e w5 ⟨v104, v106, rfl, ho0, ho1, hb⟩; refine ⟨_, rfl, ?_⟩; have HO105 := Aside0.mk (Kd.R_lower ho0 (below_size k49_)); have HO107 := Aside0.mk (Kd.R_lower ho1 (below_size k49_)); replace HB := HB.mw hb; (try clear hb ho0 ho1)))
 (try simp only [Act.put, List.setIfInBounds_toArray, List.set_cons_zero, List.set_cons_succ])
 go_cut [23] (fun v23 wc => ∃ (kq : Nat) (x23_3 : Bool), v23 = .bool x23_3 ∧ Aside0 (impl_CountGaps.j0 kq a1 t102 x23_3 = some (r1, r2)) ∧ Aside0 (kq ≤ k) ∧ Aside0 (Kd.R (Kd.int .i64) 3 wc w.heap.size (fun _ => True) v106 t102) ∧ Aside0 (Below w.heap.size w wc))
 case first =>
  have H := HC4.out
  clear HC4
  by_cases c6 : t103 = true
  ·subst c6
   rw [if_pos rfl] at H
   have H' := Aside0.mk H
   clear H
   go_wp2
   go_meet
   case rel => exact ⟨_, (decide (a1 < 1)), k69_, H', ⟨k72_⟩, ⟨k36_⟩, ⟨k49_⟩⟩
  ·replace c6 := Bool.eq_false_iff.mpr c6
   subst c6
   rw [if_neg (show ¬ (false = true) by decide)] at H
   have H' := Aside0.mk H
   clear H
   go_wp2
   go_meet
   case rel => exact ⟨_, (true), k69_, H', ⟨k72_⟩, ⟨k36_⟩, ⟨k49_⟩⟩
 case rest =>
  clear HC4
  obtain ⟨kq, x23_3, rfl, HA, HJ3, HO_7, HB⟩ := hcut
  cases kq with
  | zero => exact absurd HA.out (by simp [impl_CountGaps.j0])
  | succ kj3 =>
   have H := HA.out
   clear HA
   simp only [impl_CountGaps.j0] at H
   by_cases c7 : x23_3 = true
   ·subst c7
    rw [if_pos rfl] at H
    simp only [Option.some.injEq, Prod.mk.injEq] at H
    obtain ⟨rfl, rfl⟩ := H
    go_wp2
    go_ret2
    exact ⟨k46_, k49_⟩
   ·replace c7 := Bool.eq_false_iff.mpr c7
    subst c7
    rw [if_neg (show ¬ (false = true) by decide)] at H
    have H' := Aside0.mk H
    clear H
    obtain ⟨Ao8, co8, eo8⟩ := Kd.R_slice HO_7.out
    subst eo8
    go_wp2
    go_loopg [9, 26] kj3 (fun kq v9 v26 w' => ∃ (x9_2 : Int) (x26_2 : Int), v9 = .int .i64 x9_2 ∧ v26 = .int .i64 x26_2 ∧ Aside0 (impl_CountGaps.l0 kq a1 x9_2 t102 (t102.length : Int) x26_2 = some (r1, r2)) ∧ Aside0 (kq ≤ kj3) ∧ Aside0 (Kd.R (Kd.int .i64) 3 w' w.heap.size (fun _ => True) (.slice Ao8 t102.length co8) t102) ∧ Aside0 (Below w.heap.size w w'))
    case atStart => exact ⟨(0), (0), k69_, k69_, H', ⟨Nat.le_refl _⟩, ⟨by apply_rules only [HO_7.out, Kd.R_alloc, Kd.R_drewN, Kd.R_drew]⟩, ⟨k49_⟩⟩
    case round =>
     clear H'
     (try clear c7)
     obtain ⟨x9_2, x26_2, rfl, rfl, HA, HK2, HO_24, HB⟩ := hrel
     cases gk with
     | zero => exact absurd HA.out (by simp [impl_CountGaps.l0])
     | succ k2 =>
      have H := HA.out
      clear HA
      simp only [impl_CountGaps.l0] at H
      by_cases c9 : x26_2 < (t102.length : Int)
      ·rw [if_pos c9] at H
       have c9b0 : decide (x26_2 < (t102.length : Int)) = true := decide_eq_true c9
       clear c9
       by_cases c10 : 0 ≤ x26_2
       ·rw [if_pos c10] at H
        have c10b0 : decide (0 ≤ x26_2) = true := decide_eq_true c10
        clear c10
        by_cases c11 : x26_2 < (t102.length : Int)
        ·rw [if_pos c11] at H
         have c11b0 : decide (x26_2 < (t102.length : Int)) = true := decide_eq_true c11
         clear c11
         by_cases c12 : (rd t102 x26_2) = a1
         ·rw [if_pos c12] at H
          have c12b0 : ((rd t102 x26_2) == a1) = true := beq_iff_eq.mpr c12
          have c12b1 : ((rd t102 x26_2) != a1) = false := bne_eq_false_iff_eq.mpr c12
          clear c12
          have H' := Aside0.mk H
          clear H
          have p108 : 0 ≤ (x26_2 : Int) := of_decide_eq_true k68_
          have q108 : x26_2 < (t102.length : Int) := of_decide_eq_true k68_
          obtain ⟨ad108, e108, hx108_0⟩ := Kd.at_int (Kd.R_reads' HO_24.out).2.2 x26_2 p108 q108
          cases e108
          replace p108 := eq_true p108
          replace q108 := eq_true q108
          go_wp2
          go_roundg k2
          case measure => have := HJ3.out; have := HK2.out; omega
          case rel => exact ⟨(wrap64 (x9_2 + 1)), (wrap64 (x26_2 + 1)), k69_, k69_, H', ⟨k71_⟩, ⟨by apply_rules only [HO_24.out, Kd.R_alloc, Kd.R_drewN, Kd.R_drew]⟩, ⟨k49_⟩⟩
         ·rw [if_neg c12] at H
          have c12b0 : ((rd t102 x26_2) == a1) = false := beq_eq_false_iff_ne.mpr c12
          have c12b1 : ((rd t102 x26_2) != a1) = true := bne_iff_ne.mpr c12
          have H' := Aside0.mk H
          clear H
          have p108 : 0 ≤ (x26_2 : Int) := of_decide_eq_true k68_
          have q108 : x26_2 < (t102.length : Int) := of_decide_eq_true k68_
          obtain ⟨ad108, e108, hx108_0⟩ := Kd.at_int (Kd.R_reads' HO_24.out).2.2 x26_2 p108 q108
          cases e108
          replace p108 := eq_true p108
          replace q108 := eq_true q108
          go_wp2
          go_roundg k2
          case measure => have := HJ3.out; have := HK2.out; omega
          case rel => exact ⟨(x9_2), (wrap64 (x26_2 + 1)), k69_, k69_, H', ⟨k71_⟩, ⟨by apply_rules only [HO_24.out, Kd.R_alloc, Kd.R_drewN, Kd.R_drew]⟩, ⟨k49_⟩⟩
        ·rw [if_neg c11] at H
         exact absurd H (by simp)
       ·rw [if_neg c10] at H
        exact absurd H (by simp)
      ·rw [if_neg c9] at H
       have c9b0 : decide (x26_2 < (t102.length : Int)) = false := decide_eq_false c9
       clear c9
       simp only [Option.some.injEq, Prod.mk.injEq] at H
       obtain ⟨rfl, rfl⟩ := H
       go_wp2
       go_ret2
       exact ⟨k46_, k49_⟩
end Go.Proofs.Ytdcijdeiaefjpaa.P
namespace Go.Proofs.Ytdcijdeiaefjpaa.P
open Go.RowKit Go.Proofs.YtdcijdeiaefjpaaW.PrintWords Go.Proofs.YtdcijdeiaefjpaaW.PrintLast Go.Proofs.YtdcijdeiaefjpaaW.PrintMore
attribute [local go_sem] max2_int min2_int max_two min_two max_three min_three max_four min_four
set_option linter.unusedVariables false
set_option linter.unusedSimpArgs false
def laws_tHas.l0 : Nat → Int → List Int → Int → Int → Option (Bool)
 | 0, _, _, _, _ => none
 | k + 1, x1, x7, x8, x9 => if x9 < x8 then (if 0 ≤ x9 then (if x9 < (x7.length : Int) then (if (rd x7 x9) = x1 then (some true) else (laws_tHas.l0 k x1 x7 x8 (wrap64 (x9 + 1)))) else (none)) else (none)) else (some false)
def laws_tHas.f (k : Nat) (l0 : List Int) (a1 : Int) : Option (Bool) := laws_tHas.l0 k a1 l0 (l0.length : Int) 0
set_option maxHeartbeats 8000000 in
set_option maxRecDepth 100000 in
theorem laws_tHas.calls (k : Nat) (A0 : Option Addr) (c0 : Nat) (l0 : List Int) (a1 : Int) (r : Bool) (w : World) (hr0 : Kd.C (Kd.int .i64) w A0 l0.length l0) (hc0 : l0.length ≤ c0) (h : laws_tHas.f k l0 a1 = some r) :
  Calls Try.prog 35 #[.slice A0 l0.length c0, .int .i64 a1] w fun e w' => e = .returned (.bool r) ∧ Drawn0 w w' := by
 have HR0 := Aside0.mk hr0
 have HC0 := Aside0.mk hc0
 clear hr0 hc0
 have H : (laws_tHas.l0 k a1 l0 (l0.length : Int) 0) = some r := h
 clear h
 have H' := Aside0.mk H
 clear H
 go_enter Try.func35, Try.ntmps35
 go_wp2
 go_loopg [9] k (fun kq v9 w' => ∃ (x9_1 : Int), v9 = .int .i64 x9_1 ∧ Aside0 (laws_tHas.l0 kq a1 l0 (l0.length : Int) x9_1 = some r) ∧ Aside0 (kq ≤ k) ∧ Drawn0 w w')
 case atStart => exact ⟨(0), k69_, H', ⟨Nat.le_refl _⟩, k67_⟩
 case round =>
  clear H'
  obtain ⟨x9_1, rfl, HA, HK1, ⟨m1, rfl⟩⟩ := hrel
  cases gk with
  | zero => exact absurd HA.out (by simp [laws_tHas.l0])
  | succ k1 =>
   have H := HA.out
   clear HA
   simp only [laws_tHas.l0] at H
   by_cases c3 : x9_1 < (l0.length : Int)
   ·rw [if_pos c3] at H
    have c3b0 : decide (x9_1 < (l0.length : Int)) = true := decide_eq_true c3
    clear c3
    by_cases c4 : 0 ≤ x9_1
    ·rw [if_pos c4] at H
     have c4b0 : decide (0 ≤ x9_1) = true := decide_eq_true c4
     clear c4
     by_cases c5 : x9_1 < (l0.length : Int)
     ·rw [if_pos c5] at H
      have c5b0 : decide (x9_1 < (l0.length : Int)) = true := decide_eq_true c5
      clear c5
      by_cases c6 : (rd l0 x9_1) = a1
      ·rw [if_pos c6] at H
       have c6b0 : ((rd l0 x9_1) == a1) = true := beq_iff_eq.mpr c6
       have c6b1 : ((rd l0 x9_1) != a1) = false := bne_eq_false_iff_eq.mpr c6
       clear c6
       obtain rfl := Option.some.inj H
       have p101 : 0 ≤ (x9_1 : Int) := of_decide_eq_true k68_
       have q101 : x9_1 < (l0.length : Int) := of_decide_eq_true k68_
       obtain ⟨ad101, e101, hx101_0⟩ := Kd.at_int HR0.out x9_1 p101 q101
       cases e101
       replace p101 := eq_true p101
       replace q101 := eq_true q101
       go_wp2
       go_ret
       exact ⟨k69_, k67_⟩
      ·rw [if_neg c6] at H
       have c6b0 : ((rd l0 x9_1) == a1) = false := beq_eq_false_iff_ne.mpr c6
       have c6b1 : ((rd l0 x9_1) != a1) = true := bne_iff_ne.mpr c6
       have H' := Aside0.mk H
       clear H
       have p101 : 0 ≤ (x9_1 : Int) := of_decide_eq_true k68_
       have q101 : x9_1 < (l0.length : Int) := of_decide_eq_true k68_
       obtain ⟨ad101, e101, hx101_0⟩ := Kd.at_int HR0.out x9_1 p101 q101
       cases e101
       replace p101 := eq_true p101
       replace q101 := eq_true q101
       go_wp2
       go_roundg k1
       case measure => have := HK1.out; omega
       case rel => exact ⟨(wrap64 (x9_1 + 1)), k69_, H', ⟨k76_⟩, k67_⟩
     ·rw [if_neg c5] at H
      exact absurd H (by simp)
    ·rw [if_neg c4] at H
     exact absurd H (by simp)
   ·rw [if_neg c3] at H
    have c3b0 : decide (x9_1 < (l0.length : Int)) = false := decide_eq_false c3
    clear c3
    obtain rfl := Option.some.inj H
    go_wp2
    go_ret
    exact ⟨k69_, k67_⟩
end Go.Proofs.Ytdcijdeiaefjpaa.P
namespace Go.Proofs.Ytdcijdeiaefjpaa.P
open Go.RowKit Go.Proofs.YtdcijdeiaefjpaaW.PrintWords Go.Proofs.YtdcijdeiaefjpaaW.PrintLast Go.Proofs.YtdcijdeiaefjpaaW.PrintMore
attribute [local go_sem] max2_int min2_int max_two min_two max_three min_three max_four min_four
set_option linter.unusedVariables false
set_option linter.unusedSimpArgs false
mutual
def impl_windowsOf.j0 : Nat → List (SRule) → Int → Bool → Option (List Int × Bool)
 | 0, _, _, _ => none
 | k + 1, x0, x1, x29 => if x29 = true then (some (([] : List Int), false)) else ((impl_periodOf.f k x0).bind fun bt108 => ((impl_leftBetween.f k x0 0 (wrap64 (x1 - 1))).bind fun t110 => (impl_windowsOf.l0 k x0 x1 (t110.length : Int) (([] : List Int)) bt108.1 0)))
def impl_windowsOf.l0 : Nat → List (SRule) → Int → Int → List Int → Int → Int → Option (List Int × Bool)
 | 0, _, _, _, _, _, _ => none
 | k + 1, x0, x1, x11, x12, x41, x42 => if x42 < x41 then (if x12.length < 17592186044416 then ((some (x12 ++ [x11] : List Int)).bind fun y116 => ((impl_isLeft.f x0 x42).bind fun t119 => (if t119 = true then ((impl_isLeft.f x0 (wrap64 (x42 + x1))).bind fun t120 => (if t120 = true then (impl_windowsOf.l0 k x0 x1 (wrap64 ((wrap64 (x11 - 1)) + 1)) y116 x41 (wrap64 (x42 + 1))) else (impl_windowsOf.l0 k x0 x1 (wrap64 (x11 - 1)) y116 x41 (wrap64 (x42 + 1))))) else ((impl_isLeft.f x0 (wrap64 (x42 + x1))).bind fun t121 => (if t121 = true then (impl_windowsOf.l0 k x0 x1 (wrap64 (x11 + 1)) y116 x41 (wrap64 (x42 + 1))) else (impl_windowsOf.l0 k x0 x1 x11 y116 x41 (wrap64 (x42 + 1)))))))) else (none)) else (some (x12, true))
end
def impl_windowsOf.f (k : Nat) (l0 : List (SRule)) (a1 : Int) : Option (List Int × Bool) := (impl_periodGaps.f k l0).bind fun bt101 => (if bt101.2.2 = true then (if a1 < 0 then (impl_windowsOf.j0 k l0 a1 true) else (impl_windowsOf.j0 k l0 a1 (decide (a1 > 200)))) else (impl_windowsOf.j0 k l0 a1 true))
set_option maxHeartbeats 8000000 in
set_option maxRecDepth 100000 in
theorem impl_windowsOf.calls (k : Nat) (A0 : Option Addr) (c0 : Nat) (l0 : List (SRule)) (a1 : Int) (r1 : List Int) (r2 : Bool) (w : World) (hr0 : Kd.C kRule w A0 l0.length l0) (hc0 : l0.length ≤ c0) (h : impl_windowsOf.f k l0 a1 = some (r1, r2)) :
  Calls Try.prog 77 #[.slice A0 l0.length c0, .int .i64 a1] w fun e w' => ∃ v0_ : Value, e = .returned (.tuple #[v0_, .bool r2]) ∧ Kd.R (Kd.int .i64) 3 w' w.heap.size (fun _ => True) v0_ r1 ∧ Below w.heap.size w w' := by
 have HR0 := Aside0.mk hr0
 have HC0 := Aside0.mk hc0
 clear hr0 hc0
 have HB := Aside0.mk (Below.refl w.heap.size w)
 have H : ((impl_periodGaps.f k l0).bind fun bt101 => (if bt101.2.2 = true then (if a1 < 0 then (impl_windowsOf.j0 k l0 a1 true) else (impl_windowsOf.j0 k l0 a1 (decide (a1 > 200)))) else (impl_windowsOf.j0 k l0 a1 true))) = some (r1, r2) := h
 clear h
 obtain ⟨⟨t101, t102, t103⟩, A3, H⟩ := obnd_ H
 (try dsimp only at H)
 have HC4 := Aside0.mk H
 clear H
 go_enter Try.func77, Try.ntmps77
 go_upto_region 2 with (first | ((with_reducible refine gate_callee (f := 62) rfl ?_); refine goesL_ (some 16) rfl rfl Try.func62 (by kernel_rfl) rfl #[.slice A0 l0.length c0] rfl k35_ ?_; (with_reducible refine (impl_periodGaps.calls k _ _ l0 t101 t102 t103 _ ?side1 ?side2 A3.out).mono ?_); (case side1 => exact k31_); (case side2 => exact k77_); rintro e w5 ⟨v104, v106, rfl, ho0, ho1, hb⟩; refine ⟨_, rfl, ?_⟩; have HO105 := Aside0.mk (Kd.R_lower ho0 (below_size k49_)); have HO107 := Aside0.mk (Kd.R_lower ho1 (below_size k49_)); replace HB := HB.mw hb; (try clear hb ho0 ho1)))
 (try simp only [Act.put, List.setIfInBounds_toArray, List.set_cons_zero, List.set_cons_succ])
 go_cut [29] (fun v29 wc => ∃ (kq : Nat) (x29_3 : Bool), v29 = .bool x29_3 ∧ Aside0 (impl_windowsOf.j0 kq l0 a1 x29_3 = some (r1, r2)) ∧ Aside0 (kq ≤ k) ∧ Aside0 (Below w.heap.size w wc))
 case first =>
  have H := HC4.out
  clear HC4
  by_cases c6 : t103 = true
  ·subst c6
   rw [if_pos rfl] at H
   by_cases c7 : a1 < 0
   ·rw [if_pos c7] at H
    have c7b0 : decide (a1 < 0) = true := decide_eq_true c7
    clear c7
    (first | rw [c7b0] | rw [c7b1] | (simp only [i64_w, i32_w]; rw [c7b0]) | skip)
    have H' := Aside0.mk H
    clear H
    go_wp2
    go_meet
    case rel => exact ⟨_, (true), k69_, H', ⟨k72_⟩, ⟨k49_⟩⟩
   ·rw [if_neg c7] at H
    have c7b0 : decide (a1 < 0) = false := decide_eq_false c7
    clear c7
    (first | rw [c7b0] | rw [c7b1] | (simp only [i64_w, i32_w]; rw [c7b0]) | skip)
    have H' := Aside0.mk H
    clear H
    go_wp2
    go_meet
    case rel => exact ⟨_, (decide (a1 > 200)), k69_, H', ⟨k72_⟩, ⟨k49_⟩⟩
  ·replace c6 := Bool.eq_false_iff.mpr c6
   subst c6
   rw [if_neg (show ¬ (false = true) by decide)] at H
   have H' := Aside0.mk H
   clear H
   go_wp2
   go_meet
   case rel => exact ⟨_, (true), k69_, H', ⟨k72_⟩, ⟨k49_⟩⟩
 case rest =>
  clear HC4
  obtain ⟨kq, x29_3, rfl, HA, HJ3, HB⟩ := hcut
  cases kq with
  | zero => exact absurd HA.out (by simp [impl_windowsOf.j0])
  | succ kj3 =>
   have H := HA.out
   clear HA
   simp only [impl_windowsOf.j0] at H
   by_cases c8 : x29_3 = true
   ·subst c8
    rw [if_pos rfl] at H
    simp only [Option.some.injEq, Prod.mk.injEq] at H
    obtain ⟨rfl, rfl⟩ := H
    go_wp2
    go_ret2
    exact ⟨_, k46_, k34_, k49_⟩
   ·replace c8 := Bool.eq_false_iff.mpr c8
    subst c8
    rw [if_neg (show ¬ (false = true) by decide)] at H
    obtain ⟨⟨t108, t109⟩, A9, H⟩ := obnd_ H
    (try dsimp only at H)
    obtain ⟨t110, A10, H⟩ := obnd_ H
    (try dsimp only at H)
    obtain ⟨y113, hy_⟩ : ∃ y_ : List Int, y_ = (([] : List Int)) := ⟨_, rfl⟩
    replace H : (impl_windowsOf.l0 kj3 l0 a1 (t110.length : Int) y113 t108 0) = some (r1, r2) := k1_
    have Ny113 := Aside0.mk hy_
    clear hy_
    have H' := Aside0.mk H
    clear H
    go_wp2_with (first | ((with_reducible refine gate_callee (f := 76) rfl ?_); refine goesL_ (some 32) rfl rfl Try.func76 (by kernel_rfl) rfl #[.slice A0 l0.length c0] rfl k35_ ?_; (with_reducible refine (impl_periodOf.calls kj3 _ _ l0 t108 t109 _ ?side1 ?side2 A9.out).mono ?_); (case side1 => exact k18_); (case side2 => exact k77_); rintro e w11 ⟨rfl, hb⟩; refine ⟨_, rfl, ?_⟩; replace HB := HB.mw hb; (try clear hb)) | ((with_reducible refine gate_callee (f := 61) rfl ?_); refine goesL_ (some 38) rfl rfl Try.func61 (by kernel_rfl) rfl #[.slice A0 l0.length c0, .int .i64 0, .int .i64 (wrap64 (a1 - 1))] rfl k35_ ?_; (with_reducible refine (impl_leftBetween.calls kj3 _ _ l0 0 (wrap64 (a1 - 1)) t110 _ ?side1 ?side2 A10.out).mono ?_); (case side1 => exact k18_); (case side2 => exact k77_); rintro e w12 ⟨v111, rfl, ho0, hb⟩; refine ⟨_, rfl, ?_⟩; have HO112 := Aside0.mk (Kd.R_lower ho0 (below_size k49_)); replace HB := HB.mw hb; (try clear hb ho0); obtain ⟨Ao13, co13, eo13⟩ := Kd.R_slice HO112.out; subst eo13) | ((with_reducible refine gate_dst (N := 40) rfl ?_); refine Kd.R_lit (Kd.int .i64) _ 3 ?hg (N := 40) ?hd (xs := ([] : List Int)) (inner := []) (ok := fun _ => True) (okp := fun _ => True) ?hr ?hp (fun _ hk => hk) trivial (Below.refl _ _) (Nat.le_refl _) (by simp) ?_; (case hd => rfl); (case hg => rfl); (case hr => exact k70_); (case hp => exact (Reps.none _ _)); intro v114 w14 ho15 hb hg_ hnew_; clear hg_ hnew_; (first | rw [← Ny113.out] at ho15 | (simp only [Int.reduceToNat] at ho15; rw [← Ny113.out] at ho15)); have HO115 := Aside0.mk (Kd.R_lower (Kd.R_new' ho15 (Kd.R_lt k55_)) (below_size k49_)); replace HO112 := Aside0.mk (Kd.R_elder' k55_ (Kd.R_base ho15) hb); replace HB := HB.mw hb; clear hb ho15))
    go_loopg [11, 12, 42] kj3 (fun kq v11 v12 v42 w' => ∃ (x11_2 : Int) (x12_2 : List Int) (x42_2 : Int), v11 = .int .i64 x11_2 ∧ v42 = .int .i64 x42_2 ∧ Aside0 (impl_windowsOf.l0 kq l0 a1 x11_2 x12_2 t108 x42_2 = some (r1, r2)) ∧ Aside0 (kq ≤ kj3) ∧ Aside0 (Kd.R (Kd.int .i64) 3 w' w.heap.size (fun _ => True) v12 x12_2) ∧ Aside0 (Below w.heap.size w w'))
    case atStart => exact ⟨((t110.length : Int)), (y113), (0), k69_, k69_, H', ⟨Nat.le_refl _⟩, ⟨by (with_reducible repeat (first | apply Kd.R_alloc | apply Kd.R_drewN | apply Kd.R_drew)); exact Kd.R_mono HO115.out (fun _ hk => trivial)⟩, ⟨k49_⟩⟩
    case round =>
     clear H'
     (try clear c8)
     obtain ⟨x11_2, x12_2, x42_2, rfl, rfl, HA, HK2, HO_12, HB⟩ := hrel
     cases gk with
     | zero => exact absurd HA.out (by simp [impl_windowsOf.l0])
     | succ k2 =>
      have H := HA.out
      clear HA
      simp only [impl_windowsOf.l0] at H
      by_cases c16 : x42_2 < t108
      ·rw [if_pos c16] at H
       have c16b0 : decide (x42_2 < t108) = true := decide_eq_true c16
       clear c16
       by_cases c17 : x12_2.length < 17592186044416
       ·rw [if_pos c17] at H
        have LMc17 := Aside0.mk c17
        clear c17
        obtain ⟨y116, hy_⟩ : ∃ y_ : List Int, y_ = (x12_2 ++ [x11_2]) := ⟨_, rfl⟩
        replace H : ((impl_isLeft.f l0 x42_2).bind fun t119 => (if t119 = true then ((impl_isLeft.f l0 (wrap64 (x42_2 + a1))).bind fun t120 => (if t120 = true then (impl_windowsOf.l0 k2 l0 a1 (wrap64 ((wrap64 (x11_2 - 1)) + 1)) y116 t108 (wrap64 (x42_2 + 1))) else (impl_windowsOf.l0 k2 l0 a1 (wrap64 (x11_2 - 1)) y116 t108 (wrap64 (x42_2 + 1))))) else ((impl_isLeft.f l0 (wrap64 (x42_2 + a1))).bind fun t121 => (if t121 = true then (impl_windowsOf.l0 k2 l0 a1 (wrap64 (x11_2 + 1)) y116 t108 (wrap64 (x42_2 + 1))) else (impl_windowsOf.l0 k2 l0 a1 x11_2 y116 t108 (wrap64 (x42_2 + 1))))))) = some (r1, r2) := k1_
        have Ny116 := Aside0.mk hy_
        clear hy_
        obtain ⟨t119, A18, H⟩ := obnd_ H
        (try dsimp only at H)
        by_cases c19 : t119 = true
        ·subst c19
         rw [if_pos rfl] at H
         obtain ⟨t120, A20, H⟩ := obnd_ H
         (try dsimp only at H)
         by_cases c21 : t120 = true
         ·subst c21
          rw [if_pos rfl] at H
          have H' := Aside0.mk H
          clear H
          go_wp2_with (first | ((with_reducible refine gate_builtin (b := .append) (xs := #[.tmp 45, .tmp 47]) rfl ?_); at_builtin; refine Kd.R_append (Kd.int .i64) (w0 := w) w.heap.size rfl (.tmp 45) (.tmp 47) 24 3 (.int .i64 0) 8 rfl Try.underlying24 info3 rfl (by decide) (by omega) u12 x12_2 x11_2 [.int .i64 x11_2] (fun _ => True) (fun _ => False) rfl rfl ?aP (fun _ hk => hk.elim) ?aF ?aO ?aB ?aS ?aL ?_; (case aP => exact rfl); (case aB => exact k49_); (case aF => exact (fun _ _ => trivial)); (case aO => exact (by apply_rules only [HO_12.out, Kd.R_alloc, Kd.R_drewN, Kd.R_drew])); (case aS => exact (below_size k49_)); (case aL => have := LMc17.out; omega); intro v117 w22 ho hb hg hat; rw [← Ny116.out] at ho; replace HB := Aside0.mk (hb); have HO118 := Aside0.mk (ho); clear HO_12; clear ho hb hg hat) | ((with_reducible refine gate_callee (f := 79) rfl ?_); refine goesL_ (some 51) rfl rfl Try.func79 (by kernel_rfl) rfl #[.slice A0 l0.length c0, .int .i64 x42_2] rfl k35_ ?_; (with_reducible refine (impl_isLeft.calls _ _ l0 x42_2 true _ ?side1 ?side2 A18.out).mono ?_); (case side1 => exact k18_); (case side2 => exact k77_); rintro e w23 ⟨rfl, hb⟩; refine ⟨_, rfl, ?_⟩; replace HO118 := HO118.mw hb; replace HB := HB.mw hb; (try clear hb)) | ((with_reducible refine gate_callee (f := 79) rfl ?_); refine goesL_ (some 58) rfl rfl Try.func79 (by kernel_rfl) rfl #[.slice A0 l0.length c0, .int .i64 (wrap64 (x42_2 + a1))] rfl k35_ ?_; (with_reducible refine (impl_isLeft.calls _ _ l0 (wrap64 (x42_2 + a1)) true _ ?side1 ?side2 A20.out).mono ?_); (case side1 => exact k18_); (case side2 => exact k77_); rintro e w24 ⟨rfl, hb⟩; refine ⟨_, rfl, ?_⟩; replace HO118 := HO118.mw hb; replace HB := HB.mw hb; (try clear hb)))
          go_roundg k2
          case measure => have := HJ3.out; have := HK2.out; omega
          case rel => exact ⟨(wrap64 ((wrap64 (x11_2 - 1)) + 1)), (y116), (wrap64 (x42_2 + 1)), k69_, k69_, H', ⟨k71_⟩, ⟨by apply_rules only [HO118.out, Kd.R_alloc, Kd.R_drewN, Kd.R_drew]⟩, ⟨k49_⟩⟩
         ·replace c21 := Bool.eq_false_iff.mpr c21
          subst c21
          rw [if_neg (show ¬ (false = true) by decide)] at H
          have H' := Aside0.mk H
          clear H
          go_wp2_with (first | ((with_reducible refine gate_builtin (b := .append) (xs := #[.tmp 45, .tmp 47]) rfl ?_); at_builtin; refine Kd.R_append (Kd.int .i64) (w0 := w) w.heap.size rfl (.tmp 45) (.tmp 47) 24 3 (.int .i64 0) 8 rfl Try.underlying24 info3 rfl (by decide) (by omega) u12 x12_2 x11_2 [.int .i64 x11_2] (fun _ => True) (fun _ => False) rfl rfl ?aP (fun _ hk => hk.elim) ?aF ?aO ?aB ?aS ?aL ?_; (case aP => exact rfl); (case aB => exact k49_); (case aF => exact (fun _ _ => trivial)); (case aO => exact (by apply_rules only [HO_12.out, Kd.R_alloc, Kd.R_drewN, Kd.R_drew])); (case aS => exact (below_size k49_)); (case aL => have := LMc17.out; omega); intro v117 w25 ho hb hg hat; rw [← Ny116.out] at ho; replace HB := Aside0.mk (hb); have HO118 := Aside0.mk (ho); clear HO_12; clear ho hb hg hat) | ((with_reducible refine gate_callee (f := 79) rfl ?_); refine goesL_ (some 51) rfl rfl Try.func79 (by kernel_rfl) rfl #[.slice A0 l0.length c0, .int .i64 x42_2] rfl k35_ ?_; (with_reducible refine (impl_isLeft.calls _ _ l0 x42_2 true _ ?side1 ?side2 A18.out).mono ?_); (case side1 => exact k18_); (case side2 => exact k77_); rintro e w26 ⟨rfl, hb⟩; refine ⟨_, rfl, ?_⟩; replace HO118 := HO118.mw hb; replace HB := HB.mw hb; (try clear hb)) | ((with_reducible refine gate_callee (f := 79) rfl ?_); refine goesL_ (some 58) rfl rfl Try.func79 (by kernel_rfl) rfl #[.slice A0 l0.length c0, .int .i64 (wrap64 (x42_2 + a1))] rfl k35_ ?_; (with_reducible refine (impl_isLeft.calls _ _ l0 (wrap64 (x42_2 + a1)) false _ ?side1 ?side2 A20.out).mono ?_); (case side1 => exact k18_); (case side2 => exact k77_); rintro e w27 ⟨rfl, hb⟩; refine ⟨_, rfl, ?_⟩; replace HO118 := HO118.mw hb; replace HB := HB.mw hb; (try clear hb)))
          go_roundg k2
          case measure => have := HJ3.out; have := HK2.out; omega
          case rel => exact ⟨(wrap64 (x11_2 - 1)), (y116), (wrap64 (x42_2 + 1)), k69_, k69_, H', ⟨k71_⟩, ⟨by apply_rules only [HO118.out, Kd.R_alloc, Kd.R_drewN, Kd.R_drew]⟩, ⟨k49_⟩⟩
        ·replace c19 := Bool.eq_false_iff.mpr c19
         subst c19
         rw [if_neg (show ¬ (false = true) by decide)] at H
         obtain ⟨t121, A28, H⟩ := obnd_ H
         (try dsimp only at H)
         by_cases c29 : t121 = true
         ·subst c29
          rw [if_pos rfl] at H
          have H' := Aside0.mk H
          clear H
          go_wp2_with (first | ((with_reducible refine gate_builtin (b := .append) (xs := #[.tmp 45, .tmp 47]) rfl ?_); at_builtin; refine Kd.R_append (Kd.int .i64) (w0 := w) w.heap.size rfl (.tmp 45) (.tmp 47) 24 3 (.int .i64 0) 8 rfl Try.underlying24 info3 rfl (by decide) (by omega) u12 x12_2 x11_2 [.int .i64 x11_2] (fun _ => True) (fun _ => False) rfl rfl ?aP (fun _ hk => hk.elim) ?aF ?aO ?aB ?aS ?aL ?_; (case aP => exact rfl); (case aB => exact k49_); (case aF => exact (fun _ _ => trivial)); (case aO => exact (by apply_rules only [HO_12.out, Kd.R_alloc, Kd.R_drewN, Kd.R_drew])); (case aS => exact (below_size k49_)); (case aL => have := LMc17.out; omega); intro v117 w30 ho hb hg hat; rw [← Ny116.out] at ho; replace HB := Aside0.mk (hb); have HO118 := Aside0.mk (ho); clear HO_12; clear ho hb hg hat) | ((with_reducible refine gate_callee (f := 79) rfl ?_); refine goesL_ (some 51) rfl rfl Try.func79 (by kernel_rfl) rfl #[.slice A0 l0.length c0, .int .i64 x42_2] rfl k35_ ?_; (with_reducible refine (impl_isLeft.calls _ _ l0 x42_2 false _ ?side1 ?side2 A18.out).mono ?_); (case side1 => exact k18_); (case side2 => exact k77_); rintro e w31 ⟨rfl, hb⟩; refine ⟨_, rfl, ?_⟩; replace HO118 := HO118.mw hb; replace HB := HB.mw hb; (try clear hb)) | ((with_reducible refine gate_callee (f := 79) rfl ?_); refine goesL_ (some 58) rfl rfl Try.func79 (by kernel_rfl) rfl #[.slice A0 l0.length c0, .int .i64 (wrap64 (x42_2 + a1))] rfl k35_ ?_; (with_reducible refine (impl_isLeft.calls _ _ l0 (wrap64 (x42_2 + a1)) true _ ?side1 ?side2 A28.out).mono ?_); (case side1 => exact k18_); (case side2 => exact k77_); rintro e w32 ⟨rfl, hb⟩; refine ⟨_, rfl, ?_⟩; replace HO118 := HO118.mw hb; replace HB := HB.mw hb; (try clear hb)))
          go_roundg k2
          case measure => have := HJ3.out; have := HK2.out; omega
          case rel => exact ⟨(wrap64 (x11_2 + 1)), (y116), (wrap64 (x42_2 + 1)), k69_, k69_, H', ⟨k71_⟩, ⟨by apply_rules only [HO118.out, Kd.R_alloc, Kd.R_drewN, Kd.R_drew]⟩, ⟨k49_⟩⟩
         ·replace c29 := Bool.eq_false_iff.mpr c29
          subst c29
          rw [if_neg (show ¬ (false = true) by decide)] at H
          have H' := Aside0.mk H
          clear H
          go_wp2_with (first | ((with_reducible refine gate_builtin (b := .append) (xs := #[.tmp 45, .tmp 47]) rfl ?_); at_builtin; refine Kd.R_append (Kd.int .i64) (w0 := w) w.heap.size rfl (.tmp 45) (.tmp 47) 24 3 (.int .i64 0) 8 rfl Try.underlying24 info3 rfl (by decide) (by omega) u12 x12_2 x11_2 [.int .i64 x11_2] (fun _ => True) (fun _ => False) rfl rfl ?aP (fun _ hk => hk.elim) ?aF ?aO ?aB ?aS ?aL ?_; (case aP => exact rfl); (case aB => exact k49_); (case aF => exact (fun _ _ => trivial)); (case aO => exact (by apply_rules only [HO_12.out, Kd.R_alloc, Kd.R_drewN, Kd.R_drew])); (case aS => exact (below_size k49_)); (case aL => have := LMc17.out; omega); intro v117 w33 ho hb hg hat; rw [← Ny116.out] at ho; replace HB := Aside0.mk (hb); have HO118 := Aside0.mk (ho); clear HO_12; clear ho hb hg hat) | ((with_reducible refine gate_callee (f := 79) rfl ?_); refine goesL_ (some 51) rfl rfl Try.func79 (by kernel_rfl) rfl #[.slice A0 l0.length c0, .int .i64 x42_2] rfl k35_ ?_; (with_reducible refine (impl_isLeft.calls _ _ l0 x42_2 false _ ?side1 ?side2 A18.out).mono ?_); (case side1 => exact k18_); (case side2 => exact k77_); rintro e w34 ⟨rfl, hb⟩; refine ⟨_, rfl, ?_⟩; replace HO118 := HO118.mw hb; replace HB := HB.mw hb; (try clear hb)) | ((with_reducible refine gate_callee (f := 79) rfl ?_); refine goesL_ (some 58) rfl rfl Try.func79 (by kernel_rfl) rfl #[.slice A0 l0.length c0, .int .i64 (wrap64 (x42_2 + a1))] rfl k35_ ?_; (with_reducible refine (impl_isLeft.calls _ _ l0 (wrap64 (x42_2 + a1)) false _ ?side1 ?side2 A28.out).mono ?_); (case side1 => exact k18_); (case side2 => exact k77_); rintro e w35 ⟨rfl, hb⟩; refine ⟨_, rfl, ?_⟩; replace HO118 := HO118.mw hb; replace HB := HB.mw hb; (try clear hb)))
          go_roundg k2
          case measure => have := HJ3.out; have := HK2.out; omega
          case rel => exact ⟨(x11_2), (y116), (wrap64 (x42_2 + 1)), k69_, k69_, H', ⟨k71_⟩, ⟨by apply_rules only [HO118.out, Kd.R_alloc, Kd.R_drewN, Kd.R_drew]⟩, ⟨k49_⟩⟩
       ·rw [if_neg c17] at H
        exact absurd H (by simp)
      ·rw [if_neg c16] at H
       have c16b0 : decide (x42_2 < t108) = false := decide_eq_false c16
       clear c16
       simp only [Option.some.injEq, Prod.mk.injEq] at H
       obtain ⟨rfl, rfl⟩ := H
       go_wp2
       go_ret2
       exact ⟨_, k46_, by (with_reducible repeat (first | apply Kd.R_alloc | apply Kd.R_drewN | apply Kd.R_drew)); exact HO_12.out, k49_⟩
end Go.Proofs.Ytdcijdeiaefjpaa.P
namespace Go.Proofs.Ytdcijdeiaefjpaa.P
open Go.RowKit Go.Proofs.YtdcijdeiaefjpaaW.PrintWords Go.Proofs.YtdcijdeiaefjpaaW.PrintLast Go.Proofs.YtdcijdeiaefjpaaW.PrintMore
attribute [local go_sem] max2_int min2_int max_two min_two max_three min_three max_four min_four
set_option linter.unusedVariables false
set_option linter.unusedSimpArgs false
def minFrom : Int → List Int → Int
  | m, [] => m
  | m, x :: t => minFrom (mn m x) t
def slices_Min_int_int.f (l0 : List Int) : Option (Int) := match l0 with
  | [] => none
  | x :: t => some (minFrom x t)
theorem min_rd_drop (l : List Int) (k : Nat) (h : k < l.length) : l.drop k = rd l k :: l.drop (k + 1) := by
  rw [List.drop_eq_getElem_cons h]
  simp [rd, List.getD, h]
set_option maxHeartbeats 2000000 in
set_option maxRecDepth 100000 in
theorem slices_Min_int_int.calls (A0 : Option Addr) (c0 : Nat) (l0 : List Int) (r : Int) (w : World) (hr0 : Kd.C (Kd.int .i64) w A0 l0.length l0) (hc0 : l0.length ≤ c0) (h : slices_Min_int_int.f l0 = some r) :
    Calls Try.prog 78 #[.slice A0 l0.length c0] w fun e w' => e = .returned (.int .i64 r) ∧ Drawn0 w w' := by
  have hm : l0.length ≤ 9223372036854775807 := Kd.C_max hr0
  have hpos : 0 < l0.length := by
    cases l0 with
    | nil => simp [slices_Min_int_int.f] at h
    | cons x t => simp
  have H := Aside0.mk (show r = minFrom (rd l0 (0 : Int)) (l0.drop 1) by
    cases l0 with
    | nil => simp [slices_Min_int_int.f] at h
    | cons x t => simp [slices_Min_int_int.f] at h; simp [rd, h])
  clear h
  have d1 : decide ((l0.length : Int) < 1) = false := decide_eq_false (by omega)
  have d2 : decide (l0.length < 1) = false := decide_eq_false (by omega)
  obtain ⟨ad, e0, hx0⟩ := Kd.at_int hr0 0 (by omega) (by omega)
  have HR0 := Aside0.mk hr0
  clear hr0
  cases e0
  simp only [Int.toNat_zero, Addr.add_zero'] at hx0
  have hp0 : 0 < (l0.length : Int) := by omega
  go_enter Try.func78, Try.ntmps78
  go_wp2
  go_loopg [3, 4] l0.length (fun gg s3 s4 wr => ∃ (j : Nat) (m : Int), 1 ≤ j ∧ j ≤ l0.length ∧ l0.length - j ≤ gg ∧ s3 = .int .i64 m ∧ s4 = .int .i64 (j : Int) ∧ Aside0 (r = minFrom m (l0.drop j)) ∧ Drawn0 w wr)
  case atStart => exact ⟨1, _, by omega, hpos, by omega, rfl, by go_num, H, Drawn0.refl _⟩
  case round =>
    clear H hx0
    obtain ⟨j, m, hj, hjl, hg, rfl, rfl, HI, mw, rfl⟩ := hrel
    by_cases hlt : j < l0.length
    · have hltz : (j : Int) < (l0.length : Int) := by omega
      obtain ⟨ad2, e, hx⟩ := Kd.at_int HR0.out (j : Int) (by omega) hltz
      cases e
      simp only [Int.toNat_natCast] at hx
      have HN := Aside0.mk (min_rd_drop l0 j hlt)
      go_wp2
      all_goals
        go_roundg (l0.length - (j + 1))
        case measure => omega
        case rel => exact ⟨j + 1, _, by omega, hlt, by omega, rfl, by go_num, ⟨by rw [HI.out, HN.out]; simp only [minFrom, mn]; split <;> first | rfl | omega⟩, k67_⟩
    · have hltz : ¬ (j : Int) < (l0.length : Int) := by omega
      have HN := Aside0.mk (show l0.drop j = [] from List.drop_eq_nil_of_le (by omega))
      go_wp2
      go_ret
      exact ⟨by rw [HI.out, HN.out]; rfl, k67_⟩
end Go.Proofs.Ytdcijdeiaefjpaa.P
namespace Go.Proofs.Ytdcijdeiaefjpaa.P
open Go.RowKit Go.Proofs.YtdcijdeiaefjpaaW.PrintWords Go.Proofs.YtdcijdeiaefjpaaW.PrintLast Go.Proofs.YtdcijdeiaefjpaaW.PrintMore
attribute [local go_sem] max2_int min2_int max_two min_two max_three min_three max_four min_four
set_option linter.unusedVariables false
set_option linter.unusedSimpArgs false
def impl_LeastInWindow.f (k : Nat) (l0 : List (SRule)) (a1 : Int) : Option (Int × Bool) := (impl_windowsOf.f k l0 a1).bind fun bt101 => (if bt101.2 = true then ((slices_Min_int_int.f bt101.1).bind fun t105 => (some (t105, true))) else (some (0, false)))
set_option maxHeartbeats 8000000 in
set_option maxRecDepth 100000 in
theorem impl_LeastInWindow.calls (k : Nat) (A0 : Option Addr) (c0 : Nat) (l0 : List (SRule)) (a1 : Int) (r1 : Int) (r2 : Bool) (w : World) (hr0 : Kd.C kRule w A0 l0.length l0) (hc0 : l0.length ≤ c0) (h : impl_LeastInWindow.f k l0 a1 = some (r1, r2)) :
  Calls Try.prog 36 #[.slice A0 l0.length c0, .int .i64 a1] w fun e w' => e = .returned (.tuple #[.int .i64 r1, .bool r2]) ∧ Below w.heap.size w w' := by
 have HR0 := Aside0.mk hr0
 have HC0 := Aside0.mk hc0
 clear hr0 hc0
 have HB := Aside0.mk (Below.refl w.heap.size w)
 have H : ((impl_windowsOf.f k l0 a1).bind fun bt101 => (if bt101.2 = true then ((slices_Min_int_int.f bt101.1).bind fun t105 => (some (t105, true))) else (some (0, false)))) = some (r1, r2) := h
 clear h
 obtain ⟨⟨t101, t102⟩, A3, H⟩ := obnd_ H
 (try dsimp only at H)
 by_cases c4 : t102 = true
 ·subst c4
  rw [if_pos rfl] at H
  obtain ⟨t105, A5, H⟩ := obnd_ H
  (try dsimp only at H)
  simp only [Option.some.injEq, Prod.mk.injEq] at H
  obtain ⟨rfl, rfl⟩ := H
  go_enter Try.func36, Try.ntmps36
  go_wp2_with (first | ((with_reducible refine gate_callee (f := 77) rfl ?_); refine goesL_ (some 11) rfl rfl Try.func77 (by kernel_rfl) rfl #[.slice A0 l0.length c0, .int .i64 a1] rfl k35_ ?_; (with_reducible refine (impl_windowsOf.calls k _ _ l0 a1 t101 true _ ?side1 ?side2 A3.out).mono ?_); (case side1 => exact k31_); (case side2 => exact k77_); rintro e w6 ⟨v103, rfl, ho0, hb⟩; refine ⟨_, rfl, ?_⟩; have HO104 := Aside0.mk (Kd.R_lower ho0 (below_size k49_)); replace HB := HB.mw hb; (try clear hb ho0); obtain ⟨Ao7, co7, eo7⟩ := Kd.R_slice HO104.out; subst eo7) | ((with_reducible refine gate_callee (f := 78) rfl ?_); refine goesL_ (some 17) rfl rfl Try.func78 (by kernel_rfl) rfl #[.slice Ao7 t101.length co7] rfl k35_ ?_; (with_reducible refine (slices_Min_int_int.calls _ _ t101 t105 _ ?side1 ?side2 A5.out).mono ?_); (case side1 => exact k21_); (case side2 => exact k74_); rintro e w' ⟨rfl, ⟨nd, rfl⟩⟩; refine ⟨_, rfl, ?_⟩))
  go_ret2
  exact ⟨k46_, k49_⟩
 ·replace c4 := Bool.eq_false_iff.mpr c4
  subst c4
  rw [if_neg (show ¬ (false = true) by decide)] at H
  simp only [Option.some.injEq, Prod.mk.injEq] at H
  obtain ⟨rfl, rfl⟩ := H
  go_enter Try.func36, Try.ntmps36
  go_wp2_with (first | ((with_reducible refine gate_callee (f := 77) rfl ?_); refine goesL_ (some 11) rfl rfl Try.func77 (by kernel_rfl) rfl #[.slice A0 l0.length c0, .int .i64 a1] rfl k35_ ?_; (with_reducible refine (impl_windowsOf.calls k _ _ l0 a1 t101 false _ ?side1 ?side2 A3.out).mono ?_); (case side1 => exact k31_); (case side2 => exact k77_); rintro e w8 ⟨v103, rfl, ho0, hb⟩; refine ⟨_, rfl, ?_⟩; have HO104 := Aside0.mk (Kd.R_lower ho0 (below_size k49_)); replace HB := HB.mw hb; (try clear hb ho0)))
  go_ret2
  exact ⟨k46_, k49_⟩
end Go.Proofs.Ytdcijdeiaefjpaa.P
namespace Go.Proofs.Ytdcijdeiaefjpaa.P
open Go.RowKit Go.Proofs.YtdcijdeiaefjpaaW.PrintWords Go.Proofs.YtdcijdeiaefjpaaW.PrintLast Go.Proofs.YtdcijdeiaefjpaaW.PrintMore
attribute [local go_sem] max2_int min2_int max_two min_two max_three min_three max_four min_four
set_option linter.unusedVariables false
set_option linter.unusedSimpArgs false
def impl_MostInWindow.f (k : Nat) (l0 : List (SRule)) (a1 : Int) : Option (Int × Bool) := (impl_windowsOf.f k l0 a1).bind fun bt101 => (if bt101.2 = true then ((slices_Max_int_int.f bt101.1).bind fun t105 => (some (t105, true))) else (some (0, false)))
set_option maxHeartbeats 8000000 in
set_option maxRecDepth 100000 in
theorem impl_MostInWindow.calls (k : Nat) (A0 : Option Addr) (c0 : Nat) (l0 : List (SRule)) (a1 : Int) (r1 : Int) (r2 : Bool) (w : World) (hr0 : Kd.C kRule w A0 l0.length l0) (hc0 : l0.length ≤ c0) (h : impl_MostInWindow.f k l0 a1 = some (r1, r2)) :
  Calls Try.prog 37 #[.slice A0 l0.length c0, .int .i64 a1] w fun e w' => e = .returned (.tuple #[.int .i64 r1, .bool r2]) ∧ Below w.heap.size w w' := by
 have HR0 := Aside0.mk hr0
 have HC0 := Aside0.mk hc0
 clear hr0 hc0
 have HB := Aside0.mk (Below.refl w.heap.size w)
 have H : ((impl_windowsOf.f k l0 a1).bind fun bt101 => (if bt101.2 = true then ((slices_Max_int_int.f bt101.1).bind fun t105 => (some (t105, true))) else (some (0, false)))) = some (r1, r2) := h
 clear h
 obtain ⟨⟨t101, t102⟩, A3, H⟩ := obnd_ H
 (try dsimp only at H)
 by_cases c4 : t102 = true
 ·subst c4
  rw [if_pos rfl] at H
  obtain ⟨t105, A5, H⟩ := obnd_ H
  (try dsimp only at H)
  simp only [Option.some.injEq, Prod.mk.injEq] at H
  obtain ⟨rfl, rfl⟩ := H
  go_enter Try.func37, Try.ntmps37
  go_wp2_with (first | ((with_reducible refine gate_callee (f := 77) rfl ?_); refine goesL_ (some 11) rfl rfl Try.func77 (by kernel_rfl) rfl #[.slice A0 l0.length c0, .int .i64 a1] rfl k35_ ?_; (with_reducible refine (impl_windowsOf.calls k _ _ l0 a1 t101 true _ ?side1 ?side2 A3.out).mono ?_); (case side1 => exact k31_); (case side2 => exact k77_); rintro e w6 ⟨v103, rfl, ho0, hb⟩; refine ⟨_, rfl, ?_⟩; have HO104 := Aside0.mk (Kd.R_lower ho0 (below_size k49_)); replace HB := HB.mw hb; (try clear hb ho0); obtain ⟨Ao7, co7, eo7⟩ := Kd.R_slice HO104.out; subst eo7) | ((with_reducible refine gate_callee (f := 63) rfl ?_); refine goesL_ (some 17) rfl rfl Try.func63 (by kernel_rfl) rfl #[.slice Ao7 t101.length co7] rfl k35_ ?_; (with_reducible refine (slices_Max_int_int.calls _ _ t101 t105 _ ?side1 ?side2 A5.out).mono ?_); (case side1 => exact k21_); (case side2 => exact k74_); rintro e w' ⟨rfl, ⟨nd, rfl⟩⟩; refine ⟨_, rfl, ?_⟩))
  go_ret2
  exact ⟨k46_, k49_⟩
 ·replace c4 := Bool.eq_false_iff.mpr c4
  subst c4
  rw [if_neg (show ¬ (false = true) by decide)] at H
  simp only [Option.some.injEq, Prod.mk.injEq] at H
  obtain ⟨rfl, rfl⟩ := H
  go_enter Try.func37, Try.ntmps37
  go_wp2_with (first | ((with_reducible refine gate_callee (f := 77) rfl ?_); refine goesL_ (some 11) rfl rfl Try.func77 (by kernel_rfl) rfl #[.slice A0 l0.length c0, .int .i64 a1] rfl k35_ ?_; (with_reducible refine (impl_windowsOf.calls k _ _ l0 a1 t101 false _ ?side1 ?side2 A3.out).mono ?_); (case side1 => exact k31_); (case side2 => exact k77_); rintro e w8 ⟨v103, rfl, ho0, hb⟩; refine ⟨_, rfl, ?_⟩; have HO104 := Aside0.mk (Kd.R_lower ho0 (below_size k49_)); replace HB := HB.mw hb; (try clear hb ho0)))
  go_ret2
  exact ⟨k46_, k49_⟩
end Go.Proofs.Ytdcijdeiaefjpaa.P
namespace Go.Proofs.Ytdcijdeiaefjpaa.P
open Go.RowKit Go.Proofs.YtdcijdeiaefjpaaW.PrintWords Go.Proofs.YtdcijdeiaefjpaaW.PrintLast Go.Proofs.YtdcijdeiaefjpaaW.PrintMore
attribute [local go_sem] max2_int min2_int max_two min_two max_three min_three max_four min_four
set_option linter.unusedVariables false
set_option linter.unusedSimpArgs false
mutual
def impl_PairsInPeriod.j0 : Nat → List (SRule) → Int → List Int → Bool → Option (Int × Bool)
 | 0, _, _, _, _ => none
 | k + 1, x0, x1, x6, x27 => if x27 = true then (some (0, false)) else (impl_PairsInPeriod.l0 k x0 x1 0 x6 (x6.length : Int) 0)
def impl_PairsInPeriod.l0 : Nat → List (SRule) → Int → Int → List Int → Int → Int → Option (Int × Bool)
 | 0, _, _, _, _, _, _ => none
 | k + 1, x0, x1, x9, x28, x29, x30 => if x30 < x29 then (if 0 ≤ x30 then (if x30 < (x28.length : Int) then ((impl_isLeft.f x0 (wrap64 ((rd x28 x30) + x1))).bind fun t109 => (if t109 = true then (impl_PairsInPeriod.l0 k x0 x1 (wrap64 (x9 + 1)) x28 x29 (wrap64 (x30 + 1))) else (impl_PairsInPeriod.l0 k x0 x1 x9 x28 x29 (wrap64 (x30 + 1))))) else (none)) else (none)) else (some (x9, true))
end
def impl_PairsInPeriod.f (k : Nat) (l0 : List (SRule)) (a1 : Int) : Option (Int × Bool) := (impl_periodGaps.f k l0).bind fun bt101 => (if bt101.2.2 = true then (if a1 < 0 then (impl_PairsInPeriod.j0 k l0 a1 bt101.1 true) else (impl_PairsInPeriod.j0 k l0 a1 bt101.1 (decide (a1 > 1000)))) else (impl_PairsInPeriod.j0 k l0 a1 bt101.1 true))
set_option maxHeartbeats 8000000 in
set_option maxRecDepth 100000 in
theorem impl_PairsInPeriod.calls (k : Nat) (A0 : Option Addr) (c0 : Nat) (l0 : List (SRule)) (a1 : Int) (r1 : Int) (r2 : Bool) (w : World) (hr0 : Kd.C kRule w A0 l0.length l0) (hc0 : l0.length ≤ c0) (h : impl_PairsInPeriod.f k l0 a1 = some (r1, r2)) :
  Calls Try.prog 38 #[.slice A0 l0.length c0, .int .i64 a1] w fun e w' => e = .returned (.tuple #[.int .i64 r1, .bool r2]) ∧ Below w.heap.size w w' := by
 have HR0 := Aside0.mk hr0
 have HC0 := Aside0.mk hc0
 clear hr0 hc0
 have HB := Aside0.mk (Below.refl w.heap.size w)
 have H : ((impl_periodGaps.f k l0).bind fun bt101 => (if bt101.2.2 = true then (if a1 < 0 then (impl_PairsInPeriod.j0 k l0 a1 bt101.1 true) else (impl_PairsInPeriod.j0 k l0 a1 bt101.1 (decide (a1 > 1000)))) else (impl_PairsInPeriod.j0 k l0 a1 bt101.1 true))) = some (r1, r2) := h
 clear h
 obtain ⟨⟨t101, t102, t103⟩, A3, H⟩ := obnd_ H
 (try dsimp only at H)
 have HC4 := Aside0.mk H
 clear H
 go_enter Try.func38, Try.ntmps38
 go_upto_region 2 with (first | ((with_reducible refine gate_callee (f := 62) rfl ?_); refine goesL_ (some 14) rfl rfl Try.func62 (by kernel_rfl) rfl #[.slice A0 l0.length c0] rfl k35_ ?_; (with_reducible refine (impl_periodGaps.calls k _ _ l0 t101 t102 t103 _ ?side1 ?side2 A3.out).mono ?_); (case side1 => exact k31_); (case side2 => exact k77_); rintro e w5 ⟨v104, v106, rfl, ho0, ho1, hb⟩; refine ⟨_, rfl, ?_⟩; have HO105 := Aside0.mk (Kd.R_lower ho0 (below_size k49_)); have HO107 := Aside0.mk (Kd.R_lower ho1 (below_size k49_)); replace HB := HB.mw hb; (try clear hb ho0 ho1)))
 (try simp only [Act.put, List.setIfInBounds_toArray, List.set_cons_zero, List.set_cons_succ])
 go_cut [27] (fun v27 wc => ∃ (kq : Nat) (x27_3 : Bool), v27 = .bool x27_3 ∧ Aside0 (impl_PairsInPeriod.j0 kq l0 a1 t101 x27_3 = some (r1, r2)) ∧ Aside0 (kq ≤ k) ∧ Aside0 (Kd.R (Kd.int .i64) 3 wc w.heap.size (fun _ => True) v104 t101) ∧ Aside0 (Below w.heap.size w wc))
 case first =>
  have H := HC4.out
  clear HC4
  by_cases c6 : t103 = true
  ·subst c6
   rw [if_pos rfl] at H
   by_cases c7 : a1 < 0
   ·rw [if_pos c7] at H
    have c7b0 : decide (a1 < 0) = true := decide_eq_true c7
    clear c7
    (first | rw [c7b0] | rw [c7b1] | (simp only [i64_w, i32_w]; rw [c7b0]) | skip)
    have H' := Aside0.mk H
    clear H
    go_wp2
    go_meet
    case rel => exact ⟨_, (true), k69_, H', ⟨k72_⟩, ⟨k37_⟩, ⟨k49_⟩⟩
   ·rw [if_neg c7] at H
    have c7b0 : decide (a1 < 0) = false := decide_eq_false c7
    clear c7
    (first | rw [c7b0] | rw [c7b1] | (simp only [i64_w, i32_w]; rw [c7b0]) | skip)
    have H' := Aside0.mk H
    clear H
    go_wp2
    go_meet
    case rel => exact ⟨_, (decide (a1 > 1000)), k69_, H', ⟨k72_⟩, ⟨k37_⟩, ⟨k49_⟩⟩
  ·replace c6 := Bool.eq_false_iff.mpr c6
   subst c6
   rw [if_neg (show ¬ (false = true) by decide)] at H
   have H' := Aside0.mk H
   clear H
   go_wp2
   go_meet
   case rel => exact ⟨_, (true), k69_, H', ⟨k72_⟩, ⟨k37_⟩, ⟨k49_⟩⟩
 case rest =>
  clear HC4
  obtain ⟨kq, x27_3, rfl, HA, HJ3, HO_6, HB⟩ := hcut
  cases kq with
  | zero => exact absurd HA.out (by simp [impl_PairsInPeriod.j0])
  | succ kj3 =>
   have H := HA.out
   clear HA
   simp only [impl_PairsInPeriod.j0] at H
   by_cases c8 : x27_3 = true
   ·subst c8
    rw [if_pos rfl] at H
    simp only [Option.some.injEq, Prod.mk.injEq] at H
    obtain ⟨rfl, rfl⟩ := H
    go_wp2
    go_ret2
    exact ⟨k46_, k49_⟩
   ·replace c8 := Bool.eq_false_iff.mpr c8
    subst c8
    rw [if_neg (show ¬ (false = true) by decide)] at H
    have H' := Aside0.mk H
    clear H
    obtain ⟨Ao9, co9, eo9⟩ := Kd.R_slice HO_6.out
    subst eo9
    go_wp2
    go_loopg [9, 30] kj3 (fun kq v9 v30 w' => ∃ (x9_2 : Int) (x30_2 : Int), v9 = .int .i64 x9_2 ∧ v30 = .int .i64 x30_2 ∧ Aside0 (impl_PairsInPeriod.l0 kq l0 a1 x9_2 t101 (t101.length : Int) x30_2 = some (r1, r2)) ∧ Aside0 (kq ≤ kj3) ∧ Aside0 (Kd.R (Kd.int .i64) 3 w' w.heap.size (fun _ => True) (.slice Ao9 t101.length co9) t101) ∧ Aside0 (Below w.heap.size w w'))
    case atStart => exact ⟨(0), (0), k69_, k69_, H', ⟨Nat.le_refl _⟩, ⟨k66_⟩, ⟨k49_⟩⟩
    case round =>
     clear H'
     (try clear c8)
     obtain ⟨x9_2, x30_2, rfl, rfl, HA, HK2, HO_28, HB⟩ := hrel
     cases gk with
     | zero => exact absurd HA.out (by simp [impl_PairsInPeriod.l0])
     | succ k2 =>
      have H := HA.out
      clear HA
      simp only [impl_PairsInPeriod.l0] at H
      by_cases c10 : x30_2 < (t101.length : Int)
      ·rw [if_pos c10] at H
       have c10b0 : decide (x30_2 < (t101.length : Int)) = true := decide_eq_true c10
       clear c10
       by_cases c11 : 0 ≤ x30_2
       ·rw [if_pos c11] at H
        have c11b0 : decide (0 ≤ x30_2) = true := decide_eq_true c11
        clear c11
        by_cases c12 : x30_2 < (t101.length : Int)
        ·rw [if_pos c12] at H
         have c12b0 : decide (x30_2 < (t101.length : Int)) = true := decide_eq_true c12
         clear c12
         obtain ⟨t109, A13, H⟩ := obnd_ H
         (try dsimp only at H)
         by_cases c14 : t109 = true
         ·subst c14
          rw [if_pos rfl] at H
          have H' := Aside0.mk H
          clear H
          have p108 : 0 ≤ (x30_2 : Int) := of_decide_eq_true k68_
          have q108 : x30_2 < (t101.length : Int) := of_decide_eq_true k68_
          obtain ⟨ad108, e108, hx108_0⟩ := Kd.at_int (Kd.R_reads' HO_28.out).2.2 x30_2 p108 q108
          cases e108
          replace p108 := eq_true p108
          replace q108 := eq_true q108
          go_wp2_with (first | ((with_reducible refine gate_callee (f := 79) rfl ?_); refine goesL_ (some 38) rfl rfl Try.func79 (by kernel_rfl) rfl #[.slice A0 l0.length c0, .int .i64 (wrap64 ((rd t101 x30_2) + a1))] rfl k35_ ?_; (with_reducible refine (impl_isLeft.calls _ _ l0 (wrap64 ((rd t101 x30_2) + a1)) true _ ?side1 ?side2 A13.out).mono ?_); (case side1 => exact k18_); (case side2 => exact k77_); rintro e w15 ⟨rfl, hb⟩; refine ⟨_, rfl, ?_⟩; replace HO_28 := HO_28.mw hb; replace HB := HB.mw hb; (try clear hb)))
          go_roundg k2
          case measure => have := HJ3.out; have := HK2.out; omega
          case rel => exact ⟨(wrap64 (x9_2 + 1)), (wrap64 (x30_2 + 1)), k69_, k69_, H', ⟨k71_⟩, ⟨k53_⟩, ⟨k49_⟩⟩
         ·replace c14 := Bool.eq_false_iff.mpr c14
          subst c14
          rw [if_neg (show ¬ (false = true) by decide)] at H
          have H' := Aside0.mk H
          clear H
          have p108 : 0 ≤ (x30_2 : Int) := of_decide_eq_true k68_
          have q108 : x30_2 < (t101.length : Int) := of_decide_eq_true k68_
          obtain ⟨ad108, e108, hx108_0⟩ := Kd.at_int (Kd.R_reads' HO_28.out).2.2 x30_2 p108 q108
          cases e108
          replace p108 := eq_true p108
          replace q108 := eq_true q108
          go_wp2_with (first | ((with_reducible refine gate_callee (f := 79) rfl ?_); refine goesL_ (some 38) rfl rfl Try.func79 (by kernel_rfl) rfl #[.slice A0 l0.length c0, .int .i64 (wrap64 ((rd t101 x30_2) + a1))] rfl k35_ ?_; (with_reducible refine (impl_isLeft.calls _ _ l0 (wrap64 ((rd t101 x30_2) + a1)) false _ ?side1 ?side2 A13.out).mono ?_); (case side1 => exact k18_); (case side2 => exact k77_); rintro e w16 ⟨rfl, hb⟩; refine ⟨_, rfl, ?_⟩; replace HO_28 := HO_28.mw hb; replace HB := HB.mw hb; (try clear hb)))
          go_roundg k2
          case measure => have := HJ3.out; have := HK2.out; omega
          case rel => exact ⟨(x9_2), (wrap64 (x30_2 + 1)), k69_, k69_, H', ⟨k71_⟩, ⟨k53_⟩, ⟨k49_⟩⟩
        ·rw [if_neg c12] at H
         exact absurd H (by simp)
       ·rw [if_neg c11] at H
        exact absurd H (by simp)
      ·rw [if_neg c10] at H
       have c10b0 : decide (x30_2 < (t101.length : Int)) = false := decide_eq_false c10
       clear c10
       simp only [Option.some.injEq, Prod.mk.injEq] at H
       obtain ⟨rfl, rfl⟩ := H
       go_wp2
       go_ret2
       exact ⟨k46_, k49_⟩
end Go.Proofs.Ytdcijdeiaefjpaa.P
namespace Go.Proofs.Ytdcijdeiaefjpaa.P
open Go.RowKit Go.Proofs.YtdcijdeiaefjpaaW.PrintWords Go.Proofs.YtdcijdeiaefjpaaW.PrintLast Go.Proofs.YtdcijdeiaefjpaaW.PrintMore
attribute [local go_sem] max2_int min2_int max_two min_two max_three min_three max_four min_four
set_option linter.unusedVariables false
set_option linter.unusedSimpArgs false
def spec_l1Cur_upTo.f (s0_0 : List Int) (s0_1 : Int) (s0_2 : Int) : Option (Int × Int × Int) := (spec_l1Cur_one.f s0_0 s0_1 s0_2 12).bind fun bt101 => (if bt101.1 = true then ((spec_l1Cur_among.f s0_0 bt101.2.1 bt101.2.2 (([(-1), 0, 600, 601, 4611686018427387904] : List Int))).bind fun bt107 => (some (bt107.1, bt107.2.1, bt107.2.2))) else ((spec_l1Cur_pick.f s0_0 bt101.2.1 bt101.2.2 120).bind fun bt110 => (some (bt110.1, bt110.2.1, bt110.2.2))))
set_option maxHeartbeats 8000000 in
set_option maxRecDepth 100000 in
theorem spec_l1Cur_upTo.calls (g : Nat) (s0_0 : List Int) (s0_1 : Int) (s0_2 : Int) (r1 : Int) (r2 : Int) (r3 : Int) (w0 w : World) (hI : IsS60 w0 w g s0_0 s0_1 s0_2) (hB : Below w0.heap.size w0 w) (h : spec_l1Cur_upTo.f s0_0 s0_1 s0_2 = some (r1, r2, r3)) :
  Calls Try.prog 80 #[.pointer (some ⟨g, 0, none⟩)] w fun e w' => e = .returned (.int .i64 r1) ∧ IsS60 w0 w' g s0_0 r2 r3 ∧ Below w0.heap.size w0 w' ∧ KeepBut w w' g none := by
 have HI0 := Aside0.mk hI
 have HK := Aside0.mk (KeepBut.refl w g none)
 have HL := Aside0.mk hB.size
 clear hI
 have HW0 := Aside0.mk hB.size
 have HB := Aside0.mk hB
 clear hB
 have H : ((spec_l1Cur_one.f s0_0 s0_1 s0_2 12).bind fun bt101 => (if bt101.1 = true then ((spec_l1Cur_among.f s0_0 bt101.2.1 bt101.2.2 (([(-1), 0, 600, 601, 4611686018427387904] : List Int))).bind fun bt107 => (some (bt107.1, bt107.2.1, bt107.2.2))) else ((spec_l1Cur_pick.f s0_0 bt101.2.1 bt101.2.2 120).bind fun bt110 => (some (bt110.1, bt110.2.1, bt110.2.2))))) = some (r1, r2, r3) := h
 clear h
 obtain ⟨⟨t101, t102, t103⟩, A2, H⟩ := obnd_ H
 (try dsimp only at H)
 by_cases c3 : t101 = true
 ·subst c3
  rw [if_pos rfl] at H
  obtain ⟨y104, hy_⟩ : ∃ y_ : List Int, y_ = (([(-1), 0, 600, 601, 4611686018427387904] : List Int)) := ⟨_, rfl⟩
  replace H : ((spec_l1Cur_among.f s0_0 t102 t103 y104).bind fun bt107 => (some (bt107.1, bt107.2.1, bt107.2.2))) = some (r1, r2, r3) := k1_
  have Ny104 := Aside0.mk hy_
  clear hy_
  obtain ⟨⟨t107, t108, t109⟩, A4, H⟩ := obnd_ H
  (try dsimp only at H)
  simp only [Option.some.injEq, Prod.mk.injEq] at H
  obtain ⟨rfl, rfl, rfl⟩ := H
  go_enter Try.func80, Try.ntmps80
  go_wp2_with (first | ((with_reducible refine gate_callee (f := 55) rfl ?_); refine goesL_ (some 4) rfl rfl Try.func55 (by kernel_rfl) rfl #[.pointer (some ⟨g, 0, none⟩), .int .i64 12] rfl k35_ ?_; (with_reducible refine (spec_l1Cur_one.calls g s0_0 s0_1 s0_2 12 true t102 t103 w0 _ ?side1 ?side2 A2.out).mono ?_); (case side1 => exact k27_); (case side2 => exact k19_); rintro e w5 ⟨rfl, hi, hb, hk⟩; refine ⟨_, rfl, ?_⟩; replace HK := Aside0.mk (KeepBut.trans k33_ hk (.inl rfl)); replace HB := Aside0.mk (hb); replace HI0 := Aside0.mk (hi); (try clear hb hk hi)) | ((with_reducible refine gate_dst (N := 6) rfl ?_); refine Kd.R_lit (Kd.int .i64) _ 3 ?hg (N := 6) ?hd (xs := ([(-1), 0, 600, 601, 4611686018427387904] : List Int)) (inner := [.int .i64 (-1), .int .i64 0, .int .i64 600, .int .i64 601, .int .i64 4611686018427387904]) (ok := fun _ => True) (okp := fun _ => True) ?hr ?hp (fun _ hk => hk) trivial (Below.refl _ _) (Nat.le_refl _) (by simp) ?_; (case hd => rfl); (case hg => rfl); (case hr => exact k70_); (case hp => exact (Reps.one (show Kd.M (Kd.int .i64) _ _ _ (-1) [.int .i64 (-1)] from rfl) (Reps.one (show Kd.M (Kd.int .i64) _ _ _ 0 [.int .i64 0] from rfl) (Reps.one (show Kd.M (Kd.int .i64) _ _ _ 600 [.int .i64 600] from rfl) (Reps.one (show Kd.M (Kd.int .i64) _ _ _ 601 [.int .i64 601] from rfl) (Reps.one (show Kd.M (Kd.int .i64) _ _ _ 4611686018427387904 [.int .i64 4611686018427387904] from rfl) (Reps.none _ _))))))); intro v105 w6 ho7 hb hg_ hnew_; clear hg_ hnew_; (first | rw [← Ny104.out] at ho7 | (simp only [Int.reduceToNat] at ho7; rw [← Ny104.out] at ho7)); have HO106 := Aside0.mk (Kd.R_lower ho7 (keep_size (w := w) (g := g) (row := none) k33_)); replace HK := Aside0.mk (KeepBut.trans k33_ (KeepBut.of_below hb g none) (.inl rfl)); replace HB := Aside0.mk (below_step k19_ hb); replace HI0 := Aside0.mk (IsS60.below k27_ hb); clear hb ho7; obtain ⟨Ao8, co8, eo8⟩ := Kd.R_slice HO106.out; subst eo8) | ((with_reducible refine gate_callee (f := 64) rfl ?_); refine goesL_ (some 7) rfl rfl Try.func64 (by kernel_rfl) rfl #[.pointer (some ⟨g, 0, none⟩), .slice Ao8 y104.length co8] rfl k35_ ?_; (with_reducible refine (spec_l1Cur_among.calls g s0_0 t102 t103 _ _ y104 t107 t108 t109 w0 _ ?side1 ?side2 ?side3 ?side4 ?side5 A4.out).mono ?_); (case side1 => exact k27_); (case side2 => exact k19_); (case side3 => repeat (first | exact (Kd.R_reads' HO106.out).2.2 | (with_reducible refine Kd.C_alloc ?_ _) | (with_reducible refine Kd.C_drewN ?_ _) | (with_reducible refine Kd.C_drew ?_))); (case side4 => exact (Kd.R_reads' HO106.out).2.1); (case side5 => exact far_slice (IsS60.own_ne HI0.out HO106.out (by decide))); rintro e w9 ⟨rfl, hi, hb, hk⟩; refine ⟨_, rfl, ?_⟩; replace HO106 := Aside0.mk (Kd.R_mono (Kd.R_keep (IsS60.apart (show IsS60 w0 _ g s0_0 t102 t103 from k27_) k50_ (by decide)) hk (fun _ h => h.2)) (fun _ h => h.1)); replace HK := Aside0.mk (KeepBut.trans k33_ hk (.inl rfl)); replace HB := Aside0.mk (hb); replace HI0 := Aside0.mk (hi); (try clear hb hk hi)))
  go_ret
  exact ⟨k46_, k27_, k19_, k33_⟩
 ·replace c3 := Bool.eq_false_iff.mpr c3
  subst c3
  rw [if_neg (show ¬ (false = true) by decide)] at H
  obtain ⟨⟨t110, t111, t112⟩, A10, H⟩ := obnd_ H
  (try dsimp only at H)
  simp only [Option.some.injEq, Prod.mk.injEq] at H
  obtain ⟨rfl, rfl, rfl⟩ := H
  go_enter Try.func80, Try.ntmps80
  go_wp2_with (first | ((with_reducible refine gate_callee (f := 55) rfl ?_); refine goesL_ (some 4) rfl rfl Try.func55 (by kernel_rfl) rfl #[.pointer (some ⟨g, 0, none⟩), .int .i64 12] rfl k35_ ?_; (with_reducible refine (spec_l1Cur_one.calls g s0_0 s0_1 s0_2 12 false t102 t103 w0 _ ?side1 ?side2 A2.out).mono ?_); (case side1 => exact k27_); (case side2 => exact k19_); rintro e w11 ⟨rfl, hi, hb, hk⟩; refine ⟨_, rfl, ?_⟩; replace HK := Aside0.mk (KeepBut.trans k33_ hk (.inl rfl)); replace HB := Aside0.mk (hb); replace HI0 := Aside0.mk (hi); (try clear hb hk hi)) | ((with_reducible refine gate_callee (f := 65) rfl ?_); refine goesL_ (some 9) rfl rfl Try.func65 (by kernel_rfl) rfl #[.pointer (some ⟨g, 0, none⟩), .int .i64 120] rfl k35_ ?_; (with_reducible refine (spec_l1Cur_pick.calls g s0_0 t102 t103 120 t110 t111 t112 w0 _ ?side1 ?side2 A10.out).mono ?_); (case side1 => exact k27_); (case side2 => exact k19_); rintro e w12 ⟨rfl, hi, hb, hk⟩; refine ⟨_, rfl, ?_⟩; replace HK := Aside0.mk (KeepBut.trans k33_ hk (.inl rfl)); replace HB := Aside0.mk (hb); replace HI0 := Aside0.mk (hi); (try clear hb hk hi)))
  go_ret
  exact ⟨k46_, k27_, k19_, k33_⟩
end Go.Proofs.Ytdcijdeiaefjpaa.P
namespace Go.Proofs.Ytdcijdeiaefjpaa.P
open Go.RowKit Go.Proofs.YtdcijdeiaefjpaaW.PrintWords Go.Proofs.YtdcijdeiaefjpaaW.PrintLast Go.Proofs.YtdcijdeiaefjpaaW.PrintMore
attribute [local go_sem] max2_int min2_int max_two min_two max_three min_three max_four min_four
set_option linter.unusedVariables false
set_option linter.unusedSimpArgs false
def spec_DrawGapsUpTo.g (k : Nat) (s0_0 : List Int) (s0_1 : Int) (s0_2 : Int) : Option ((List (SRule)) × Int × Int × Int) := (spec_l1Cur_someLeft.f k s0_0 s0_1 s0_2).bind fun bt101 => ((spec_l1Cur_upTo.f s0_0 bt101.2.1 bt101.2.2).bind fun bt106 => (some (bt101.1, bt106.1, bt106.2.1, bt106.2.2)))
def spec_DrawGapsUpTo.codeOf : Option Code → Code
 | some c => c
 | none => .skip
def spec_DrawGapsUpTo.seqB : Code → Code
 | .seq _ b => b
 | c => c
set_option maxHeartbeats 8000000 in
set_option maxRecDepth 100000 in
theorem spec_DrawGapsUpTo.rest (k : Nat) (g : Nat) (s0_0 : List Int) (s0_1 : Int) (s0_2 : Int) (r1 : List (SRule)) (r2 : Int) (r3 : Int) (r4 : Int) (w0 w wc : World) (hI : IsS60 w0 wc g s0_0 s0_1 s0_2) (hK : KeepBut w wc g none) (hL : w0.heap.size ≤ w.heap.size) (hB : Below w0.heap.size w0 wc) (h : spec_DrawGapsUpTo.g k s0_0 s0_1 s0_2 = some (r1, r2, r3, r4)) (u0 u1 u2 u3 u5 u6 u7 u8 u9 u10 u11 : Value) (P : Ending → World → Prop) (hP : ∀ e w', (∃ v0_ : Value, e = .returned (.tuple #[v0_, .int .i64 r2]) ∧ Kd.R kRule 38 w' w.heap.size (fun _ => True) v0_ r1 ∧ IsS60 w0 w' g s0_0 r3 r4 ∧ Below w0.heap.size w0 w' ∧ KeepBut w w' g none) → P e w') :
  Code.wp Try.prog (spec_DrawGapsUpTo.seqB (spec_DrawGapsUpTo.seqB (spec_DrawGapsUpTo.codeOf Try.f39.body))) (bodyPost Try.prog Try.f39 P) ⟨#[u0, u1, u2, u3, .pointer (some ⟨g, 0, none⟩), u5, u6, u7, u8, u9, u10, u11], []⟩ wc := by
 have HP := Aside0.mk hP
 clear hP
 have HI0 := Aside0.mk hI
 have HK := Aside0.mk hK
 clear hK
 have HL := Aside0.mk hL
 clear hI
 have HW0 := Aside0.mk hL
 clear hL
 have HB := Aside0.mk hB
 clear hB
 have H : ((spec_l1Cur_someLeft.f k s0_0 s0_1 s0_2).bind fun bt101 => ((spec_l1Cur_upTo.f s0_0 bt101.2.1 bt101.2.2).bind fun bt106 => (some (bt101.1, bt106.1, bt106.2.1, bt106.2.2)))) = some (r1, r2, r3, r4) := h
 clear h
 obtain ⟨⟨t101, t104, t105⟩, A2, H⟩ := obnd_ H
 (try dsimp only at H)
 obtain ⟨⟨t106, t107, t108⟩, A3, H⟩ := obnd_ H
 (try dsimp only at H)
 simp only [Option.some.injEq, Prod.mk.injEq] at H
 obtain ⟨rfl, rfl, rfl, rfl⟩ := H
 show (let Q'_ := bodyPost Try.prog Try.f39 P; Code.wp Try.prog _ Q'_ _ _)
 intro Q'_
 conv => arg 2; whnf
 go_wp2_with (first | ((with_reducible refine gate_callee (f := 72) rfl ?_); refine goesL_ (some 9) rfl rfl Try.func72 (by kernel_rfl) rfl #[.pointer (some ⟨g, 0, none⟩)] rfl k35_ ?_; (with_reducible refine (spec_l1Cur_someLeft.calls k g s0_0 s0_1 s0_2 t101 t104 t105 w0 _ ?side1 ?side2 A2.out).mono ?_); (case side1 => exact k27_); (case side2 => exact k19_); rintro e w4 ⟨v102, rfl, ho0, hi, hb, hk⟩; refine ⟨_, rfl, ?_⟩; have HO103 := Aside0.mk (Kd.R_lower ho0 (keep_size (w := w) (g := g) (row := none) k33_)); replace HK := Aside0.mk (KeepBut.trans k33_ hk (.inl rfl)); replace HB := Aside0.mk (hb); replace HI0 := Aside0.mk (hi); (try clear hb hk hi ho0)) | ((with_reducible refine gate_callee (f := 80) rfl ?_); refine goesL_ (some 11) rfl rfl Try.func80 (by kernel_rfl) rfl #[.pointer (some ⟨g, 0, none⟩)] rfl k35_ ?_; (with_reducible refine (spec_l1Cur_upTo.calls g s0_0 t104 t105 t106 t107 t108 w0 _ ?side1 ?side2 A3.out).mono ?_); (case side1 => exact k27_); (case side2 => exact k19_); rintro e w5 ⟨rfl, hi, hb, hk⟩; refine ⟨_, rfl, ?_⟩; replace HO103 := Aside0.mk (Kd.R_mono (Kd.R_keep (IsS60.apart (show IsS60 w0 _ g s0_0 t104 t105 from k27_) k58_ (by decide)) hk (fun _ h => h.2)) (fun _ h => h.1)); replace HK := Aside0.mk (KeepBut.trans k33_ hk (.inl rfl)); replace HB := Aside0.mk (hb); replace HI0 := Aside0.mk (hi); (try clear hb hk hi)))
 (try go_ret2)
 refine HP.out _ _ ?_
 exact ⟨_, k46_, k45_, k27_, k19_, k33_⟩
def spec_DrawGapsUpTo.f (k : Nat) (l0 : List Int) : Option ((List (SRule)) × Int) := (spec_DrawGapsUpTo.g k l0 0 0).bind fun t => some (t.1, t.2.1)
set_option maxHeartbeats 8000000 in
set_option maxRecDepth 100000 in
theorem spec_DrawGapsUpTo.calls (k : Nat) (A0 : Option Addr) (c0 : Nat) (l0 : List Int) (r1 : List (SRule)) (r2 : Int) (w : World) (hr0 : Kd.C (Kd.int .u8) w A0 l0.length l0) (hc0 : l0.length ≤ c0) (h : spec_DrawGapsUpTo.f k l0 = some (r1, r2)) :
  Calls Try.prog 39 #[.slice A0 l0.length c0] w fun e w' => ∃ v0_ : Value, e = .returned (.tuple #[v0_, .int .i64 r2]) ∧ Kd.R kRule 38 w' w.heap.size (fun _ => True) v0_ r1 ∧ Below w.heap.size w w' := by
 obtain ⟨⟨r1_, r2_, r3, r4⟩, hg, he⟩ := Option.bind_eq_some_iff.mp h
 simp only [Option.some.injEq, Prod.mk.injEq] at he
 obtain ⟨rfl, rfl⟩ := he
 go_enter Try.func39, Try.ntmps39
 apply wp_seq_k
 intro K1 hK1
 have HK1 := Aside0.mk hK1
 clear hK1
 go_wp2
 refine HK1.out _ _ ?_
 apply wp_seq_k
 intro K2 hK2
 have HK2 := Aside0.mk hK2
 clear hK2
 go_wp2_with (first | ((with_reducible refine gate_dst (N := 7) rfl ?_); (try (refine gate_guard (by rfl) ?_; dsimp only)); refine box_event ?hg (N := 7) ?hd (cs := #[.slice A0 l0.length c0, .int .i64 0, .int .u64 0]) (t := 60) ?hr ?_; (case hd => rfl); (case hg => rfl); (case hr => exact k70_); intro gP hgp w1 hbox hb; have HGP := Aside0.mk hgp; have HBX := Aside0.mk hbox; have HBB := Aside0.mk hb; clear hgp hbox hb))
 refine HK2.out _ _ ?_
 have hBw : Below w.heap.size w w1 := HBB.out
 have hgP : w.heap.size ≤ gP := by rw [HGP.out]; exact Nat.le_refl _
 refine spec_DrawGapsUpTo.rest k gP l0 0 0 r1_ r2_ r3 r4 w w w1 ⟨A0, c0, HBX.out, hgP, hr0⟩ (KeepBut.of_below hBw gP none) (Nat.le_refl _) hBw hg _ _ _ _ _ _ _ _ _ _ _ _ ?_
 rintro e w' ⟨v0_, rfl, ho_1, _hI2, hb_3, _hk4⟩
 exact ⟨_, rfl, ho_1, hb_3⟩
end Go.Proofs.Ytdcijdeiaefjpaa.P
namespace Go.Proofs.Ytdcijdeiaefjpaa.P
open Go.RowKit Go.Proofs.YtdcijdeiaefjpaaW.PrintWords Go.Proofs.YtdcijdeiaefjpaaW.PrintLast Go.Proofs.YtdcijdeiaefjpaaW.PrintMore
attribute [local go_sem] max2_int min2_int max_two min_two max_three min_three max_four min_four
set_option linter.unusedVariables false
set_option linter.unusedSimpArgs false
def impl_isMost.f (a0 : Int) : Option (Bool) := if a0 ≥ 0 then (some (decide (a0 ≤ 600))) else (some false)
set_option maxHeartbeats 8000000 in
set_option maxRecDepth 100000 in
theorem impl_isMost.calls (a0 : Int) (r : Bool) (w : World) (h : impl_isMost.f a0 = some r) :
  Calls Try.prog 71 #[.int .i64 a0] w fun e w' => e = .returned (.bool r) ∧ Drawn0 w w' := by
 have H : (if a0 ≥ 0 then (some (decide (a0 ≤ 600))) else (some false)) = some r := h
 clear h
 by_cases c2 : a0 ≥ 0
 ·rw [if_pos c2] at H
  have c2b0 : decide (0 ≤ a0) = true := decide_eq_true c2
  clear c2
  obtain rfl := Option.some.inj H
  go_enter Try.func71, Try.ntmps71
  go_wp2
  go_ret
  exact ⟨k69_, k67_⟩
 ·rw [if_neg c2] at H
  have c2b0 : decide (0 ≤ a0) = false := decide_eq_false c2
  clear c2
  obtain rfl := Option.some.inj H
  go_enter Try.func71, Try.ntmps71
  go_wp2
  go_ret
  exact ⟨k69_, k67_⟩
end Go.Proofs.Ytdcijdeiaefjpaa.P
namespace Go.Proofs.Ytdcijdeiaefjpaa.P
open Go.RowKit Go.Proofs.YtdcijdeiaefjpaaW.PrintWords Go.Proofs.YtdcijdeiaefjpaaW.PrintLast Go.Proofs.YtdcijdeiaefjpaaW.PrintMore
attribute [local go_sem] max2_int min2_int max_two min_two max_three min_three max_four min_four
set_option linter.unusedVariables false
set_option linter.unusedSimpArgs false
def impl_GapsUpTo.j0 : Nat → List (SRule) → Int → Bool → Option (List Int × Bool)
 | 0, _, _, _ => none
 | k + 1, x0, x1, x15 => if x15 = true then (some (([] : List Int), false)) else ((impl_leftBetween.f k x0 1 x1).bind fun t103 => ((impl_gapsOf.f k t103).bind fun bt106 => (some (bt106.2, true))))
def impl_GapsUpTo.f (k : Nat) (l0 : List (SRule)) (a1 : Int) : Option (List Int × Bool) := (impl_areRules.f l0).bind fun t101 => (if t101 = true then ((impl_isMost.f a1).bind fun t102 => (impl_GapsUpTo.j0 k l0 a1 (!t102))) else (impl_GapsUpTo.j0 k l0 a1 true))
set_option maxHeartbeats 8000000 in
set_option maxRecDepth 100000 in
theorem impl_GapsUpTo.calls (k : Nat) (A0 : Option Addr) (c0 : Nat) (l0 : List (SRule)) (a1 : Int) (r1 : List Int) (r2 : Bool) (w : World) (hr0 : Kd.C kRule w A0 l0.length l0) (hc0 : l0.length ≤ c0) (h : impl_GapsUpTo.f k l0 a1 = some (r1, r2)) :
  Calls Try.prog 40 #[.slice A0 l0.length c0, .int .i64 a1] w fun e w' => ∃ v0_ : Value, e = .returned (.tuple #[v0_, .bool r2]) ∧ Kd.R (Kd.int .i64) 3 w' w.heap.size (fun _ => True) v0_ r1 ∧ Below w.heap.size w w' := by
 have HR0 := Aside0.mk hr0
 have HC0 := Aside0.mk hc0
 clear hr0 hc0
 have HB := Aside0.mk (Below.refl w.heap.size w)
 have H : ((impl_areRules.f l0).bind fun t101 => (if t101 = true then ((impl_isMost.f a1).bind fun t102 => (impl_GapsUpTo.j0 k l0 a1 (!t102))) else (impl_GapsUpTo.j0 k l0 a1 true))) = some (r1, r2) := h
 clear h
 have HC3 := Aside0.mk H
 clear H
 go_enter Try.func40, Try.ntmps40
 go_upto_region 1 with (fail)
 go_cut [15] (fun v15 wc => ∃ (kq : Nat) (x15_2 : Bool), v15 = .bool x15_2 ∧ Aside0 (impl_GapsUpTo.j0 kq l0 a1 x15_2 = some (r1, r2)) ∧ Aside0 (kq ≤ k) ∧ Aside0 (Below w.heap.size w wc))
 case first =>
  have H := HC3.out
  clear HC3
  obtain ⟨t101, A4, H⟩ := obnd_ H
  (try dsimp only at H)
  by_cases c5 : t101 = true
  ·subst c5
   rw [if_pos rfl] at H
   obtain ⟨t102, A6, H⟩ := obnd_ H
   (try dsimp only at H)
   have H' := Aside0.mk H
   clear H
   go_wp2_with (first | ((with_reducible refine gate_callee (f := 60) rfl ?_); refine goesL_ (some 9) rfl rfl Try.func60 (by kernel_rfl) rfl #[.slice A0 l0.length c0] rfl k35_ ?_; (with_reducible refine (impl_areRules.calls _ _ l0 true _ ?side1 ?side2 A4.out).mono ?_); (case side1 => exact k18_); (case side2 => exact k77_); rintro e w7 ⟨rfl, hb⟩; refine ⟨_, rfl, ?_⟩; replace HB := HB.mw hb; (try clear hb)) | (go_at_call 71; (with_reducible refine (impl_isMost.calls a1 t102 _ A6.out).mono ?_); rintro e w' ⟨rfl, ⟨nd, rfl⟩⟩))
   go_meet
   case rel => exact ⟨_, (!t102), k69_, H', ⟨k72_⟩, ⟨k49_⟩⟩
  ·replace c5 := Bool.eq_false_iff.mpr c5
   subst c5
   rw [if_neg (show ¬ (false = true) by decide)] at H
   have H' := Aside0.mk H
   clear H
   go_wp2_with (first | ((with_reducible refine gate_callee (f := 60) rfl ?_); refine goesL_ (some 9) rfl rfl Try.func60 (by kernel_rfl) rfl #[.slice A0 l0.length c0] rfl k35_ ?_; (with_reducible refine (impl_areRules.calls _ _ l0 false _ ?side1 ?side2 A4.out).mono ?_); (case side1 => exact k18_); (case side2 => exact k77_); rintro e w8 ⟨rfl, hb⟩; refine ⟨_, rfl, ?_⟩; replace HB := HB.mw hb; (try clear hb)))
   go_meet
   case rel => exact ⟨_, (true), k69_, H', ⟨k72_⟩, ⟨k49_⟩⟩
 case rest =>
  clear HC3
  obtain ⟨kq, x15_2, rfl, HA, HJ2, HB⟩ := hcut
  cases kq with
  | zero => exact absurd HA.out (by simp [impl_GapsUpTo.j0])
  | succ kj2 =>
   have H := HA.out
   clear HA
   simp only [impl_GapsUpTo.j0] at H
   by_cases c9 : x15_2 = true
   ·subst c9
    rw [if_pos rfl] at H
    simp only [Option.some.injEq, Prod.mk.injEq] at H
    obtain ⟨rfl, rfl⟩ := H
    go_wp2
    go_ret2
    exact ⟨_, k46_, k34_, k49_⟩
   ·replace c9 := Bool.eq_false_iff.mpr c9
    subst c9
    rw [if_neg (show ¬ (false = true) by decide)] at H
    obtain ⟨t103, A10, H⟩ := obnd_ H
    (try dsimp only at H)
    obtain ⟨⟨t106, t107⟩, A11, H⟩ := obnd_ H
    (try dsimp only at H)
    simp only [Option.some.injEq, Prod.mk.injEq] at H
    obtain ⟨rfl, rfl⟩ := H
    go_wp2_with (first | ((with_reducible refine gate_callee (f := 61) rfl ?_); refine goesL_ (some 19) rfl rfl Try.func61 (by kernel_rfl) rfl #[.slice A0 l0.length c0, .int .i64 1, .int .i64 a1] rfl k35_ ?_; (with_reducible refine (impl_leftBetween.calls kj2 _ _ l0 1 a1 t103 _ ?side1 ?side2 A10.out).mono ?_); (case side1 => exact k18_); (case side2 => exact k77_); rintro e w12 ⟨v104, rfl, ho0, hb⟩; refine ⟨_, rfl, ?_⟩; have HO105 := Aside0.mk (Kd.R_lower ho0 (below_size k49_)); replace HB := HB.mw hb; (try clear hb ho0); obtain ⟨Ao13, co13, eo13⟩ := Kd.R_slice HO105.out; subst eo13) | ((with_reducible refine gate_callee (f := 81) rfl ?_); refine goesL_ (some 20) rfl rfl Try.func81 (by kernel_rfl) rfl #[.slice Ao13 t103.length co13] rfl k35_ ?_; (with_reducible refine (impl_gapsOf.calls kj2 _ _ t103 t106 t107 _ ?side1 ?side2 A11.out).mono ?_); (case side1 => repeat (first | exact (Kd.R_reads' HO105.out).2.2 | (with_reducible refine Kd.C_alloc ?_ _) | (with_reducible refine Kd.C_drewN ?_ _) | (with_reducible refine Kd.C_drew ?_))); (case side2 => exact (Kd.R_reads' HO105.out).2.1); rintro e w14 ⟨v108, v110, rfl, ho0, ho1, hb⟩; refine ⟨_, rfl, ?_⟩; have HO109 := Aside0.mk (Kd.R_lower (Kd.R_new' ho0 (Kd.R_lt k59_)) (below_size k49_)); have HO111 := Aside0.mk (Kd.R_lower (Kd.R_new' ho1 (Kd.R_lt k59_)) (below_size k49_)); replace HO105 := Aside0.mk (Kd.R_mono (Kd.R_told (Kd.R_told (Kd.R_old k59_ hb) (Kd.R_base ho0)) (Kd.R_base ho1)) (fun _ h_ => h_.1)); replace HB := HB.mw hb; (try clear hb ho0 ho1)))
    go_ret2
    exact ⟨_, k46_, by (with_reducible repeat (first | apply Kd.R_alloc | apply Kd.R_drewN | apply Kd.R_drew)); exact Kd.R_mono HO111.out (fun _ hk => trivial), k49_⟩
end Go.Proofs.Ytdcijdeiaefjpaa.P
namespace Go.Proofs.Ytdcijdeiaefjpaa.P
open Go.RowKit Go.Proofs.YtdcijdeiaefjpaaW.PrintWords Go.Proofs.YtdcijdeiaefjpaaW.PrintLast Go.Proofs.YtdcijdeiaefjpaaW.PrintMore
attribute [local go_sem] max2_int min2_int max_two min_two max_three min_three max_four min_four
set_option linter.unusedVariables false
set_option linter.unusedSimpArgs false
def spec_siMost.f (k : Nat) (l0 : List (SRule)) (a1 : Int) : Option (Bool) := (spec_siGood.f k l0).bind fun t101 => (if t101 = true then ((spec_l1In.f a1 0 600).bind fun t102 => (some t102)) else (some false))
set_option maxHeartbeats 8000000 in
set_option maxRecDepth 100000 in
theorem spec_siMost.calls (k : Nat) (A0 : Option Addr) (c0 : Nat) (l0 : List (SRule)) (a1 : Int) (r : Bool) (w : World) (hr0 : Kd.C kRule w A0 l0.length l0) (hc0 : l0.length ≤ c0) (h : spec_siMost.f k l0 a1 = some r) :
  Calls Try.prog 82 #[.slice A0 l0.length c0, .int .i64 a1] w fun e w' => e = .returned (.bool r) ∧ Below w.heap.size w w' := by
 have HR0 := Aside0.mk hr0
 have HC0 := Aside0.mk hc0
 clear hr0 hc0
 have HB := Aside0.mk (Below.refl w.heap.size w)
 have H : ((spec_siGood.f k l0).bind fun t101 => (if t101 = true then ((spec_l1In.f a1 0 600).bind fun t102 => (some t102)) else (some false))) = some r := h
 clear h
 obtain ⟨t101, A3, H⟩ := obnd_ H
 (try dsimp only at H)
 by_cases c4 : t101 = true
 ·subst c4
  rw [if_pos rfl] at H
  obtain ⟨t102, A5, H⟩ := obnd_ H
  (try dsimp only at H)
  obtain rfl := Option.some.inj H
  go_enter Try.func82, Try.ntmps82
  go_wp2_with (first | ((with_reducible refine gate_callee (f := 68) rfl ?_); refine goesL_ (some 6) rfl rfl Try.func68 (by kernel_rfl) rfl #[.slice A0 l0.length c0] rfl k35_ ?_; (with_reducible refine (spec_siGood.calls k _ _ l0 true _ ?side1 ?side2 A3.out).mono ?_); (case side1 => exact k31_); (case side2 => exact k77_); rintro e w6 ⟨rfl, hb⟩; refine ⟨_, rfl, ?_⟩; replace HB := HB.mw hb; (try clear hb)) | (go_at_call 69; (with_reducible refine (spec_l1In.calls a1 0 600 t102 _ A5.out).mono ?_); rintro e w' ⟨rfl, ⟨nd, rfl⟩⟩))
  go_ret
  exact ⟨k46_, k49_⟩
 ·replace c4 := Bool.eq_false_iff.mpr c4
  subst c4
  rw [if_neg (show ¬ (false = true) by decide)] at H
  obtain rfl := Option.some.inj H
  go_enter Try.func82, Try.ntmps82
  go_wp2_with (first | ((with_reducible refine gate_callee (f := 68) rfl ?_); refine goesL_ (some 6) rfl rfl Try.func68 (by kernel_rfl) rfl #[.slice A0 l0.length c0] rfl k35_ ?_; (with_reducible refine (spec_siGood.calls k _ _ l0 false _ ?side1 ?side2 A3.out).mono ?_); (case side1 => exact k31_); (case side2 => exact k77_); rintro e w7 ⟨rfl, hb⟩; refine ⟨_, rfl, ?_⟩; replace HB := HB.mw hb; (try clear hb)))
  go_ret
  exact ⟨k46_, k49_⟩
end Go.Proofs.Ytdcijdeiaefjpaa.P
namespace Go.Proofs.Ytdcijdeiaefjpaa.P
open Go.RowKit Go.Proofs.YtdcijdeiaefjpaaW.PrintWords Go.Proofs.YtdcijdeiaefjpaaW.PrintLast Go.Proofs.YtdcijdeiaefjpaaW.PrintMore
attribute [local go_sem] max2_int min2_int max_two min_two max_three min_three max_four min_four
set_option linter.unusedVariables false
set_option linter.unusedSimpArgs false
def spec_siList.l0 : Nat → List (SRule) → Int → List Int → Int → Option (List Int)
 | 0, _, _, _, _ => none
 | k + 1, x0, x1, x5, x6 => if x6 ≤ x1 then ((spec_siLeft.f k x0 x6).bind fun t101 => (if t101 = true then (if x5.length < 17592186044416 then (spec_siList.l0 k x0 x1 (x5 ++ [x6]) (wrap64 (x6 + 1))) else (none)) else (spec_siList.l0 k x0 x1 x5 (wrap64 (x6 + 1))))) else (some x5)
def spec_siList.f (k : Nat) (l0 : List (SRule)) (a1 : Int) : Option (List Int) := spec_siList.l0 k l0 a1 ([] : List Int) 1
set_option maxHeartbeats 8000000 in
set_option maxRecDepth 100000 in
theorem spec_siList.calls (k : Nat) (A0 : Option Addr) (c0 : Nat) (l0 : List (SRule)) (a1 : Int) (r : List Int) (w : World) (hr0 : Kd.C kRule w A0 l0.length l0) (hc0 : l0.length ≤ c0) (h : spec_siList.f k l0 a1 = some r) :
  Calls Try.prog 83 #[.slice A0 l0.length c0, .int .i64 a1] w fun e w' => ∃ v0_ : Value, e = .returned (v0_) ∧ Kd.R (Kd.int .i64) 3 w' w.heap.size (fun _ => True) v0_ r ∧ Below w.heap.size w w' := by
 have HR0 := Aside0.mk hr0
 have HC0 := Aside0.mk hc0
 clear hr0 hc0
 have HB := Aside0.mk (Below.refl w.heap.size w)
 have H : (spec_siList.l0 k l0 a1 ([] : List Int) 1) = some r := h
 clear h
 have H' := Aside0.mk H
 clear H
 go_enter Try.func83, Try.ntmps83
 go_wp2
 go_loopg [5, 6] k (fun kq v5 v6 w' => ∃ (x5_1 : List Int) (x6_1 : Int), v6 = .int .i64 x6_1 ∧ Aside0 (spec_siList.l0 kq l0 a1 x5_1 x6_1 = some r) ∧ Aside0 (kq ≤ k) ∧ Aside0 (Kd.R (Kd.int .i64) 3 w' w.heap.size (fun _ => True) v5 x5_1) ∧ Aside0 (Below w.heap.size w w'))
 case atStart => exact ⟨(([] : List Int)), (1), k69_, H', ⟨Nat.le_refl _⟩, ⟨k34_⟩, ⟨k49_⟩⟩
 case round =>
  clear H'
  obtain ⟨x5_1, x6_1, rfl, HA, HK1, HO_5, HB⟩ := hrel
  cases gk with
  | zero => exact absurd HA.out (by simp [spec_siList.l0])
  | succ k1 =>
   have H := HA.out
   clear HA
   simp only [spec_siList.l0] at H
   by_cases c3 : x6_1 ≤ a1
   ·rw [if_pos c3] at H
    have c3b0 : decide (x6_1 ≤ a1) = true := decide_eq_true c3
    clear c3
    obtain ⟨t101, A4, H⟩ := obnd_ H
    (try dsimp only at H)
    by_cases c5 : t101 = true
    ·subst c5
     rw [if_pos rfl] at H
     by_cases c6 : x5_1.length < 17592186044416
     ·rw [if_pos c6] at H
      have LMc6 := Aside0.mk c6
      clear c6
      obtain ⟨y102, hy_⟩ : ∃ y_ : List Int, y_ = (x5_1 ++ [x6_1]) := ⟨_, rfl⟩
      replace H : (spec_siList.l0 k1 l0 a1 y102 (wrap64 (x6_1 + 1))) = some r := k1_
      have Ny102 := Aside0.mk hy_
      clear hy_
      have H' := Aside0.mk H
      clear H
      go_wp2_with (first | ((with_reducible refine gate_callee (f := 87) rfl ?_); refine goesL_ (some 14) rfl rfl Try.func87 (by kernel_rfl) rfl #[.slice A0 l0.length c0, .int .i64 x6_1] rfl k35_ ?_; (with_reducible refine (spec_siLeft.calls k1 _ _ l0 x6_1 true _ ?side1 ?side2 A4.out).mono ?_); (case side1 => exact k18_); (case side2 => exact k77_); rintro e w7 ⟨rfl, hb⟩; refine ⟨_, rfl, ?_⟩; replace HO_5 := HO_5.mw hb; replace HB := HB.mw hb; (try clear hb)) | ((with_reducible refine gate_builtin (b := .append) (xs := #[.tmp 15, .tmp 17]) rfl ?_); at_builtin; refine Kd.R_append (Kd.int .i64) (w0 := w) w.heap.size rfl (.tmp 15) (.tmp 17) 24 3 (.int .i64 0) 8 rfl Try.underlying24 info3 rfl (by decide) (by omega) u5 x5_1 x6_1 [.int .i64 x6_1] (fun _ => True) (fun _ => False) rfl rfl ?aP (fun _ hk => hk.elim) ?aF ?aO ?aB ?aS ?aL ?_; (case aP => exact rfl); (case aB => exact k49_); (case aF => exact (fun _ _ => trivial)); (case aO => exact k63_); (case aS => exact (below_size k49_)); (case aL => have := LMc6.out; omega); intro v103 w8 ho hb hg hat; rw [← Ny102.out] at ho; replace HB := Aside0.mk (hb); have HO104 := Aside0.mk (ho); clear HO_5; clear ho hb hg hat))
      go_roundg k1
      case measure => have := HK1.out; omega
      case rel => exact ⟨(y102), (wrap64 (x6_1 + 1)), k69_, H', ⟨k76_⟩, ⟨k54_⟩, ⟨k49_⟩⟩
     ·rw [if_neg c6] at H
      exact absurd H (by simp)
    ·replace c5 := Bool.eq_false_iff.mpr c5
     subst c5
     rw [if_neg (show ¬ (false = true) by decide)] at H
     have H' := Aside0.mk H
     clear H
     go_wp2_with (first | ((with_reducible refine gate_callee (f := 87) rfl ?_); refine goesL_ (some 14) rfl rfl Try.func87 (by kernel_rfl) rfl #[.slice A0 l0.length c0, .int .i64 x6_1] rfl k35_ ?_; (with_reducible refine (spec_siLeft.calls k1 _ _ l0 x6_1 false _ ?side1 ?side2 A4.out).mono ?_); (case side1 => exact k18_); (case side2 => exact k77_); rintro e w9 ⟨rfl, hb⟩; refine ⟨_, rfl, ?_⟩; replace HO_5 := HO_5.mw hb; replace HB := HB.mw hb; (try clear hb)))
     go_roundg k1
     case measure => have := HK1.out; omega
     case rel => exact ⟨(x5_1), (wrap64 (x6_1 + 1)), k69_, H', ⟨k76_⟩, ⟨k63_⟩, ⟨k49_⟩⟩
   ·rw [if_neg c3] at H
    have c3b0 : decide (x6_1 ≤ a1) = false := decide_eq_false c3
    clear c3
    obtain rfl := Option.some.inj H
    go_wp2
    go_ret
    exact ⟨_, k46_, by (with_reducible repeat (first | apply Kd.R_alloc | apply Kd.R_drewN | apply Kd.R_drew)); exact HO_5.out, k49_⟩
end Go.Proofs.Ytdcijdeiaefjpaa.P
namespace Go.Proofs.Ytdcijdeiaefjpaa.P
open Go.RowKit Go.Proofs.YtdcijdeiaefjpaaW.PrintWords Go.Proofs.YtdcijdeiaefjpaaW.PrintLast Go.Proofs.YtdcijdeiaefjpaaW.PrintMore
attribute [local go_sem] max2_int min2_int max_two min_two max_three min_three max_four min_four
set_option linter.unusedVariables false
set_option linter.unusedSimpArgs false
def spec_GapsUpTo.l0 : Nat → List Int → List Int → Int → Option (List Int × Bool)
 | 0, _, _, _ => none
 | k + 1, x6, x7, x8 => if x8 < (x6.length : Int) then (if 0 ≤ x8 then (if 0 ≤ (wrap64 (x8 - 1)) then (if (wrap64 (x8 - 1)) < (x6.length : Int) then (if x7.length < 17592186044416 then (spec_GapsUpTo.l0 k x6 (x7 ++ [wrap64 ((rd x6 x8) - (rd x6 (wrap64 (x8 - 1))))]) (wrap64 (x8 + 1))) else (none)) else (none)) else (none)) else (none)) else (some (x7, true))
def spec_GapsUpTo.f (k : Nat) (l0 : List (SRule)) (a1 : Int) : Option (List Int × Bool) := (spec_siMost.f k l0 a1).bind fun t101 => (if t101 = true then ((spec_siList.f k l0 a1).bind fun t102 => (spec_GapsUpTo.l0 k t102 ([] : List Int) 1)) else (some (([] : List Int), false)))
def spec_GapsUpTo.T8 : Bool × List (List Nat × List Nat) := (true, [([], []), ([], []), ([], []), ([1, 2], [1, 2]), ([3], [3]), ([], []), ([], []), ([6], [6]), ([5, 7], [5, 7]), ([8], [8]), ([4, 9], [4, 9]), ([10], [10]), ([0, 11], [0, 11]), ([12, 12, 0, 1, 2, 3, 4, 5, 6, 7, 8, 9, 10, 11, 12], [0, 12])])
def spec_GapsUpTo.B8 : List Nat := [0, 0, 0, 6, 14, 0, 0, 64, 224, 480, 1022, 2046, 4095, 8191]
theorem spec_GapsUpTo.tab8 : rtab .any (opsOf Try.f41 8) = spec_GapsUpTo.T8 := by kernel_rfl
theorem spec_GapsUpTo.bits8 : waitsOk spec_GapsUpTo.T8.2 spec_GapsUpTo.B8 = true := by kernel_rfl
set_option maxHeartbeats 8000000 in
set_option maxRecDepth 100000 in
theorem spec_GapsUpTo.calls (k : Nat) (A0 : Option Addr) (c0 : Nat) (l0 : List (SRule)) (a1 : Int) (r1 : List Int) (r2 : Bool) (w : World) (hr0 : Kd.C kRule w A0 l0.length l0) (hc0 : l0.length ≤ c0) (h : spec_GapsUpTo.f k l0 a1 = some (r1, r2)) :
  Calls Try.prog 41 #[.slice A0 l0.length c0, .int .i64 a1] w fun e w' => ∃ v0_ : Value, e = .returned (.tuple #[v0_, .bool r2]) ∧ Kd.R (Kd.int .i64) 3 w' w.heap.size (fun _ => True) v0_ r1 ∧ Below w.heap.size w w' := by
 have HR0 := Aside0.mk hr0
 have HC0 := Aside0.mk hc0
 clear hr0 hc0
 have HB := Aside0.mk (Below.refl w.heap.size w)
 have H : ((spec_siMost.f k l0 a1).bind fun t101 => (if t101 = true then ((spec_siList.f k l0 a1).bind fun t102 => (spec_GapsUpTo.l0 k t102 ([] : List Int) 1)) else (some (([] : List Int), false)))) = some (r1, r2) := h
 clear h
 obtain ⟨t101, A3, H⟩ := obnd_ H
 (try dsimp only at H)
 by_cases c4 : t101 = true
 ·subst c4
  rw [if_pos rfl] at H
  obtain ⟨t102, A5, H⟩ := obnd_ H
  (try dsimp only at H)
  have H' := Aside0.mk H
  clear H
  go_enter Try.func41, Try.ntmps41
  go_wp2_with (first | ((with_reducible refine gate_callee (f := 82) rfl ?_); refine goesL_ (some 11) rfl rfl Try.func82 (by kernel_rfl) rfl #[.slice A0 l0.length c0, .int .i64 a1] rfl k35_ ?_; (with_reducible refine (spec_siMost.calls k _ _ l0 a1 true _ ?side1 ?side2 A3.out).mono ?_); (case side1 => exact k31_); (case side2 => exact k77_); rintro e w6 ⟨rfl, hb⟩; refine ⟨_, rfl, ?_⟩; replace HB := HB.mw hb; (try clear hb)) | ((with_reducible refine gate_callee (f := 83) rfl ?_); refine goesL_ (some 15) rfl rfl Try.func83 (by kernel_rfl) rfl #[.slice A0 l0.length c0, .int .i64 a1] rfl k35_ ?_; (with_reducible refine (spec_siList.calls k _ _ l0 a1 t102 _ ?side1 ?side2 A5.out).mono ?_); (case side1 => exact k18_); (case side2 => exact k77_); rintro e w7 ⟨v103, rfl, ho0, hb⟩; refine ⟨_, rfl, ?_⟩; have HO104 := Aside0.mk (Kd.R_lower ho0 (below_size k49_)); replace HB := HB.mw hb; (try clear hb ho0)))
  go_loopg [7, 8] k (fun kq v7 v8 w' => ∃ (x7_1 : List Int) (x8_1 : Int), v8 = .int .i64 x8_1 ∧ Aside0 (spec_GapsUpTo.l0 kq t102 x7_1 x8_1 = some (r1, r2)) ∧ Aside0 (kq ≤ k) ∧ Aside0 (Kd.R (Kd.int .i64) 3 w' w.heap.size (fun k_ => some k_ ≠ (v7 : Value).ownBlock) v103 t102) ∧ Aside0 (Kd.R (Kd.int .i64) 3 w' w.heap.size (fun k_ => some k_ ≠ (v103 : Value).ownBlock) v7 x7_1) ∧ Aside0 (Below w.heap.size w w'))
  case atStart => exact ⟨(([] : List Int)), (1), k69_, H', ⟨Nat.le_refl _⟩, ⟨k30_⟩, ⟨k34_⟩, ⟨k49_⟩⟩
  case round =>
   clear H'
   (try clear c4)
   obtain ⟨x7_1, x8_1, rfl, HA, HK1, HO_6, HO_7, HB⟩ := hrel
   cases gk with
   | zero => exact absurd HA.out (by simp [spec_GapsUpTo.l0])
   | succ k1 =>
    have H := HA.out
    clear HA
    simp only [spec_GapsUpTo.l0] at H
    by_cases c8 : x8_1 < (t102.length : Int)
    ·rw [if_pos c8] at H
     have c8b0 : decide (x8_1 < (t102.length : Int)) = true := decide_eq_true c8
     clear c8
     by_cases c9 : 0 ≤ x8_1
     ·rw [if_pos c9] at H
      have c9b0 : decide (0 ≤ x8_1) = true := decide_eq_true c9
      clear c9
      obtain ⟨ji10, hji10⟩ : ∃ j_ : Int, (wrap64 (x8_1 - 1)) = j_ := ⟨_, rfl⟩
      replace H : (if 0 ≤ (ji10) then (if (ji10) < (t102.length : Int) then (if x7_1.length < 17592186044416 then (spec_GapsUpTo.l0 k1 t102 (x7_1 ++ [wrap64 ((rd t102 x8_1) - (rd t102 (ji10)))]) (wrap64 (x8_1 + 1))) else (none)) else (none)) else (none)) = some (r1, r2) := by first | (rw [hji10] at H; exact H) | (simp only [hji10] at H ⊢; exact H)
      have hji10w : (IntKind.i64.wrap (x8_1 - 1)) = ji10 := (i64_w _).trans hji10
      by_cases c11 : 0 ≤ (ji10)
      ·rw [if_pos c11] at H
       have c11b0 : decide (0 ≤ (ji10)) = true := decide_eq_true c11
       clear c11
       by_cases c12 : (ji10) < (t102.length : Int)
       ·rw [if_pos c12] at H
        have c12b0 : decide ((ji10) < (t102.length : Int)) = true := decide_eq_true c12
        clear c12
        by_cases c13 : x7_1.length < 17592186044416
        ·rw [if_pos c13] at H
         have LMc13 := Aside0.mk c13
         clear c13
         obtain ⟨y107, hy_⟩ : ∃ y_ : List Int, y_ = (x7_1 ++ [wrap64 ((rd t102 x8_1) - (rd t102 (ji10)))]) := ⟨_, rfl⟩
         replace H : (spec_GapsUpTo.l0 k1 t102 y107 (wrap64 (x8_1 + 1))) = some (r1, r2) := k1_
         have Ny107 := Aside0.mk hy_
         clear hy_
         have H' := Aside0.mk H
         clear H
         obtain ⟨Ao14, co14, eo14⟩ := Kd.R_slice HO_6.out
         subst eo14
         try go_wp2
         have n0_ := Aside0.mk (Kd.R_drew HO_6.out)
         have n1_ := Aside0.mk (Kd.R_drew HO_7.out)
         have n2_ := Aside0.mk (below_drew1 HB.out)
         clear HO_6
         clear HO_7
         clear HB
         have HO_6 := n0_
         have HO_7 := n1_
         have HB := n2_
         clear n0_ n1_ n2_
         have p105 : 0 ≤ (x8_1 : Int) := of_decide_eq_true k68_
         have q105 : x8_1 < (t102.length : Int) := of_decide_eq_true k68_
         obtain ⟨ad105, e105, hx105_0⟩ := Kd.at_int (Kd.R_reads' HO_6.out).2.2 x8_1 p105 q105
         cases e105
         replace p105 := eq_true p105
         replace q105 := eq_true q105
         have p106 : 0 ≤ ((ji10) : Int) := of_decide_eq_true k68_
         have q106 : (ji10) < (t102.length : Int) := of_decide_eq_true k68_
         obtain ⟨ad106, e106, hx106_0⟩ := Kd.at_int (Kd.R_reads' HO_6.out).2.2 (ji10) p106 q106
         obtain rfl : ad105 = ad106 := (by injection e106)
         replace p106 := eq_true p106
         replace q106 := eq_true q106
         refine start_ (n := 14) (S := fun w' => w'.cell? (ad105.add (x8_1).toNat) = some (.int .i64 (rd t102 x8_1)) ∧ w'.cell? (ad105.add ((ji10)).toNat) = some (.int .i64 (rd t102 (ji10)))) (ds := [11, 12]) #[false, false, false, false, false, false, false, false, false, false, false, false, false, false] (by kernel_rfl) rfl rfl ⟨hx105_0, hx106_0⟩ (fun hHeld => ?_); refine with_tabW spec_GapsUpTo.tab8 spec_GapsUpTo.bits8 (fun HT_ HW_ => ?_)
         generalize wr.drew = w15 at HO_6 HO_7 HB hx105_0 hx106_0 hHeld ⊢
         refine pure_ (i := 0) (N := some 22) (v := ?_) (a' := ?_) #[true, false, false, false, false, false, false, false, false, false, false, false, false, false] rfl rfl (any_of HT_.out (by kernel_rfl)) (fun _ _ _ h => h) (Or.inl ⟨by rfl, ?_⟩) ?_ ?_
         rotate_left
         ·intro w'
          go_simp
          with_reducible rfl
         rotate_left
         ·simp only [Act.put, List.setIfInBounds_toArray, List.set_cons_zero, List.set_cons_succ, i64_w, i32_w]
          rfl
         refine pure_ (i := 1) (N := some 23) (v := ?_) (a' := ?_) #[true, true, false, false, false, false, false, false, false, false, false, false, false, false] rfl rfl (any_of HT_.out (by kernel_rfl)) (fun _ _ _ h => h) (Or.inl ⟨by rfl, ?_⟩) ?_ ?_
         rotate_left
         ·intro w'
          go_simp
          with_reducible rfl
         rotate_left
         ·simp only [Act.put, List.setIfInBounds_toArray, List.set_cons_zero, List.set_cons_succ, i64_w, i32_w]
          rfl
         refine pure_ (i := 2) (N := some 24) (v := ?_) (a' := ?_) #[true, true, true, false, false, false, false, false, false, false, false, false, false, false] rfl rfl (any_of HT_.out (by kernel_rfl)) (fun _ _ _ h => h) (Or.inl ⟨by rfl, ?_⟩) ?_ ?_
         rotate_left
         ·intro w'
          go_simp
          with_reducible rfl
         rotate_left
         ·simp only [Act.put, List.setIfInBounds_toArray, List.set_cons_zero, List.set_cons_succ, i64_w, i32_w]
          rfl
         refine pure_ (i := 3) (N := some 25) (v := ?_) (a' := ?_) #[true, true, true, true, false, false, false, false, false, false, false, false, false, false] rfl rfl (any_of HT_.out (by kernel_rfl)) (fun _ _ _ h => h) (Or.inl ⟨by rfl, ?_⟩) ?_ ?_
         rotate_left
         ·intro w'
          go_simp
          with_reducible rfl
         rotate_left
         ·simp only [Act.put, List.setIfInBounds_toArray, List.set_cons_zero, List.set_cons_succ, i64_w, i32_w]
          rfl
         refine pure_ (i := 5) (N := some 27) (v := ?_) (a' := ?_) #[true, true, true, true, false, true, false, false, false, false, false, false, false, false] rfl rfl (any_of HT_.out (by kernel_rfl)) (fun _ _ _ h => h) (Or.inl ⟨by rfl, ?_⟩) ?_ ?_
         rotate_left
         ·intro w'
          go_simp
          with_reducible rfl
         rotate_left
         ·simp only [Act.put, List.setIfInBounds_toArray, List.set_cons_zero, List.set_cons_succ, i64_w, i32_w]
          rfl
         refine pure_ (i := 6) (N := some 28) (v := ?_) (a' := ?_) #[true, true, true, true, false, true, true, false, false, false, false, false, false, false] rfl rfl (any_of HT_.out (by kernel_rfl)) (fun _ _ _ h => h) (Or.inl ⟨by rfl, ?_⟩) ?_ ?_
         rotate_left
         ·intro w'
          go_simp
          with_reducible rfl
         rotate_left
         ·simp only [Act.put, List.setIfInBounds_toArray, List.set_cons_zero, List.set_cons_succ, i64_w, i32_w]
          rfl
         refine pure_ (i := 7) (N := some 29) (v := ?_) (a' := ?_) #[true, true, true, true, false, true, true, true, false, false, false, false, false, false] rfl rfl (any_of HT_.out (by kernel_rfl)) (fun _ _ _ h => h) (Or.inl ⟨by rfl, ?_⟩) ?_ ?_
         rotate_left
         ·intro w'
          go_simp
          with_reducible rfl
         rotate_left
         ·simp only [Act.put, List.setIfInBounds_toArray, List.set_cons_zero, List.set_cons_succ, i64_w, i32_w]
          rfl
         refine pure_ (i := 8) (N := some 30) (v := ?_) (a' := ?_) #[true, true, true, true, false, true, true, true, true, false, false, false, false, false] rfl rfl (any_of HT_.out (by kernel_rfl)) (fun _ _ _ h => h) (Or.inl ⟨by rfl, ?_⟩) ?_ ?_
         rotate_left
         ·intro w'
          go_simp
          with_reducible rfl
         rotate_left
         ·simp only [Act.put, List.setIfInBounds_toArray, List.set_cons_zero, List.set_cons_succ, i64_w, i32_w]
          rfl
         refine take_ (i := 4) (N := some 26) (v := ?_) (a' := ?_) #[true, true, true, true, true, true, true, true, true, false, false, false, false, false] rfl rfl (take_ofW HT_.out HW_.out (by kernel_rfl)) (fun _ _ _ h => h) (Or.inl ⟨by rfl, ?_⟩) hHeld ?_ ?_
         rotate_left
         ·rintro w' ⟨s0, s1⟩
          go_simp
          with_reducible rfl
         rotate_left
         ·simp only [Act.put, List.setIfInBounds_toArray, List.set_cons_zero, List.set_cons_succ, i64_w, i32_w]
          rfl
         refine take_ (i := 9) (N := some 31) (v := ?_) (a' := ?_) #[true, true, true, true, true, true, true, true, true, true, false, false, false, false] rfl rfl (take_ofW HT_.out HW_.out (by kernel_rfl)) (fun _ _ _ h => h) (Or.inl ⟨by rfl, ?_⟩) hHeld ?_ ?_
         rotate_left
         ·rintro w' ⟨s0, s1⟩
          go_simp
          with_reducible rfl
         rotate_left
         ·simp only [Act.put, List.setIfInBounds_toArray, List.set_cons_zero, List.set_cons_succ, i64_w, i32_w]
          rfl
         refine pure_ (i := 10) (N := some 32) (v := ?_) (a' := ?_) #[true, true, true, true, true, true, true, true, true, true, true, false, false, false] rfl rfl (any_of HT_.out (by kernel_rfl)) (fun _ _ _ h => h) (Or.inl ⟨by rfl, ?_⟩) ?_ ?_
         rotate_left
         ·intro w'
          go_simp
          with_reducible rfl
         rotate_left
         ·simp only [Act.put, List.setIfInBounds_toArray, List.set_cons_zero, List.set_cons_succ, i64_w, i32_w]
          rfl
         refine last_ (i := 11) (N := some 33) #[true, true, true, true, true, true, true, true, true, true, true, true, false, false] rfl rfl (one_of HT_.out (by kernel_rfl)) (by decide) (fun K hK => ?_)
         refine value_ (w1 := ?_) (v := ?_) (by rfl) rfl ?_ ?_
         rotate_left 2
         ·go_simp
          constructor
          ·rfl
          ·rfl
         refine hK.out _ _ ?_
         clear hK K
         refine norm_ (a' := ?_) ?_ ?_
         rotate_left
         ·show Act.put _ (some 33) _ = _
          simp only [Act.put, List.setIfInBounds_toArray, List.set_cons_zero, List.set_cons_succ, i64_w, i32_w]
          rfl
         refine last_ (i := 12) (N := some 34) #[true, true, true, true, true, true, true, true, true, true, true, true, true, false] rfl rfl (one_of HT_.out (by kernel_rfl)) (by decide) (fun K hK => ?_)
         refine Kd.R_append_step (Kd.int .i64) (w0 := w) w.heap.size (by rfl) (.tmp 22) (.tmp 33) 24 3 (.int .i64 0) 8 rfl Try.underlying24 info3 rfl (by decide) (by omega) u7 x7_1 (wrap64 ((rd t102 x8_1) - (rd t102 (ji10)))) [.int .i64 (wrap64 ((rd t102 x8_1) - (rd t102 (ji10))))] (fun k_ => some k_ ≠ (.slice (some ad105) t102.length co14 : Value).ownBlock) (fun _ => False) rfl rfl ?aP (fun _ hk => hk.elim) ?aF ?aO ?aB ?aS ?aL ?_
         (case aP => exact rfl)
         (case aB => exact k49_)
         (case aF => exact (fun k_ hk => Kd.fresh' (Kd.R_lt k66_) k_ hk))
         (case aO => exact (by apply_rules only [HO_7.out, Kd.R_alloc, Kd.R_drewN, Kd.R_drew]))
         (case aS => exact (below_size k49_))
         (case aL => have := LMc13.out; omega)
         intro v108 w16 ho hb hg hat
         rw [← Ny107.out] at ho
         have n0_ := Aside0.mk (Kd.R_after (ok := (fun _ => True)) (by (with_reducible repeat (first | apply Kd.R_alloc | apply Kd.R_drewN | apply Kd.R_drew)); exact Kd.R_mono HO_6.out (fun _ hk => ⟨trivial, hk⟩)) hg hat)
         have n1_ := Aside0.mk (hb)
         have n2_ := Aside0.mk (ho)
         clear HO_6
         clear HB
         clear HO_7
         have HO_6 := n0_
         have HB := n1_
         have HO109 := n2_
         clear n0_ n1_ n2_
         clear ho hb hg hat
         refine hK.out _ _ ?_
         clear hK K
         refine norm_ (a' := ?_) ?_ ?_
         rotate_left
         ·show Act.put _ (some 34) _ = _
          simp only [Act.put, List.setIfInBounds_toArray, List.set_cons_zero, List.set_cons_succ, i64_w, i32_w]
          rfl
         refine pure_ (i := 13) (N := some 7) (v := ?_) (a' := ?_) #[true, true, true, true, true, true, true, true, true, true, true, true, true, true] rfl rfl (any_of HT_.out (by kernel_rfl)) (fun _ _ _ h => h) (Or.inl ⟨by rfl, ?_⟩) ?_ ?_
         rotate_left
         ·intro w'
          go_simp
          with_reducible rfl
         rotate_left
         ·simp only [Act.put, List.setIfInBounds_toArray, List.set_cons_zero, List.set_cons_succ, i64_w, i32_w]
          rfl
         refine done_ (done_of HT_.out (by kernel_rfl)) ?_
         try go_wp2
         go_roundg k1
         case measure => have := HK1.out; omega
         case rel => exact ⟨(y107), (wrap64 (x8_1 + 1)), k69_, H', ⟨k76_⟩, ⟨by (with_reducible repeat (first | apply Kd.R_alloc | apply Kd.R_drewN | apply Kd.R_drew)); exact Kd.R_mono HO_6.out (fun _ hk => hk.2)⟩, ⟨k61_⟩, ⟨k49_⟩⟩
        ·rw [if_neg c13] at H
         exact absurd H (by simp)
       ·rw [if_neg c12] at H
        exact absurd H (by simp)
      ·rw [if_neg c11] at H
       exact absurd H (by simp)
     ·rw [if_neg c9] at H
      exact absurd H (by simp)
    ·rw [if_neg c8] at H
     have c8b0 : decide (x8_1 < (t102.length : Int)) = false := decide_eq_false c8
     clear c8
     simp only [Option.some.injEq, Prod.mk.injEq] at H
     obtain ⟨rfl, rfl⟩ := H
     obtain ⟨Ao17, co17, eo17⟩ := Kd.R_slice HO_6.out
     subst eo17
     go_wp2
     go_ret2
     exact ⟨_, k46_, by (with_reducible repeat (first | apply Kd.R_alloc | apply Kd.R_drewN | apply Kd.R_drew)); exact Kd.R_mono HO_7.out (fun _ hk => trivial), k49_⟩
 ·replace c4 := Bool.eq_false_iff.mpr c4
  subst c4
  rw [if_neg (show ¬ (false = true) by decide)] at H
  simp only [Option.some.injEq, Prod.mk.injEq] at H
  obtain ⟨rfl, rfl⟩ := H
  go_enter Try.func41, Try.ntmps41
  go_wp2_with (first | ((with_reducible refine gate_callee (f := 82) rfl ?_); refine goesL_ (some 11) rfl rfl Try.func82 (by kernel_rfl) rfl #[.slice A0 l0.length c0, .int .i64 a1] rfl k35_ ?_; (with_reducible refine (spec_siMost.calls k _ _ l0 a1 false _ ?side1 ?side2 A3.out).mono ?_); (case side1 => exact k31_); (case side2 => exact k77_); rintro e w18 ⟨rfl, hb⟩; refine ⟨_, rfl, ?_⟩; replace HB := HB.mw hb; (try clear hb)))
  go_ret2
  exact ⟨_, k46_, k34_, k49_⟩
end Go.Proofs.Ytdcijdeiaefjpaa.P
namespace Go.Proofs.Ytdcijdeiaefjpaa.P
open Go.RowKit Go.Proofs.YtdcijdeiaefjpaaW.PrintWords Go.Proofs.YtdcijdeiaefjpaaW.PrintLast Go.Proofs.YtdcijdeiaefjpaaW.PrintMore
attribute [local go_sem] max2_int min2_int max_two min_two max_three min_three max_four min_four
set_option linter.unusedVariables false
set_option linter.unusedSimpArgs false
mutual
def impl_RecordGaps.j0 : Nat → List (SRule) → Int → Bool → Option ((List (List Int)) × Bool)
 | 0, _, _, _ => none
 | k + 1, x0, x1, x19 => if x19 = true then (some (([] : List (List Int)), false)) else ((impl_leftBetween.f k x0 1 x1).bind fun t103 => ((impl_gapsOf.f k t103).bind fun bt106 => (impl_RecordGaps.l0 k bt106.1 (([] : List (List Int))) 0 bt106.2 (bt106.2.length : Int) 0)))
def impl_RecordGaps.l0 : Nat → List Int → List (List Int) → Int → List Int → Int → Int → Option ((List (List Int)) × Bool)
 | 0, _, _, _, _, _, _ => none
 | k + 1, x6, x8, x9, x28, x29, x30 => if x30 < x29 then (if 0 ≤ x30 then (if x30 < (x28.length : Int) then (if (rd x28 x30) > x9 then (if x30 < (x6.length : Int) then (if x8.length < 5864062014805 then (impl_RecordGaps.l0 k x6 (x8 ++ [(([rd x6 x30, rd x28 x30] : List Int))]) (rd x28 x30) x28 x29 (wrap64 (x30 + 1))) else (none)) else (none)) else (impl_RecordGaps.l0 k x6 x8 x9 x28 x29 (wrap64 (x30 + 1)))) else (none)) else (none)) else (some (x8, true))
end
def impl_RecordGaps.f (k : Nat) (l0 : List (SRule)) (a1 : Int) : Option ((List (List Int)) × Bool) := (impl_areRules.f l0).bind fun t101 => (if t101 = true then ((impl_isMost.f a1).bind fun t102 => (impl_RecordGaps.j0 k l0 a1 (!t102))) else (impl_RecordGaps.j0 k l0 a1 true))
set_option maxHeartbeats 8000000 in
set_option maxRecDepth 100000 in
theorem impl_RecordGaps.calls (k : Nat) (A0 : Option Addr) (c0 : Nat) (l0 : List (SRule)) (a1 : Int) (r1 : List (List Int)) (r2 : Bool) (w : World) (hr0 : Kd.C kRule w A0 l0.length l0) (hc0 : l0.length ≤ c0) (h : impl_RecordGaps.f k l0 a1 = some (r1, r2)) :
  Calls Try.prog 42 #[.slice A0 l0.length c0, .int .i64 a1] w fun e w' => ∃ v0_ : Value, e = .returned (.tuple #[v0_, .bool r2]) ∧ Kd.S (Kd.slice 3 (Kd.int .i64)) 24 w' w.heap.size (fun _ => True) v0_ r1 ∧ Below w.heap.size w w' := by
 have HR0 := Aside0.mk hr0
 have HC0 := Aside0.mk hc0
 clear hr0 hc0
 have HB := Aside0.mk (Below.refl w.heap.size w)
 have H : ((impl_areRules.f l0).bind fun t101 => (if t101 = true then ((impl_isMost.f a1).bind fun t102 => (impl_RecordGaps.j0 k l0 a1 (!t102))) else (impl_RecordGaps.j0 k l0 a1 true))) = some (r1, r2) := h
 clear h
 have HC3 := Aside0.mk H
 clear H
 go_enter Try.func42, Try.ntmps42
 go_upto_region 1 with (fail)
 go_cut [19] (fun v19 wc => ∃ (kq : Nat) (x19_2 : Bool), v19 = .bool x19_2 ∧ Aside0 (impl_RecordGaps.j0 kq l0 a1 x19_2 = some (r1, r2)) ∧ Aside0 (kq ≤ k) ∧ Aside0 (Below w.heap.size w wc))
 case first =>
  have H := HC3.out
  clear HC3
  obtain ⟨t101, A4, H⟩ := obnd_ H
  (try dsimp only at H)
  by_cases c5 : t101 = true
  ·subst c5
   rw [if_pos rfl] at H
   obtain ⟨t102, A6, H⟩ := obnd_ H
   (try dsimp only at H)
   have H' := Aside0.mk H
   clear H
   go_wp2_with (first | ((with_reducible refine gate_callee (f := 60) rfl ?_); refine goesL_ (some 13) rfl rfl Try.func60 (by kernel_rfl) rfl #[.slice A0 l0.length c0] rfl k35_ ?_; (with_reducible refine (impl_areRules.calls _ _ l0 true _ ?side1 ?side2 A4.out).mono ?_); (case side1 => exact k18_); (case side2 => exact k77_); rintro e w7 ⟨rfl, hb⟩; refine ⟨_, rfl, ?_⟩; replace HB := HB.mw hb; (try clear hb)) | (go_at_call 71; (with_reducible refine (impl_isMost.calls a1 t102 _ A6.out).mono ?_); rintro e w' ⟨rfl, ⟨nd, rfl⟩⟩))
   go_meet
   case rel => exact ⟨_, (!t102), k69_, H', ⟨k72_⟩, ⟨k49_⟩⟩
  ·replace c5 := Bool.eq_false_iff.mpr c5
   subst c5
   rw [if_neg (show ¬ (false = true) by decide)] at H
   have H' := Aside0.mk H
   clear H
   go_wp2_with (first | ((with_reducible refine gate_callee (f := 60) rfl ?_); refine goesL_ (some 13) rfl rfl Try.func60 (by kernel_rfl) rfl #[.slice A0 l0.length c0] rfl k35_ ?_; (with_reducible refine (impl_areRules.calls _ _ l0 false _ ?side1 ?side2 A4.out).mono ?_); (case side1 => exact k18_); (case side2 => exact k77_); rintro e w8 ⟨rfl, hb⟩; refine ⟨_, rfl, ?_⟩; replace HB := HB.mw hb; (try clear hb)))
   go_meet
   case rel => exact ⟨_, (true), k69_, H', ⟨k72_⟩, ⟨k49_⟩⟩
 case rest =>
  clear HC3
  obtain ⟨kq, x19_2, rfl, HA, HJ2, HB⟩ := hcut
  cases kq with
  | zero => exact absurd HA.out (by simp [impl_RecordGaps.j0])
  | succ kj2 =>
   have H := HA.out
   clear HA
   simp only [impl_RecordGaps.j0] at H
   by_cases c9 : x19_2 = true
   ·subst c9
    rw [if_pos rfl] at H
    simp only [Option.some.injEq, Prod.mk.injEq] at H
    obtain ⟨rfl, rfl⟩ := H
    go_wp2
    go_ret2
    exact ⟨_, k46_, by first | exact Kd.S_nil _ _ _ _ _ | exact Kd.N_nil _ _ _ _ _ | exact Kd.V_nil _ _ _ _ _ | exact Kd.Q_nil _ _ _ _ _ | exact Kd.R_nil _ _ _ _ _, k49_⟩
   ·replace c9 := Bool.eq_false_iff.mpr c9
    subst c9
    rw [if_neg (show ¬ (false = true) by decide)] at H
    obtain ⟨t103, A10, H⟩ := obnd_ H
    (try dsimp only at H)
    obtain ⟨⟨t106, t107⟩, A11, H⟩ := obnd_ H
    (try dsimp only at H)
    obtain ⟨y112, hy_⟩ : ∃ y_ : List (List Int), y_ = (([] : List (List Int))) := ⟨_, rfl⟩
    replace H : (impl_RecordGaps.l0 kj2 t106 y112 0 t107 (t107.length : Int) 0) = some (r1, r2) := k1_
    have Ny112 := Aside0.mk hy_
    clear hy_
    have H' := Aside0.mk H
    clear H
    go_wp2_with (first | ((with_reducible refine gate_callee (f := 61) rfl ?_); refine goesL_ (some 23) rfl rfl Try.func61 (by kernel_rfl) rfl #[.slice A0 l0.length c0, .int .i64 1, .int .i64 a1] rfl k35_ ?_; (with_reducible refine (impl_leftBetween.calls kj2 _ _ l0 1 a1 t103 _ ?side1 ?side2 A10.out).mono ?_); (case side1 => exact k18_); (case side2 => exact k77_); rintro e w12 ⟨v104, rfl, ho0, hb⟩; refine ⟨_, rfl, ?_⟩; have HO105 := Aside0.mk (Kd.R_lower ho0 (below_size k49_)); replace HB := HB.mw hb; (try clear hb ho0); obtain ⟨Ao13, co13, eo13⟩ := Kd.R_slice HO105.out; subst eo13) | ((with_reducible refine gate_callee (f := 81) rfl ?_); refine goesL_ (some 24) rfl rfl Try.func81 (by kernel_rfl) rfl #[.slice Ao13 t103.length co13] rfl k35_ ?_; (with_reducible refine (impl_gapsOf.calls kj2 _ _ t103 t106 t107 _ ?side1 ?side2 A11.out).mono ?_); (case side1 => repeat (first | exact (Kd.R_reads' HO105.out).2.2 | (with_reducible refine Kd.C_alloc ?_ _) | (with_reducible refine Kd.C_drewN ?_ _) | (with_reducible refine Kd.C_drew ?_))); (case side2 => exact (Kd.R_reads' HO105.out).2.1); rintro e w14 ⟨v108, v110, rfl, ho0, ho1, hb⟩; refine ⟨_, rfl, ?_⟩; have HO109 := Aside0.mk (Kd.R_lower (Kd.R_new' ho0 (Kd.R_lt k59_)) (below_size k49_)); have HO111 := Aside0.mk (Kd.R_lower (Kd.R_new' ho1 (Kd.R_lt k59_)) (below_size k49_)); replace HO105 := Aside0.mk (Kd.R_mono (Kd.R_told (Kd.R_told (Kd.R_old k59_ hb) (Kd.R_base ho0)) (Kd.R_base ho1)) (fun _ h_ => h_.1)); replace HB := HB.mw hb; (try clear hb ho0 ho1)) | ((with_reducible refine gate_dst (N := 27) rfl ?_); refine Kd.S_lit (Kd.slice 3 (Kd.int .i64)) _ 24 ?hg (N := 27) ?hd (xs := ([] : List (List Int))) (inner := []) (ok := fun _ => True) (okp := fun _ => True) ?hr ?hp (fun _ hk => hk) trivial (Below.refl _ _) (Nat.le_refl _) (by simp) ?_; (case hd => rfl); (case hg => rfl); (case hr => exact k70_); (case hp => exact (Reps.none _ _)); intro v113 w15 ho16 hb hg_ hnew_; clear hg_ hnew_; (first | rw [← Ny112.out] at ho16 | (simp only [Int.reduceToNat] at ho16; rw [← Ny112.out] at ho16)); have HO114 := Aside0.mk (Kd.S_lower (Kd.S_new' (Kd.S_new' (Kd.S_new' ho16 (Kd.R_lt k59_)) (Kd.R_lt k61_)) (Kd.R_lt k51_)) (below_size k49_)); replace HO105 := HO105.mw hb; replace HO109 := HO109.mw hb; replace HO111 := HO111.mw hb; replace HB := HB.mw hb; clear hb ho16; obtain ⟨Ao17, co17, eo17⟩ := Kd.R_slice HO111.out; subst eo17))
    go_loopg [8, 9, 30] kj2 (fun kq v8 v9 v30 w' => ∃ (x8_2 : List (List Int)) (x9_2 : Int) (x30_2 : Int), v9 = .int .i64 x9_2 ∧ v30 = .int .i64 x30_2 ∧ Aside0 (impl_RecordGaps.l0 kq t106 x8_2 x9_2 t107 (t107.length : Int) x30_2 = some (r1, r2)) ∧ Aside0 (kq ≤ kj2) ∧ Aside0 (Kd.R (Kd.int .i64) 3 w' w.heap.size (fun k_ => some k_ ≠ ((.slice Ao17 t107.length co17) : Value).ownBlock) v108 t106) ∧ Aside0 (Kd.S (Kd.slice 3 (Kd.int .i64)) 24 w' w.heap.size (fun k_ => some k_ ≠ (v108 : Value).ownBlock ∧ some k_ ≠ ((.slice Ao17 t107.length co17) : Value).ownBlock) v8 x8_2) ∧ Aside0 (Kd.R (Kd.int .i64) 3 w' w.heap.size (fun k_ => some k_ ≠ (v108 : Value).ownBlock) (.slice Ao17 t107.length co17) t107) ∧ Aside0 (Below w.heap.size w w'))
    case atStart => exact ⟨(y112), (0), (0), k69_, k69_, H', ⟨Nat.le_refl _⟩, ⟨by (with_reducible repeat (first | apply Kd.R_alloc | apply Kd.R_drewN | apply Kd.R_drew)); exact Kd.R_mono HO109.out (fun _ hk => hk.1)⟩, ⟨by (with_reducible repeat (first | apply Kd.S_alloc | apply Kd.S_drewN | apply Kd.S_drew)); exact Kd.S_mono HO114.out (fun _ hk => ⟨hk.1.2, hk.2⟩)⟩, ⟨by (with_reducible repeat (first | apply Kd.R_alloc | apply Kd.R_drewN | apply Kd.R_drew)); exact Kd.R_mono HO111.out (fun _ hk => hk.1)⟩, ⟨k49_⟩⟩
    case round =>
     clear H'
     (try clear c9)
     obtain ⟨x8_2, x9_2, x30_2, rfl, rfl, HA, HK2, HO_6, HO_8, HO_28, HB⟩ := hrel
     cases gk with
     | zero => exact absurd HA.out (by simp [impl_RecordGaps.l0])
     | succ k2 =>
      have H := HA.out
      clear HA
      simp only [impl_RecordGaps.l0] at H
      by_cases c18 : x30_2 < (t107.length : Int)
      ·rw [if_pos c18] at H
       have c18b0 : decide (x30_2 < (t107.length : Int)) = true := decide_eq_true c18
       clear c18
       by_cases c19 : 0 ≤ x30_2
       ·rw [if_pos c19] at H
        have c19b0 : decide (0 ≤ x30_2) = true := decide_eq_true c19
        clear c19
        by_cases c20 : x30_2 < (t107.length : Int)
        ·rw [if_pos c20] at H
         have c20b0 : decide (x30_2 < (t107.length : Int)) = true := decide_eq_true c20
         clear c20
         by_cases c21 : (rd t107 x30_2) > x9_2
         ·rw [if_pos c21] at H
          have c21b0 : decide (x9_2 < (rd t107 x30_2)) = true := decide_eq_true c21
          clear c21
          by_cases c22 : x30_2 < (t106.length : Int)
          ·rw [if_pos c22] at H
           have c22b0 : decide (x30_2 < (t106.length : Int)) = true := decide_eq_true c22
           clear c22
           obtain ⟨y117, hy_⟩ : ∃ y_ : List Int, y_ = (([rd t106 x30_2, rd t107 x30_2] : List Int)) := ⟨_, rfl⟩
           replace H : (if x8_2.length < 5864062014805 then (impl_RecordGaps.l0 k2 t106 (x8_2 ++ [y117]) (rd t107 x30_2) t107 (t107.length : Int) (wrap64 (x30_2 + 1))) else (none)) = some (r1, r2) := k1_
           have Ny117 := Aside0.mk hy_
           clear hy_
           by_cases c23 : x8_2.length < 5864062014805
           ·rw [if_pos c23] at H
            have LMc23 := Aside0.mk c23
            clear c23
            obtain ⟨y120, hy_⟩ : ∃ y_ : List (List Int), y_ = (x8_2 ++ [y117]) := ⟨_, rfl⟩
            replace H : (impl_RecordGaps.l0 k2 t106 y120 (rd t107 x30_2) t107 (t107.length : Int) (wrap64 (x30_2 + 1))) = some (r1, r2) := k1_
            have Ny120 := Aside0.mk hy_
            clear hy_
            have H' := Aside0.mk H
            clear H
            have p115 : 0 ≤ (x30_2 : Int) := of_decide_eq_true k68_
            have q115 : x30_2 < (t107.length : Int) := of_decide_eq_true k68_
            obtain ⟨ad115, e115, hx115_0⟩ := Kd.at_int (Kd.R_reads' HO_28.out).2.2 x30_2 p115 q115
            cases e115
            replace p115 := eq_true p115
            replace q115 := eq_true q115
            obtain ⟨Ao24, co24, eo24⟩ := Kd.R_slice HO_6.out
            subst eo24
            have p116 : 0 ≤ (x30_2 : Int) := of_decide_eq_true k68_
            have q116 : x30_2 < (t106.length : Int) := of_decide_eq_true k68_
            obtain ⟨ad116, e116, hx116_0⟩ := Kd.at_int (Kd.R_reads' HO_6.out).2.2 x30_2 p116 q116
            cases e116
            replace p116 := eq_true p116
            replace q116 := eq_true q116
            go_wp2_with (first | ((with_reducible refine gate_dst (N := 44) rfl ?_); refine Kd.R_lit (Kd.int .i64) _ 3 ?hg (N := 44) ?hd (xs := ([rd t106 x30_2, rd t107 x30_2] : List Int)) (inner := [.int .i64 (rd t106 x30_2), .int .i64 (rd t107 x30_2)]) (ok := fun _ => True) (okp := fun _ => True) ?hr ?hp (fun _ hk => hk) trivial (Below.refl _ _) (Nat.le_refl _) (by simp) ?_; (case hd => rfl); (case hg => rfl); (case hr => exact k70_); (case hp => exact (Reps.one (show Kd.M (Kd.int .i64) _ _ _ (rd t106 x30_2) [.int .i64 (rd t106 x30_2)] from rfl) (Reps.one (show Kd.M (Kd.int .i64) _ _ _ (rd t107 x30_2) [.int .i64 (rd t107 x30_2)] from rfl) (Reps.none _ _)))); intro v118 w25 ho26 hb hg_ hnew_; clear hg_ hnew_; (first | rw [← Ny117.out] at ho26 | (simp only [Int.reduceToNat] at ho26; rw [← Ny117.out] at ho26)); replace HO_8 := Aside0.mk (Kd.S_elder' (by apply_rules only [HO_8.out, Kd.S_alloc, Kd.S_drewN, Kd.S_drew]) (Kd.R_base ho26) hb); have HO119 := Aside0.mk (Kd.R_lower (Kd.R_new' (Kd.R_new' ho26 (Kd.R_lt k66_)) (Kd.R_lt k53_)) (below_size k49_)); replace HO_6 := Aside0.mk (Kd.R_elder' k66_ (Kd.R_base ho26) hb); replace HO_28 := Aside0.mk (Kd.R_elder' k53_ (Kd.R_base ho26) hb); replace HB := HB.mw hb; clear hb ho26; obtain ⟨Ao28, co28, eo28⟩ := Kd.R_slice HO119.out; subst eo28) | ((with_reducible refine gate_builtin (b := .append) (xs := #[.tmp 38, .tmp 45]) rfl ?_); at_builtin; refine Kd.S_append (Kd.slice 3 (Kd.int .i64)) (w0 := w) w.heap.size rfl (.tmp 38) (.tmp 45) 53 24 (.slice none 0 0) 24 rfl Try.underlying53 info24 rfl (by decide) (by omega) u8 x8_2 y117 [.slice Ao28 y117.length co28] (fun k_ => some k_ ≠ (.slice (some ad116) t106.length co24 : Value).ownBlock ∧ some k_ ≠ (.slice (some ad115) t107.length co17 : Value).ownBlock) (fun k_ => some k_ = (.slice Ao28 y117.length co28 : Value).ownBlock) rfl rfl ?aP (fun k_ hk_ => ((Kd.R_mono (ok' := fun k_ => ((fun k_ => some k_ ≠ (.slice (some ad116) t106.length co24 : Value).ownBlock ∧ some k_ ≠ (.slice (some ad115) t107.length co17 : Value).ownBlock)) k_ ∧ some k_ ≠ (u8 : Value).ownBlock) (Kd.R_apart' (HO119.out) (Kd.S_typed HO_8.out) (by decide)) (fun k_ hk => ⟨⟨hk.1.1.2, hk.1.2⟩, hk.2⟩))).1 k_ hk_.symm) ?aF ?aO ?aB ?aS ?aL ?_; (case aP => exact Kd.M_row (Kd.R_mono (Kd.R_tight rfl (Kd.R_mono (ok' := fun k_ => ((fun k_ => some k_ ≠ (.slice (some ad116) t106.length co24 : Value).ownBlock ∧ some k_ ≠ (.slice (some ad115) t107.length co17 : Value).ownBlock)) k_ ∧ some k_ ≠ (u8 : Value).ownBlock) (Kd.R_apart' (HO119.out) (Kd.S_typed HO_8.out) (by decide)) (fun k_ hk => ⟨⟨hk.1.1.2, hk.1.2⟩, hk.2⟩))) (fun _ h_ => h_))); (case aB => exact k49_); (case aF => exact (fun k_ hk => ⟨Kd.fresh' (Kd.R_lt k66_) k_ hk, Kd.fresh' (Kd.R_lt k53_) k_ hk⟩)); (case aO => exact (by (with_reducible repeat (first | apply Kd.S_alloc | apply Kd.S_drewN | apply Kd.S_drew)); exact Kd.S_mono HO_8.out (fun k_ hk => ⟨⟨hk.1.1, hk.1.2⟩, fun e_ => hk.2 e_⟩))); (case aS => exact (below_size k49_)); (case aL => have := LMc23.out; omega); intro v121 w27 ho hb hg hat; rw [← Ny120.out] at ho; replace HO_6 := Aside0.mk (Kd.R_over' k66_ (Kd.S_typed (by apply_rules only [HO_8.out, Kd.S_alloc, Kd.S_drewN, Kd.S_drew])) (by decide) hg); replace HO_28 := Aside0.mk (Kd.R_over' k53_ (Kd.S_typed (by apply_rules only [HO_8.out, Kd.S_alloc, Kd.S_drewN, Kd.S_drew])) (by decide) hg); replace HB := Aside0.mk (hb); have HO122 := Aside0.mk (ho); clear HO_8 HO119; clear ho hb hg hat))
            go_roundg k2
            case measure => have := HJ2.out; have := HK2.out; omega
            case rel => exact ⟨(y120), (rd t107 x30_2), (wrap64 (x30_2 + 1)), k69_, k69_, H', ⟨by have := HJ2.out; have := HK2.out; omega⟩, ⟨by (with_reducible repeat (first | apply Kd.R_alloc | apply Kd.R_drewN | apply Kd.R_drew)); exact Kd.R_mono HO_6.out (fun _ hk => hk.1)⟩, ⟨by apply_rules only [HO122.out, Kd.S_alloc, Kd.S_drewN, Kd.S_drew]⟩, ⟨by (with_reducible repeat (first | apply Kd.R_alloc | apply Kd.R_drewN | apply Kd.R_drew)); exact Kd.R_mono HO_28.out (fun _ hk => hk.1)⟩, ⟨k49_⟩⟩
           ·rw [if_neg c23] at H
            exact absurd H (by simp)
          ·rw [if_neg c22] at H
           exact absurd H (by simp)
         ·rw [if_neg c21] at H
          have c21b0 : decide (x9_2 < (rd t107 x30_2)) = false := decide_eq_false c21
          clear c21
          have H' := Aside0.mk H
          clear H
          have p115 : 0 ≤ (x30_2 : Int) := of_decide_eq_true k68_
          have q115 : x30_2 < (t107.length : Int) := of_decide_eq_true k68_
          obtain ⟨ad115, e115, hx115_0⟩ := Kd.at_int (Kd.R_reads' HO_28.out).2.2 x30_2 p115 q115
          cases e115
          replace p115 := eq_true p115
          replace q115 := eq_true q115
          go_wp2
          go_roundg k2
          case measure => have := HJ2.out; have := HK2.out; omega
          case rel => exact ⟨(x8_2), (x9_2), (wrap64 (x30_2 + 1)), k69_, k69_, H', ⟨by have := HJ2.out; have := HK2.out; omega⟩, ⟨k66_⟩, ⟨by apply_rules only [HO_8.out, Kd.S_alloc, Kd.S_drewN, Kd.S_drew]⟩, ⟨k53_⟩, ⟨k49_⟩⟩
        ·rw [if_neg c20] at H
         exact absurd H (by simp)
       ·rw [if_neg c19] at H
        exact absurd H (by simp)
      ·rw [if_neg c18] at H
       have c18b0 : decide (x30_2 < (t107.length : Int)) = false := decide_eq_false c18
       clear c18
       simp only [Option.some.injEq, Prod.mk.injEq] at H
       obtain ⟨rfl, rfl⟩ := H
       go_wp2
       go_ret2
       exact ⟨_, k46_, by (with_reducible repeat (first | apply Kd.S_alloc | apply Kd.S_drewN | apply Kd.S_drew)); exact Kd.S_mono HO_8.out (fun _ hk => trivial), k49_⟩
end Go.Proofs.Ytdcijdeiaefjpaa.P
namespace Go.Proofs.Ytdcijdeiaefjpaa.P
open Go.RowKit Go.Proofs.YtdcijdeiaefjpaaW.PrintWords Go.Proofs.YtdcijdeiaefjpaaW.PrintLast Go.Proofs.YtdcijdeiaefjpaaW.PrintMore
attribute [local go_sem] max2_int min2_int max_two min_two max_three min_three max_four min_four
set_option linter.unusedVariables false
set_option linter.unusedSimpArgs false
def spec_RecordGaps.l0 : Nat → List Int → List (List Int) → Int → Int → Option ((List (List Int)) × Bool)
 | 0, _, _, _, _ => none
 | k + 1, x6, x7, x8, x9 => if x9 < (x6.length : Int) then (if 0 ≤ x9 then (if 0 ≤ (wrap64 (x9 - 1)) then (if (wrap64 (x9 - 1)) < (x6.length : Int) then (if (wrap64 ((rd x6 x9) - (rd x6 (wrap64 (x9 - 1))))) > x8 then (if x7.length < 5864062014805 then (spec_RecordGaps.l0 k x6 (x7 ++ [(([rd x6 (wrap64 (x9 - 1)), wrap64 ((rd x6 x9) - (rd x6 (wrap64 (x9 - 1))))] : List Int))]) (wrap64 ((rd x6 x9) - (rd x6 (wrap64 (x9 - 1))))) (wrap64 (x9 + 1))) else (none)) else (spec_RecordGaps.l0 k x6 x7 x8 (wrap64 (x9 + 1)))) else (none)) else (none)) else (none)) else (some (x7, true))
def spec_RecordGaps.f (k : Nat) (l0 : List (SRule)) (a1 : Int) : Option ((List (List Int)) × Bool) := (spec_siMost.f k l0 a1).bind fun t101 => (if t101 = true then ((spec_siList.f k l0 a1).bind fun t102 => (spec_RecordGaps.l0 k t102 ([] : List (List Int)) 0 1)) else (some (([] : List (List Int)), false)))
set_option maxHeartbeats 8000000 in
set_option maxRecDepth 100000 in
theorem spec_RecordGaps.calls (k : Nat) (A0 : Option Addr) (c0 : Nat) (l0 : List (SRule)) (a1 : Int) (r1 : List (List Int)) (r2 : Bool) (w : World) (hr0 : Kd.C kRule w A0 l0.length l0) (hc0 : l0.length ≤ c0) (h : spec_RecordGaps.f k l0 a1 = some (r1, r2)) :
  Calls Try.prog 43 #[.slice A0 l0.length c0, .int .i64 a1] w fun e w' => ∃ v0_ : Value, e = .returned (.tuple #[v0_, .bool r2]) ∧ Kd.S (Kd.slice 3 (Kd.int .i64)) 24 w' w.heap.size (fun _ => True) v0_ r1 ∧ Below w.heap.size w w' := by
 have HR0 := Aside0.mk hr0
 have HC0 := Aside0.mk hc0
 clear hr0 hc0
 have HB := Aside0.mk (Below.refl w.heap.size w)
 have H : ((spec_siMost.f k l0 a1).bind fun t101 => (if t101 = true then ((spec_siList.f k l0 a1).bind fun t102 => (spec_RecordGaps.l0 k t102 ([] : List (List Int)) 0 1)) else (some (([] : List (List Int)), false)))) = some (r1, r2) := h
 clear h
 obtain ⟨t101, A3, H⟩ := obnd_ H
 (try dsimp only at H)
 by_cases c4 : t101 = true
 ·subst c4
  rw [if_pos rfl] at H
  obtain ⟨t102, A5, H⟩ := obnd_ H
  (try dsimp only at H)
  have H' := Aside0.mk H
  clear H
  go_enter Try.func43, Try.ntmps43
  go_wp2_with (first | (go_at_call 82; (with_reducible refine (spec_siMost.calls k _ _ l0 a1 true _ ?side1 ?side2 A3.out).mono ?_); (case side1 => exact k31_); (case side2 => exact k77_); rintro e w6 ⟨rfl, hb⟩; replace HB := HB.mw hb; (try clear hb)) | (go_at_call 83; (with_reducible refine (spec_siList.calls k _ _ l0 a1 t102 _ ?side1 ?side2 A5.out).mono ?_); (case side1 => exact k18_); (case side2 => exact k77_); rintro e w7 ⟨v103, rfl, ho0, hb⟩; have HO104 := Aside0.mk (Kd.R_lower ho0 (below_size k49_)); replace HB := HB.mw hb; (try clear hb ho0)))
  repeat (go_quiet (first | (go_at_call 82; (with_reducible refine (spec_siMost.calls k _ _ l0 a1 true _ ?side1 ?side2 A3.out).mono ?_); (case side1 => exact k31_); (case side2 => exact k77_); rintro e w6 ⟨rfl, hb⟩; replace HB := HB.mw hb; (try clear hb)) | (go_at_call 83; (with_reducible refine (spec_siList.calls k _ _ l0 a1 t102 _ ?side1 ?side2 A5.out).mono ?_); (case side1 => exact k18_); (case side2 => exact k77_); rintro e w7 ⟨v103, rfl, ho0, hb⟩; have HO104 := Aside0.mk (Kd.R_lower ho0 (below_size k49_)); replace HB := HB.mw hb; (try clear hb ho0))); try go_wp2_with (first | (go_at_call 82; (with_reducible refine (spec_siMost.calls k _ _ l0 a1 true _ ?side1 ?side2 A3.out).mono ?_); (case side1 => exact k31_); (case side2 => exact k77_); rintro e w6 ⟨rfl, hb⟩; replace HB := HB.mw hb; (try clear hb)) | (go_at_call 83; (with_reducible refine (spec_siList.calls k _ _ l0 a1 t102 _ ?side1 ?side2 A5.out).mono ?_); (case side1 => exact k18_); (case side2 => exact k77_); rintro e w7 ⟨v103, rfl, ho0, hb⟩; have HO104 := Aside0.mk (Kd.R_lower ho0 (below_size k49_)); replace HB := HB.mw hb; (try clear hb ho0))))
  go_loopg [7, 8, 9] k (fun kq v7 v8 v9 w' => ∃ (x7_1 : List (List Int)) (x8_1 : Int) (x9_1 : Int), v8 = .int .i64 x8_1 ∧ v9 = .int .i64 x9_1 ∧ Aside0 (spec_RecordGaps.l0 kq t102 x7_1 x8_1 x9_1 = some (r1, r2)) ∧ Aside0 (kq ≤ k) ∧ Aside0 (Kd.R (Kd.int .i64) 3 w' w.heap.size (fun _ => True) v103 t102) ∧ Aside0 (Kd.S (Kd.slice 3 (Kd.int .i64)) 24 w' w.heap.size (fun k_ => some k_ ≠ (v103 : Value).ownBlock) v7 x7_1) ∧ Aside0 (Below w.heap.size w w'))
  case atStart => exact ⟨(([] : List (List Int))), (0), (1), k69_, k69_, H', ⟨Nat.le_refl _⟩, ⟨k54_⟩, ⟨by first | exact Kd.S_nil _ _ _ _ _ | exact Kd.N_nil _ _ _ _ _ | exact Kd.V_nil _ _ _ _ _ | exact Kd.Q_nil _ _ _ _ _ | exact Kd.R_nil _ _ _ _ _⟩, ⟨k49_⟩⟩
  case round =>
   clear H'
   (try clear c4)
   obtain ⟨x7_1, x8_1, x9_1, rfl, rfl, HA, HK1, HO_6, HO_7, HB⟩ := hrel
   cases gk with
   | zero => exact absurd HA.out (by simp [spec_RecordGaps.l0])
   | succ k1 =>
    have H := HA.out
    clear HA
    simp only [spec_RecordGaps.l0] at H
    by_cases c8 : x9_1 < (t102.length : Int)
    ·rw [if_pos c8] at H
     have c8b0 : decide (x9_1 < (t102.length : Int)) = true := decide_eq_true c8
     clear c8
     by_cases c9 : 0 ≤ x9_1
     ·rw [if_pos c9] at H
      have c9b0 : decide (0 ≤ x9_1) = true := decide_eq_true c9
      clear c9
      obtain ⟨ji10, hji10⟩ : ∃ j_ : Int, (wrap64 (x9_1 - 1)) = j_ := ⟨_, rfl⟩
      replace H : (if 0 ≤ (ji10) then (if (ji10) < (t102.length : Int) then (if (wrap64 ((rd t102 x9_1) - (rd t102 (ji10)))) > x8_1 then (if x7_1.length < 5864062014805 then (spec_RecordGaps.l0 k1 t102 (x7_1 ++ [(([rd t102 (ji10), wrap64 ((rd t102 x9_1) - (rd t102 (ji10)))] : List Int))]) (wrap64 ((rd t102 x9_1) - (rd t102 (ji10)))) (wrap64 (x9_1 + 1))) else (none)) else (spec_RecordGaps.l0 k1 t102 x7_1 x8_1 (wrap64 (x9_1 + 1)))) else (none)) else (none)) = some (r1, r2) := by first | (rw [hji10] at H; exact H) | (simp only [hji10] at H ⊢; exact H)
      have hji10w : (IntKind.i64.wrap (x9_1 - 1)) = ji10 := (i64_w _).trans hji10
      by_cases c11 : 0 ≤ (ji10)
      ·rw [if_pos c11] at H
       have c11b0 : decide (0 ≤ (ji10)) = true := decide_eq_true c11
       clear c11
       by_cases c12 : (ji10) < (t102.length : Int)
       ·rw [if_pos c12] at H
        have c12b0 : decide ((ji10) < (t102.length : Int)) = true := decide_eq_true c12
        clear c12
        by_cases c13 : (wrap64 ((rd t102 x9_1) - (rd t102 (ji10)))) > x8_1
        ·rw [if_pos c13] at H
         have c13b0 : decide (x8_1 < (wrap64 ((rd t102 x9_1) - (rd t102 (ji10))))) = true := decide_eq_true c13
         clear c13
         obtain ⟨y108, hy_⟩ : ∃ y_ : List Int, y_ = (([rd t102 (ji10), wrap64 ((rd t102 x9_1) - (rd t102 (ji10)))] : List Int)) := ⟨_, rfl⟩
         replace H : (if x7_1.length < 5864062014805 then (spec_RecordGaps.l0 k1 t102 (x7_1 ++ [y108]) (wrap64 ((rd t102 x9_1) - (rd t102 (ji10)))) (wrap64 (x9_1 + 1))) else (none)) = some (r1, r2) := k1_
         have Ny108 := Aside0.mk hy_
         clear hy_
         by_cases c14 : x7_1.length < 5864062014805
         ·rw [if_pos c14] at H
          have LMc14 := Aside0.mk c14
          clear c14
          obtain ⟨y111, hy_⟩ : ∃ y_ : List (List Int), y_ = (x7_1 ++ [y108]) := ⟨_, rfl⟩
          replace H : (spec_RecordGaps.l0 k1 t102 y111 (wrap64 ((rd t102 x9_1) - (rd t102 (ji10)))) (wrap64 (x9_1 + 1))) = some (r1, r2) := k1_
          have Ny111 := Aside0.mk hy_
          clear hy_
          have H' := Aside0.mk H
          clear H
          obtain ⟨Ao15, co15, eo15⟩ := Kd.R_slice HO_6.out
          subst eo15
          have p105 : 0 ≤ (x9_1 : Int) := of_decide_eq_true k68_
          have q105 : x9_1 < (t102.length : Int) := of_decide_eq_true k68_
          obtain ⟨ad105, e105, hx105_0⟩ := Kd.at_int (Kd.R_reads' HO_6.out).2.2 x9_1 p105 q105
          cases e105
          replace p105 := eq_true p105
          replace q105 := eq_true q105
          have p106 : 0 ≤ ((ji10) : Int) := of_decide_eq_true k68_
          have q106 : (ji10) < (t102.length : Int) := of_decide_eq_true k68_
          obtain ⟨ad106, e106, hx106_0⟩ := Kd.at_int (Kd.R_reads' HO_6.out).2.2 (ji10) p106 q106
          obtain rfl : ad105 = ad106 := (by injection e106)
          replace p106 := eq_true p106
          replace q106 := eq_true q106
          have p107 : 0 ≤ ((ji10) : Int) := of_decide_eq_true k68_
          have q107 : (ji10) < (t102.length : Int) := of_decide_eq_true k68_
          obtain ⟨ad107, e107, hx107_0⟩ := Kd.at_int (Kd.R_reads' HO_6.out).2.2 (ji10) p107 q107
          obtain rfl : ad105 = ad107 := (by injection e107)
          replace p107 := eq_true p107
          replace q107 := eq_true q107
          go_wp2_with (first | ((with_reducible refine gate_dst (N := 45) rfl ?_); refine Kd.R_lit (Kd.int .i64) _ 3 ?hg (N := 45) ?hd (xs := ([rd t102 (ji10), wrap64 ((rd t102 x9_1) - (rd t102 (ji10)))] : List Int)) (inner := [.int .i64 (rd t102 (ji10)), .int .i64 (wrap64 ((rd t102 x9_1) - (rd t102 (ji10))))]) (ok := fun _ => True) (okp := fun _ => True) ?hr ?hp (fun _ hk => hk) trivial (Below.refl _ _) (Nat.le_refl _) (by simp) ?_; (case hd => rfl); (case hg => rfl); (case hr => exact k70_); (case hp => exact (Reps.one (show Kd.M (Kd.int .i64) _ _ _ (rd t102 (ji10)) [.int .i64 (rd t102 (ji10))] from rfl) (Reps.one (show Kd.M (Kd.int .i64) _ _ _ (wrap64 ((rd t102 x9_1) - (rd t102 (ji10)))) [.int .i64 (wrap64 ((rd t102 x9_1) - (rd t102 (ji10))))] from rfl) (Reps.none _ _)))); intro v109 w16 ho17 hb hg_ hnew_; clear hg_ hnew_; (first | rw [← Ny108.out] at ho17 | (simp only [Int.reduceToNat] at ho17; rw [← Ny108.out] at ho17)); replace HO_7 := Aside0.mk (Kd.S_elder' k62_ (Kd.R_base ho17) hb); have HO110 := Aside0.mk (Kd.R_lower (Kd.R_new' ho17 (Kd.R_lt k66_)) (below_size k49_)); replace HO_6 := Aside0.mk (Kd.R_elder' k66_ (Kd.R_base ho17) hb); replace HB := HB.mw hb; clear hb ho17; obtain ⟨Ao19, co19, eo19⟩ := Kd.R_slice HO110.out; subst eo19) | ((with_reducible refine gate_builtin (b := .append) (xs := #[.tmp 38, .tmp 46]) rfl ?_); at_builtin; refine Kd.S_append (Kd.slice 3 (Kd.int .i64)) (w0 := w) w.heap.size rfl (.tmp 38) (.tmp 46) 53 24 (.slice none 0 0) 24 rfl Try.underlying53 info24 rfl (by decide) (by omega) u7 x7_1 y108 [.slice Ao19 y108.length co19] (fun k_ => some k_ ≠ (.slice (some ad105) t102.length co15 : Value).ownBlock) (fun k_ => some k_ = (.slice Ao19 y108.length co19 : Value).ownBlock) rfl rfl ?aP (fun k_ hk_ => ((Kd.R_mono (ok' := fun k_ => ((fun k_ => some k_ ≠ (.slice (some ad105) t102.length co15 : Value).ownBlock)) k_ ∧ some k_ ≠ (u7 : Value).ownBlock) (Kd.R_apart' (HO110.out) (Kd.S_typed HO_7.out) (by decide)) (fun k_ hk => ⟨hk.1.2, hk.2⟩))).1 k_ hk_.symm) ?aF ?aO ?aB ?aS ?aL ?_; (case aP => exact Kd.M_row (Kd.R_mono (Kd.R_tight rfl (Kd.R_mono (ok' := fun k_ => ((fun k_ => some k_ ≠ (.slice (some ad105) t102.length co15 : Value).ownBlock)) k_ ∧ some k_ ≠ (u7 : Value).ownBlock) (Kd.R_apart' (HO110.out) (Kd.S_typed HO_7.out) (by decide)) (fun k_ hk => ⟨hk.1.2, hk.2⟩))) (fun _ h_ => h_))); (case aB => exact k49_); (case aF => exact (fun k_ hk => Kd.fresh' (Kd.R_lt k66_) k_ hk)); (case aO => exact (by (with_reducible repeat (first | apply Kd.S_alloc | apply Kd.S_drewN | apply Kd.S_drew)); exact Kd.S_mono HO_7.out (fun k_ hk => ⟨hk.1, fun e_ => hk.2 e_⟩))); (case aS => exact (below_size k49_)); (case aL => have := LMc14.out; omega); intro v112 w18 ho hb hg hat; rw [← Ny111.out] at ho; replace HO_6 := Aside0.mk (Kd.R_over' k66_ (Kd.S_typed k62_) (by decide) hg); replace HB := Aside0.mk (hb); have HO113 := Aside0.mk (ho); clear HO_7 HO110; clear ho hb hg hat))
          repeat (go_quiet (first | ((with_reducible refine gate_dst (N := 45) rfl ?_); refine Kd.R_lit (Kd.int .i64) _ 3 ?hg (N := 45) ?hd (xs := ([rd t102 (ji10), wrap64 ((rd t102 x9_1) - (rd t102 (ji10)))] : List Int)) (inner := [.int .i64 (rd t102 (ji10)), .int .i64 (wrap64 ((rd t102 x9_1) - (rd t102 (ji10))))]) (ok := fun _ => True) (okp := fun _ => True) ?hr ?hp (fun _ hk => hk) trivial (Below.refl _ _) (Nat.le_refl _) (by simp) ?_; (case hd => rfl); (case hg => rfl); (case hr => exact k70_); (case hp => exact (Reps.one (show Kd.M (Kd.int .i64) _ _ _ (rd t102 (ji10)) [.int .i64 (rd t102 (ji10))] from rfl) (Reps.one (show Kd.M (Kd.int .i64) _ _ _ (wrap64 ((rd t102 x9_1) - (rd t102 (ji10)))) [.int .i64 (wrap64 ((rd t102 x9_1) - (rd t102 (ji10))))] from rfl) (Reps.none _ _)))); intro v109 w16 ho17 hb hg_ hnew_; clear hg_ hnew_; (first | rw [← Ny108.out] at ho17 | (simp only [Int.reduceToNat] at ho17; rw [← Ny108.out] at ho17)); replace HO_7 := Aside0.mk (Kd.S_elder' k62_ (Kd.R_base ho17) hb); have HO110 := Aside0.mk (Kd.R_lower (Kd.R_new' ho17 (Kd.R_lt k66_)) (below_size k49_)); replace HO_6 := Aside0.mk (Kd.R_elder' k66_ (Kd.R_base ho17) hb); replace HB := HB.mw hb; clear hb ho17; obtain ⟨Ao19, co19, eo19⟩ := Kd.R_slice HO110.out; subst eo19) | ((with_reducible refine gate_builtin (b := .append) (xs := #[.tmp 38, .tmp 46]) rfl ?_); at_builtin; refine Kd.S_append (Kd.slice 3 (Kd.int .i64)) (w0 := w) w.heap.size rfl (.tmp 38) (.tmp 46) 53 24 (.slice none 0 0) 24 rfl Try.underlying53 info24 rfl (by decide) (by omega) u7 x7_1 y108 [.slice Ao19 y108.length co19] (fun k_ => some k_ ≠ (.slice (some ad105) t102.length co15 : Value).ownBlock) (fun k_ => some k_ = (.slice Ao19 y108.length co19 : Value).ownBlock) rfl rfl ?aP (fun k_ hk_ => ((Kd.R_mono (ok' := fun k_ => ((fun k_ => some k_ ≠ (.slice (some ad105) t102.length co15 : Value).ownBlock)) k_ ∧ some k_ ≠ (u7 : Value).ownBlock) (Kd.R_apart' (HO110.out) (Kd.S_typed HO_7.out) (by decide)) (fun k_ hk => ⟨hk.1.2, hk.2⟩))).1 k_ hk_.symm) ?aF ?aO ?aB ?aS ?aL ?_; (case aP => exact Kd.M_row (Kd.R_mono (Kd.R_tight rfl (Kd.R_mono (ok' := fun k_ => ((fun k_ => some k_ ≠ (.slice (some ad105) t102.length co15 : Value).ownBlock)) k_ ∧ some k_ ≠ (u7 : Value).ownBlock) (Kd.R_apart' (HO110.out) (Kd.S_typed HO_7.out) (by decide)) (fun k_ hk => ⟨hk.1.2, hk.2⟩))) (fun _ h_ => h_))); (case aB => exact k49_); (case aF => exact (fun k_ hk => Kd.fresh' (Kd.R_lt k66_) k_ hk)); (case aO => exact (by (with_reducible repeat (first | apply Kd.S_alloc | apply Kd.S_drewN | apply Kd.S_drew)); exact Kd.S_mono HO_7.out (fun k_ hk => ⟨hk.1, fun e_ => hk.2 e_⟩))); (case aS => exact (below_size k49_)); (case aL => have := LMc14.out; omega); intro v112 w18 ho hb hg hat; rw [← Ny111.out] at ho; replace HO_6 := Aside0.mk (Kd.R_over' k66_ (Kd.S_typed k62_) (by decide) hg); replace HB := Aside0.mk (hb); have HO113 := Aside0.mk (ho); clear HO_7 HO110; clear ho hb hg hat)); try go_wp2_with (first | ((with_reducible refine gate_dst (N := 45) rfl ?_); refine Kd.R_lit (Kd.int .i64) _ 3 ?hg (N := 45) ?hd (xs := ([rd t102 (ji10), wrap64 ((rd t102 x9_1) - (rd t102 (ji10)))] : List Int)) (inner := [.int .i64 (rd t102 (ji10)), .int .i64 (wrap64 ((rd t102 x9_1) - (rd t102 (ji10))))]) (ok := fun _ => True) (okp := fun _ => True) ?hr ?hp (fun _ hk => hk) trivial (Below.refl _ _) (Nat.le_refl _) (by simp) ?_; (case hd => rfl); (case hg => rfl); (case hr => exact k70_); (case hp => exact (Reps.one (show Kd.M (Kd.int .i64) _ _ _ (rd t102 (ji10)) [.int .i64 (rd t102 (ji10))] from rfl) (Reps.one (show Kd.M (Kd.int .i64) _ _ _ (wrap64 ((rd t102 x9_1) - (rd t102 (ji10)))) [.int .i64 (wrap64 ((rd t102 x9_1) - (rd t102 (ji10))))] from rfl) (Reps.none _ _)))); intro v109 w16 ho17 hb hg_ hnew_; clear hg_ hnew_; (first | rw [← Ny108.out] at ho17 | (simp only [Int.reduceToNat] at ho17; rw [← Ny108.out] at ho17)); replace HO_7 := Aside0.mk (Kd.S_elder' k62_ (Kd.R_base ho17) hb); have HO110 := Aside0.mk (Kd.R_lower (Kd.R_new' ho17 (Kd.R_lt k66_)) (below_size k49_)); replace HO_6 := Aside0.mk (Kd.R_elder' k66_ (Kd.R_base ho17) hb); replace HB := HB.mw hb; clear hb ho17; obtain ⟨Ao19, co19, eo19⟩ := Kd.R_slice HO110.out; subst eo19) | ((with_reducible refine gate_builtin (b := .append) (xs := #[.tmp 38, .tmp 46]) rfl ?_); at_builtin; refine Kd.S_append (Kd.slice 3 (Kd.int .i64)) (w0 := w) w.heap.size rfl (.tmp 38) (.tmp 46) 53 24 (.slice none 0 0) 24 rfl Try.underlying53 info24 rfl (by decide) (by omega) u7 x7_1 y108 [.slice Ao19 y108.length co19] (fun k_ => some k_ ≠ (.slice (some ad105) t102.length co15 : Value).ownBlock) (fun k_ => some k_ = (.slice Ao19 y108.length co19 : Value).ownBlock) rfl rfl ?aP (fun k_ hk_ => ((Kd.R_mono (ok' := fun k_ => ((fun k_ => some k_ ≠ (.slice (some ad105) t102.length co15 : Value).ownBlock)) k_ ∧ some k_ ≠ (u7 : Value).ownBlock) (Kd.R_apart' (HO110.out) (Kd.S_typed HO_7.out) (by decide)) (fun k_ hk => ⟨hk.1.2, hk.2⟩))).1 k_ hk_.symm) ?aF ?aO ?aB ?aS ?aL ?_; (case aP => exact Kd.M_row (Kd.R_mono (Kd.R_tight rfl (Kd.R_mono (ok' := fun k_ => ((fun k_ => some k_ ≠ (.slice (some ad105) t102.length co15 : Value).ownBlock)) k_ ∧ some k_ ≠ (u7 : Value).ownBlock) (Kd.R_apart' (HO110.out) (Kd.S_typed HO_7.out) (by decide)) (fun k_ hk => ⟨hk.1.2, hk.2⟩))) (fun _ h_ => h_))); (case aB => exact k49_); (case aF => exact (fun k_ hk => Kd.fresh' (Kd.R_lt k66_) k_ hk)); (case aO => exact (by (with_reducible repeat (first | apply Kd.S_alloc | apply Kd.S_drewN | apply Kd.S_drew)); exact Kd.S_mono HO_7.out (fun k_ hk => ⟨hk.1, fun e_ => hk.2 e_⟩))); (case aS => exact (below_size k49_)); (case aL => have := LMc14.out; omega); intro v112 w18 ho hb hg hat; rw [← Ny111.out] at ho; replace HO_6 := Aside0.mk (Kd.R_over' k66_ (Kd.S_typed k62_) (by decide) hg); replace HB := Aside0.mk (hb); have HO113 := Aside0.mk (ho); clear HO_7 HO110; clear ho hb hg hat)))
          go_roundg k1
          case measure => have := HK1.out; omega
          case rel => exact ⟨(y111), (wrap64 ((rd t102 x9_1) - (rd t102 (ji10)))), (wrap64 (x9_1 + 1)), (by first | rfl | (simp; done) | (simp only [← hji10] <;> (first | rfl | simp)) | (simp [*]; done)), k69_, H', ⟨k76_⟩, ⟨by (with_reducible repeat (first | apply Kd.R_alloc | apply Kd.R_drewN | apply Kd.R_drew)); exact Kd.R_mono HO_6.out (fun _ hk => trivial)⟩, ⟨by apply_rules only [HO113.out, Kd.S_alloc, Kd.S_drewN, Kd.S_drew]⟩, ⟨k49_⟩⟩
         ·rw [if_neg c14] at H
          exact absurd H (by simp)
        ·rw [if_neg c13] at H
         have c13b0 : decide (x8_1 < (wrap64 ((rd t102 x9_1) - (rd t102 (ji10))))) = false := decide_eq_false c13
         clear c13
         have H' := Aside0.mk H
         clear H
         obtain ⟨Ao20, co20, eo20⟩ := Kd.R_slice HO_6.out
         subst eo20
         have p105 : 0 ≤ (x9_1 : Int) := of_decide_eq_true k68_
         have q105 : x9_1 < (t102.length : Int) := of_decide_eq_true k68_
         obtain ⟨ad105, e105, hx105_0⟩ := Kd.at_int (Kd.R_reads' HO_6.out).2.2 x9_1 p105 q105
         cases e105
         replace p105 := eq_true p105
         replace q105 := eq_true q105
         have p106 : 0 ≤ ((ji10) : Int) := of_decide_eq_true k68_
         have q106 : (ji10) < (t102.length : Int) := of_decide_eq_true k68_
         obtain ⟨ad106, e106, hx106_0⟩ := Kd.at_int (Kd.R_reads' HO_6.out).2.2 (ji10) p106 q106
         obtain rfl : ad105 = ad106 := (by injection e106)
         replace p106 := eq_true p106
         replace q106 := eq_true q106
         go_wp2
         repeat (go_quiet (fail); try go_wp2)
         go_roundg k1
         case measure => have := HK1.out; omega
         case rel => exact ⟨(x7_1), (x8_1), (wrap64 (x9_1 + 1)), k69_, k69_, H', ⟨k76_⟩, ⟨k66_⟩, ⟨k62_⟩, ⟨k49_⟩⟩
       ·rw [if_neg c12] at H
        exact absurd H (by simp)
      ·rw [if_neg c11] at H
       exact absurd H (by simp)
     ·rw [if_neg c9] at H
      exact absurd H (by simp)
    ·rw [if_neg c8] at H
     have c8b0 : decide (x9_1 < (t102.length : Int)) = false := decide_eq_false c8
     clear c8
     simp only [Option.some.injEq, Prod.mk.injEq] at H
     obtain ⟨rfl, rfl⟩ := H
     obtain ⟨Ao21, co21, eo21⟩ := Kd.R_slice HO_6.out
     subst eo21
     go_wp2
     repeat (go_quiet (fail); try go_wp2)
     go_ret2
     exact ⟨_, k46_, by (with_reducible repeat (first | apply Kd.S_alloc | apply Kd.S_drewN | apply Kd.S_drew)); exact Kd.S_mono HO_7.out (fun _ hk => trivial), k49_⟩
 ·replace c4 := Bool.eq_false_iff.mpr c4
  subst c4
  rw [if_neg (show ¬ (false = true) by decide)] at H
  simp only [Option.some.injEq, Prod.mk.injEq] at H
  obtain ⟨rfl, rfl⟩ := H
  go_enter Try.func43, Try.ntmps43
  go_wp2_with (first | (go_at_call 82; (with_reducible refine (spec_siMost.calls k _ _ l0 a1 false _ ?side1 ?side2 A3.out).mono ?_); (case side1 => exact k31_); (case side2 => exact k77_); rintro e w22 ⟨rfl, hb⟩; replace HB := HB.mw hb; (try clear hb)))
  repeat (go_quiet (first | (go_at_call 82; (with_reducible refine (spec_siMost.calls k _ _ l0 a1 false _ ?side1 ?side2 A3.out).mono ?_); (case side1 => exact k31_); (case side2 => exact k77_); rintro e w22 ⟨rfl, hb⟩; replace HB := HB.mw hb; (try clear hb))); try go_wp2_with (first | (go_at_call 82; (with_reducible refine (spec_siMost.calls k _ _ l0 a1 false _ ?side1 ?side2 A3.out).mono ?_); (case side1 => exact k31_); (case side2 => exact k77_); rintro e w22 ⟨rfl, hb⟩; replace HB := HB.mw hb; (try clear hb))))
  go_ret2
  exact ⟨_, k46_, by first | exact Kd.S_nil _ _ _ _ _ | exact Kd.N_nil _ _ _ _ _ | exact Kd.V_nil _ _ _ _ _ | exact Kd.Q_nil _ _ _ _ _ | exact Kd.R_nil _ _ _ _ _, k49_⟩
end Go.Proofs.Ytdcijdeiaefjpaa.P
namespace Go.Proofs.Ytdcijdeiaefjpaa.P
open Go.RowKit Go.Proofs.YtdcijdeiaefjpaaW.PrintWords Go.Proofs.YtdcijdeiaefjpaaW.PrintLast Go.Proofs.YtdcijdeiaefjpaaW.PrintMore
attribute [local go_sem] max2_int min2_int max_two min_two max_three min_three max_four min_four
set_option linter.unusedVariables false
set_option linter.unusedSimpArgs false
def laws_tRows.l0 : Nat → List (List Int) → List (List Int) → Int → Int → Option (Bool)
 | 0, _, _, _, _ => none
 | k + 1, x0, x1, x12, x13 => if x13 < x12 then (if 0 ≤ x13 then (if x13 < (x0.length : Int) then (if x13 < (x1.length : Int) then ((laws_tSame.f k (rd_Ints x0 x13) (rd_Ints x1 x13)).bind fun t103 => (if t103 = true then (laws_tRows.l0 k x0 x1 x12 (wrap64 (x13 + 1))) else (some false))) else (none)) else (none)) else (none)) else (some true)
def laws_tRows.f (k : Nat) (l0 : List (List Int)) (l1 : List (List Int)) : Option (Bool) := if (l0.length : Int) = (l1.length : Int) then (laws_tRows.l0 k l0 l1 (l0.length : Int) 0) else (some false)
set_option maxHeartbeats 8000000 in
set_option maxRecDepth 100000 in
theorem laws_tRows.calls (k : Nat) (A0 : Option Addr) (c0 : Nat) (l0 : List (List Int)) (A1 : Option Addr) (c1 : Nat) (l1 : List (List Int)) (r : Bool) (w : World) (hr0 : Kd.C (Kd.slice 3 (Kd.int .i64)) w A0 l0.length l0) (hc0 : l0.length ≤ c0) (hr1 : Kd.C (Kd.slice 3 (Kd.int .i64)) w A1 l1.length l1) (hc1 : l1.length ≤ c1) (h : laws_tRows.f k l0 l1 = some r) :
  Calls Try.prog 44 #[.slice A0 l0.length c0, .slice A1 l1.length c1] w fun e w' => e = .returned (.bool r) ∧ Drawn0 w w' := by
 have HR0 := Aside0.mk hr0
 have HC0 := Aside0.mk hc0
 clear hr0 hc0
 have HR1 := Aside0.mk hr1
 have HC1 := Aside0.mk hc1
 clear hr1 hc1
 have H : (if (l0.length : Int) = (l1.length : Int) then (laws_tRows.l0 k l0 l1 (l0.length : Int) 0) else (some false)) = some r := h
 clear h
 by_cases c3 : (l0.length : Int) = (l1.length : Int)
 ·rw [if_pos c3] at H
  have c3b0 : ((l0.length : Int) == (l1.length : Int)) = true := beq_iff_eq.mpr c3
  have c3b1 : ((l0.length : Int) != (l1.length : Int)) = false := bne_eq_false_iff_eq.mpr c3
  have c3b2 : (l0.length == l1.length) = true := by first | simpa using c3 | (simp at c3 ⊢; omega)
  clear c3
  have H' := Aside0.mk H
  clear H
  go_enter Try.func44, Try.ntmps44
  go_wp2
  repeat (go_quiet (fail); try go_wp2)
  go_loopg [13] k (fun kq v13 w' => ∃ (x13_1 : Int), v13 = .int .i64 x13_1 ∧ Aside0 (laws_tRows.l0 kq l0 l1 (l0.length : Int) x13_1 = some r) ∧ Aside0 (kq ≤ k) ∧ Drawn0 w w')
  case atStart => exact ⟨(0), k69_, H', ⟨Nat.le_refl _⟩, k67_⟩
  case round =>
   clear H'
   (try clear c3); (try clear c3b0); (try clear c3b1); (try clear c3b2)
   obtain ⟨x13_1, rfl, HA, HK1, ⟨m1, rfl⟩⟩ := hrel
   cases gk with
   | zero => exact absurd HA.out (by simp [laws_tRows.l0])
   | succ k1 =>
    have H := HA.out
    clear HA
    simp only [laws_tRows.l0] at H
    by_cases c4 : x13_1 < (l0.length : Int)
    ·rw [if_pos c4] at H
     have c4b0 : decide (x13_1 < (l0.length : Int)) = true := decide_eq_true c4
     clear c4
     by_cases c5 : 0 ≤ x13_1
     ·rw [if_pos c5] at H
      have c5b0 : decide (0 ≤ x13_1) = true := decide_eq_true c5
      clear c5
      by_cases c6 : x13_1 < (l0.length : Int)
      ·rw [if_pos c6] at H
       have c6b0 : decide (x13_1 < (l0.length : Int)) = true := decide_eq_true c6
       clear c6
       by_cases c7 : x13_1 < (l1.length : Int)
       ·rw [if_pos c7] at H
        have c7b0 : decide (x13_1 < (l1.length : Int)) = true := decide_eq_true c7
        clear c7
        obtain ⟨t103, A8, H⟩ := obnd_ H
        (try dsimp only at H)
        by_cases c9 : t103 = true
        ·subst c9
         rw [if_pos rfl] at H
         have H' := Aside0.mk H
         clear H
         have p101 : 0 ≤ (x13_1 : Int) := of_decide_eq_true k68_
         have q101 : x13_1 < (l0.length : Int) := of_decide_eq_true k68_
         obtain ⟨ad101, A101_0, c101_0, e101, hx101_0, hl101_0, hi101_0⟩ := at_Ints HR0.out x13_1 p101 q101
         cases e101
         have HR101_0 := Aside0.mk hi101_0
         have HC101_0 := Aside0.mk hl101_0
         clear hi101_0 hl101_0
         replace p101 := eq_true p101
         replace q101 := eq_true q101
         have p102 : 0 ≤ (x13_1 : Int) := of_decide_eq_true k68_
         have q102 : x13_1 < (l1.length : Int) := of_decide_eq_true k68_
         obtain ⟨ad102, A102_0, c102_0, e102, hx102_0, hl102_0, hi102_0⟩ := at_Ints HR1.out x13_1 p102 q102
         cases e102
         have HR102_0 := Aside0.mk hi102_0
         have HC102_0 := Aside0.mk hl102_0
         clear hi102_0 hl102_0
         replace p102 := eq_true p102
         replace q102 := eq_true q102
         go_wp2_with (first | (go_at_call 30; (with_reducible refine (laws_tSame.calls k1 _ _ (rd_Ints l0 x13_1) _ _ (rd_Ints l1 x13_1) true _ ?side1 ?side2 ?side3 ?side4 A8.out).mono ?_); (case side1 => exact k29_); (case side2 => exact HC101_0.out); (case side3 => exact k28_); (case side4 => exact HC102_0.out); rintro e w' ⟨rfl, ⟨nd, rfl⟩⟩; (try first | exact ⟨rfl, _, World.drewN_drewN _ _ _⟩ | exact ⟨rfl, _, Eq.trans (World.drewN_drewN _ _ _) (congrArg (World.drewN _) (Nat.add_assoc _ _ _))⟩)))
         repeat (go_quiet (first | (go_at_call 30; (with_reducible refine (laws_tSame.calls k1 _ _ (rd_Ints l0 x13_1) _ _ (rd_Ints l1 x13_1) true _ ?side1 ?side2 ?side3 ?side4 A8.out).mono ?_); (case side1 => exact k29_); (case side2 => exact HC101_0.out); (case side3 => exact k28_); (case side4 => exact HC102_0.out); rintro e w' ⟨rfl, ⟨nd, rfl⟩⟩; (try first | exact ⟨rfl, _, World.drewN_drewN _ _ _⟩ | exact ⟨rfl, _, Eq.trans (World.drewN_drewN _ _ _) (congrArg (World.drewN _) (Nat.add_assoc _ _ _))⟩))); try go_wp2_with (first | (go_at_call 30; (with_reducible refine (laws_tSame.calls k1 _ _ (rd_Ints l0 x13_1) _ _ (rd_Ints l1 x13_1) true _ ?side1 ?side2 ?side3 ?side4 A8.out).mono ?_); (case side1 => exact k29_); (case side2 => exact HC101_0.out); (case side3 => exact k28_); (case side4 => exact HC102_0.out); rintro e w' ⟨rfl, ⟨nd, rfl⟩⟩; (try first | exact ⟨rfl, _, World.drewN_drewN _ _ _⟩ | exact ⟨rfl, _, Eq.trans (World.drewN_drewN _ _ _) (congrArg (World.drewN _) (Nat.add_assoc _ _ _))⟩))))
         go_roundg k1
         case measure => have := HK1.out; omega
         case rel => exact ⟨(wrap64 (x13_1 + 1)), k69_, H', ⟨k76_⟩, k67_⟩
        ·replace c9 := Bool.eq_false_iff.mpr c9
         subst c9
         rw [if_neg (show ¬ (false = true) by decide)] at H
         obtain rfl := Option.some.inj H
         have p101 : 0 ≤ (x13_1 : Int) := of_decide_eq_true k68_
         have q101 : x13_1 < (l0.length : Int) := of_decide_eq_true k68_
         obtain ⟨ad101, A101_0, c101_0, e101, hx101_0, hl101_0, hi101_0⟩ := at_Ints HR0.out x13_1 p101 q101
         cases e101
         have HR101_0 := Aside0.mk hi101_0
         have HC101_0 := Aside0.mk hl101_0
         clear hi101_0 hl101_0
         replace p101 := eq_true p101
         replace q101 := eq_true q101
         have p102 : 0 ≤ (x13_1 : Int) := of_decide_eq_true k68_
         have q102 : x13_1 < (l1.length : Int) := of_decide_eq_true k68_
         obtain ⟨ad102, A102_0, c102_0, e102, hx102_0, hl102_0, hi102_0⟩ := at_Ints HR1.out x13_1 p102 q102
         cases e102
         have HR102_0 := Aside0.mk hi102_0
         have HC102_0 := Aside0.mk hl102_0
         clear hi102_0 hl102_0
         replace p102 := eq_true p102
         replace q102 := eq_true q102
         go_wp2_with (first | (go_at_call 30; (with_reducible refine (laws_tSame.calls k1 _ _ (rd_Ints l0 x13_1) _ _ (rd_Ints l1 x13_1) false _ ?side1 ?side2 ?side3 ?side4 A8.out).mono ?_); (case side1 => exact k29_); (case side2 => exact HC101_0.out); (case side3 => exact k28_); (case side4 => exact HC102_0.out); rintro e w' ⟨rfl, ⟨nd, rfl⟩⟩; (try first | exact ⟨rfl, _, World.drewN_drewN _ _ _⟩ | exact ⟨rfl, _, Eq.trans (World.drewN_drewN _ _ _) (congrArg (World.drewN _) (Nat.add_assoc _ _ _))⟩)))
         repeat (go_quiet (first | (go_at_call 30; (with_reducible refine (laws_tSame.calls k1 _ _ (rd_Ints l0 x13_1) _ _ (rd_Ints l1 x13_1) false _ ?side1 ?side2 ?side3 ?side4 A8.out).mono ?_); (case side1 => exact k29_); (case side2 => exact HC101_0.out); (case side3 => exact k28_); (case side4 => exact HC102_0.out); rintro e w' ⟨rfl, ⟨nd, rfl⟩⟩; (try first | exact ⟨rfl, _, World.drewN_drewN _ _ _⟩ | exact ⟨rfl, _, Eq.trans (World.drewN_drewN _ _ _) (congrArg (World.drewN _) (Nat.add_assoc _ _ _))⟩))); try go_wp2_with (first | (go_at_call 30; (with_reducible refine (laws_tSame.calls k1 _ _ (rd_Ints l0 x13_1) _ _ (rd_Ints l1 x13_1) false _ ?side1 ?side2 ?side3 ?side4 A8.out).mono ?_); (case side1 => exact k29_); (case side2 => exact HC101_0.out); (case side3 => exact k28_); (case side4 => exact HC102_0.out); rintro e w' ⟨rfl, ⟨nd, rfl⟩⟩; (try first | exact ⟨rfl, _, World.drewN_drewN _ _ _⟩ | exact ⟨rfl, _, Eq.trans (World.drewN_drewN _ _ _) (congrArg (World.drewN _) (Nat.add_assoc _ _ _))⟩))))
         go_ret
         exact ⟨k69_, k67_⟩
       ·rw [if_neg c7] at H
        exact absurd H (by simp)
      ·rw [if_neg c6] at H
       exact absurd H (by simp)
     ·rw [if_neg c5] at H
      exact absurd H (by simp)
    ·rw [if_neg c4] at H
     have c4b0 : decide (x13_1 < (l0.length : Int)) = false := decide_eq_false c4
     clear c4
     obtain rfl := Option.some.inj H
     go_wp2
     repeat (go_quiet (fail); try go_wp2)
     go_ret
     exact ⟨k69_, k67_⟩
 ·rw [if_neg c3] at H
  have c3b0 : ((l0.length : Int) == (l1.length : Int)) = false := beq_eq_false_iff_ne.mpr c3
  have c3b1 : ((l0.length : Int) != (l1.length : Int)) = true := bne_iff_ne.mpr c3
  have c3b2 : (l0.length == l1.length) = false := by first | simpa using c3 | (simp at c3 ⊢; omega)
  obtain rfl := Option.some.inj H
  go_enter Try.func44, Try.ntmps44
  go_wp2
  repeat (go_quiet (fail); try go_wp2)
  go_ret
  exact ⟨k69_, k67_⟩
end Go.Proofs.Ytdcijdeiaefjpaa.P
namespace Go.Proofs.Ytdcijdeiaefjpaa.P
open Go.RowKit Go.Proofs.YtdcijdeiaefjpaaW.PrintWords Go.Proofs.YtdcijdeiaefjpaaW.PrintLast Go.Proofs.YtdcijdeiaefjpaaW.PrintMore
attribute [local go_sem] max2_int min2_int max_two min_two max_three min_three max_four min_four
set_option linter.unusedVariables false
set_option linter.unusedSimpArgs false
def impl_LeftUpTo.f (k : Nat) (l0 : List (SRule)) (a1 : Int) : Option (List Int × Bool) := (impl_areRules.f l0).bind fun t101 => (if t101 = true then ((impl_isMost.f a1).bind fun t102 => (if t102 = true then ((impl_leftBetween.f k l0 1 a1).bind fun t103 => (some (t103, true))) else (some (([] : List Int), false)))) else (some (([] : List Int), false)))
set_option maxHeartbeats 8000000 in
set_option maxRecDepth 100000 in
theorem impl_LeftUpTo.calls (k : Nat) (A0 : Option Addr) (c0 : Nat) (l0 : List (SRule)) (a1 : Int) (r1 : List Int) (r2 : Bool) (w : World) (hr0 : Kd.C kRule w A0 l0.length l0) (hc0 : l0.length ≤ c0) (h : impl_LeftUpTo.f k l0 a1 = some (r1, r2)) :
  Calls Try.prog 45 #[.slice A0 l0.length c0, .int .i64 a1] w fun e w' => ∃ v0_ : Value, e = .returned (.tuple #[v0_, .bool r2]) ∧ Kd.R (Kd.int .i64) 3 w' w.heap.size (fun _ => True) v0_ r1 ∧ Below w.heap.size w w' := by
 have HR0 := Aside0.mk hr0
 have HC0 := Aside0.mk hc0
 clear hr0 hc0
 have HB := Aside0.mk (Below.refl w.heap.size w)
 have H : ((impl_areRules.f l0).bind fun t101 => (if t101 = true then ((impl_isMost.f a1).bind fun t102 => (if t102 = true then ((impl_leftBetween.f k l0 1 a1).bind fun t103 => (some (t103, true))) else (some (([] : List Int), false)))) else (some (([] : List Int), false)))) = some (r1, r2) := h
 clear h
 obtain ⟨t101, A3, H⟩ := obnd_ H
 (try dsimp only at H)
 by_cases c4 : t101 = true
 ·subst c4
  rw [if_pos rfl] at H
  obtain ⟨t102, A5, H⟩ := obnd_ H
  (try dsimp only at H)
  by_cases c6 : t102 = true
  ·subst c6
   rw [if_pos rfl] at H
   obtain ⟨t103, A7, H⟩ := obnd_ H
   (try dsimp only at H)
   simp only [Option.some.injEq, Prod.mk.injEq] at H
   obtain ⟨rfl, rfl⟩ := H
   go_enter Try.func45, Try.ntmps45
   go_wp2_with (first | ((with_reducible refine gate_callee (f := 60) rfl ?_); refine goesL_ (some 7) rfl rfl Try.func60 (by kernel_rfl) rfl #[.slice A0 l0.length c0] rfl k35_ ?_; (with_reducible refine (impl_areRules.calls _ _ l0 true _ ?side1 ?side2 A3.out).mono ?_); (case side1 => exact k31_); (case side2 => exact k77_); rintro e w8 ⟨rfl, hb⟩; refine ⟨_, rfl, ?_⟩; replace HB := HB.mw hb; (try clear hb)) | (go_at_call 71; (with_reducible refine (impl_isMost.calls a1 true _ A5.out).mono ?_); rintro e w' ⟨rfl, ⟨nd, rfl⟩⟩) | ((with_reducible refine gate_callee (f := 61) rfl ?_); refine goesL_ (some 16) rfl rfl Try.func61 (by kernel_rfl) rfl #[.slice A0 l0.length c0, .int .i64 1, .int .i64 a1] rfl k35_ ?_; (with_reducible refine (impl_leftBetween.calls k _ _ l0 1 a1 t103 _ ?side1 ?side2 A7.out).mono ?_); (case side1 => exact k2_); (case side2 => exact k77_); rintro e w9 ⟨v104, rfl, ho0, hb⟩; refine ⟨_, rfl, ?_⟩; have HO105 := Aside0.mk (Kd.R_lower ho0 (below_size k49_)); replace HB := HB.mw hb; (try clear hb ho0)))
   go_ret2
   exact ⟨_, k46_, by (with_reducible repeat (first | apply Kd.R_alloc | apply Kd.R_drewN | apply Kd.R_drew)); exact HO105.out, k49_⟩
  ·replace c6 := Bool.eq_false_iff.mpr c6
   subst c6
   rw [if_neg (show ¬ (false = true) by decide)] at H
   simp only [Option.some.injEq, Prod.mk.injEq] at H
   obtain ⟨rfl, rfl⟩ := H
   go_enter Try.func45, Try.ntmps45
   go_wp2_with (first | ((with_reducible refine gate_callee (f := 60) rfl ?_); refine goesL_ (some 7) rfl rfl Try.func60 (by kernel_rfl) rfl #[.slice A0 l0.length c0] rfl k35_ ?_; (with_reducible refine (impl_areRules.calls _ _ l0 true _ ?side1 ?side2 A3.out).mono ?_); (case side1 => exact k31_); (case side2 => exact k77_); rintro e w10 ⟨rfl, hb⟩; refine ⟨_, rfl, ?_⟩; replace HB := HB.mw hb; (try clear hb)) | (go_at_call 71; (with_reducible refine (impl_isMost.calls a1 false _ A5.out).mono ?_); rintro e w' ⟨rfl, ⟨nd, rfl⟩⟩))
   go_ret2
   exact ⟨_, k46_, k34_, k49_⟩
 ·replace c4 := Bool.eq_false_iff.mpr c4
  subst c4
  rw [if_neg (show ¬ (false = true) by decide)] at H
  simp only [Option.some.injEq, Prod.mk.injEq] at H
  obtain ⟨rfl, rfl⟩ := H
  go_enter Try.func45, Try.ntmps45
  go_wp2_with (first | ((with_reducible refine gate_callee (f := 60) rfl ?_); refine goesL_ (some 7) rfl rfl Try.func60 (by kernel_rfl) rfl #[.slice A0 l0.length c0] rfl k35_ ?_; (with_reducible refine (impl_areRules.calls _ _ l0 false _ ?side1 ?side2 A3.out).mono ?_); (case side1 => exact k31_); (case side2 => exact k77_); rintro e w11 ⟨rfl, hb⟩; refine ⟨_, rfl, ?_⟩; replace HB := HB.mw hb; (try clear hb)))
  go_ret2
  exact ⟨_, k46_, k34_, k49_⟩
end Go.Proofs.Ytdcijdeiaefjpaa.P
namespace Go.Proofs.Ytdcijdeiaefjpaa.P
open Go.RowKit Go.Proofs.YtdcijdeiaefjpaaW.PrintWords Go.Proofs.YtdcijdeiaefjpaaW.PrintLast Go.Proofs.YtdcijdeiaefjpaaW.PrintMore
attribute [local go_sem] max2_int min2_int max_two min_two max_three min_three max_four min_four
set_option linter.unusedVariables false
set_option linter.unusedSimpArgs false
def impl_isNumber.f (a0 : Int) : Option (Bool) := if a0 ≥ (-600) then (some (decide (a0 ≤ 600))) else (some false)
set_option maxHeartbeats 8000000 in
set_option maxRecDepth 100000 in
theorem impl_isNumber.calls (a0 : Int) (r : Bool) (w : World) (h : impl_isNumber.f a0 = some r) :
  Calls Try.prog 84 #[.int .i64 a0] w fun e w' => e = .returned (.bool r) ∧ Drawn0 w w' := by
 have H : (if a0 ≥ (-600) then (some (decide (a0 ≤ 600))) else (some false)) = some r := h
 clear h
 by_cases c2 : a0 ≥ (-600)
 ·rw [if_pos c2] at H
  have c2b0 : decide ((-600) ≤ a0) = true := decide_eq_true c2
  clear c2
  obtain rfl := Option.some.inj H
  go_enter Try.func84, Try.ntmps84
  go_wp2
  go_ret
  exact ⟨k69_, k67_⟩
 ·rw [if_neg c2] at H
  have c2b0 : decide ((-600) ≤ a0) = false := decide_eq_false c2
  clear c2
  obtain rfl := Option.some.inj H
  go_enter Try.func84, Try.ntmps84
  go_wp2
  go_ret
  exact ⟨k69_, k67_⟩
end Go.Proofs.Ytdcijdeiaefjpaa.P
namespace Go.Proofs.Ytdcijdeiaefjpaa.P
open Go.RowKit Go.Proofs.YtdcijdeiaefjpaaW.PrintWords Go.Proofs.YtdcijdeiaefjpaaW.PrintLast Go.Proofs.YtdcijdeiaefjpaaW.PrintMore
attribute [local go_sem] max2_int min2_int max_two min_two max_three min_three max_four min_four
set_option linter.unusedVariables false
set_option linter.unusedSimpArgs false
mutual
def impl_NextLeft.j0 : Nat → List (SRule) → Int → Bool → Option (Int × Bool)
 | 0, _, _, _ => none
 | k + 1, x0, x1, x14 => if x14 = true then (some (0, false)) else (impl_NextLeft.l0 k x0 x1 (wrap64 (x1 + 1)))
def impl_NextLeft.l0 : Nat → List (SRule) → Int → Int → Option (Int × Bool)
 | 0, _, _, _ => none
 | k + 1, x0, x1, x6 => if x6 ≤ (wrap64 (x1 + 1000)) then ((impl_isLeft.f x0 x6).bind fun t103 => (if t103 = true then (some (x6, true)) else (impl_NextLeft.l0 k x0 x1 (wrap64 (x6 + 1))))) else (some (0, false))
end
def impl_NextLeft.f (k : Nat) (l0 : List (SRule)) (a1 : Int) : Option (Int × Bool) := (impl_areRules.f l0).bind fun t101 => (if t101 = true then ((impl_isNumber.f a1).bind fun t102 => (impl_NextLeft.j0 k l0 a1 (!t102))) else (impl_NextLeft.j0 k l0 a1 true))
set_option maxHeartbeats 8000000 in
set_option maxRecDepth 100000 in
theorem impl_NextLeft.calls (k : Nat) (A0 : Option Addr) (c0 : Nat) (l0 : List (SRule)) (a1 : Int) (r1 : Int) (r2 : Bool) (w : World) (hr0 : Kd.C kRule w A0 l0.length l0) (hc0 : l0.length ≤ c0) (h : impl_NextLeft.f k l0 a1 = some (r1, r2)) :
  Calls Try.prog 46 #[.slice A0 l0.length c0, .int .i64 a1] w fun e w' => e = .returned (.tuple #[.int .i64 r1, .bool r2]) ∧ Below w.heap.size w w' := by
 have HR0 := Aside0.mk hr0
 have HC0 := Aside0.mk hc0
 clear hr0 hc0
 have HB := Aside0.mk (Below.refl w.heap.size w)
 have H : ((impl_areRules.f l0).bind fun t101 => (if t101 = true then ((impl_isNumber.f a1).bind fun t102 => (impl_NextLeft.j0 k l0 a1 (!t102))) else (impl_NextLeft.j0 k l0 a1 true))) = some (r1, r2) := h
 clear h
 have HC3 := Aside0.mk H
 clear H
 go_enter Try.func46, Try.ntmps46
 go_upto_region 1 with (fail)
 go_cut [14] (fun v14 wc => ∃ (kq : Nat) (x14_2 : Bool), v14 = .bool x14_2 ∧ Aside0 (impl_NextLeft.j0 kq l0 a1 x14_2 = some (r1, r2)) ∧ Aside0 (kq ≤ k) ∧ Aside0 (Below w.heap.size w wc))
 case first =>
  have H := HC3.out
  clear HC3
  obtain ⟨t101, A4, H⟩ := obnd_ H
  (try dsimp only at H)
  by_cases c5 : t101 = true
  ·subst c5
   rw [if_pos rfl] at H
   obtain ⟨t102, A6, H⟩ := obnd_ H
   (try dsimp only at H)
   have H' := Aside0.mk H
   clear H
   go_wp2_with (first | ((with_reducible refine gate_callee (f := 60) rfl ?_); refine goesL_ (some 8) rfl rfl Try.func60 (by kernel_rfl) rfl #[.slice A0 l0.length c0] rfl k35_ ?_; (with_reducible refine (impl_areRules.calls _ _ l0 true _ ?side1 ?side2 A4.out).mono ?_); (case side1 => exact k18_); (case side2 => exact k77_); rintro e w7 ⟨rfl, hb⟩; refine ⟨_, rfl, ?_⟩; replace HB := HB.mw hb; (try clear hb)) | (go_at_call 84; (with_reducible refine (impl_isNumber.calls a1 t102 _ A6.out).mono ?_); rintro e w' ⟨rfl, ⟨nd, rfl⟩⟩))
   go_meet
   case rel => exact ⟨_, (!t102), k69_, H', ⟨k72_⟩, ⟨k49_⟩⟩
  ·replace c5 := Bool.eq_false_iff.mpr c5
   subst c5
   rw [if_neg (show ¬ (false = true) by decide)] at H
   have H' := Aside0.mk H
   clear H
   go_wp2_with (first | ((with_reducible refine gate_callee (f := 60) rfl ?_); refine goesL_ (some 8) rfl rfl Try.func60 (by kernel_rfl) rfl #[.slice A0 l0.length c0] rfl k35_ ?_; (with_reducible refine (impl_areRules.calls _ _ l0 false _ ?side1 ?side2 A4.out).mono ?_); (case side1 => exact k18_); (case side2 => exact k77_); rintro e w8 ⟨rfl, hb⟩; refine ⟨_, rfl, ?_⟩; replace HB := HB.mw hb; (try clear hb)))
   go_meet
   case rel => exact ⟨_, (true), k69_, H', ⟨k72_⟩, ⟨k49_⟩⟩
 case rest =>
  clear HC3
  obtain ⟨kq, x14_2, rfl, HA, HJ2, HB⟩ := hcut
  cases kq with
  | zero => exact absurd HA.out (by simp [impl_NextLeft.j0])
  | succ kj2 =>
   have H := HA.out
   clear HA
   simp only [impl_NextLeft.j0] at H
   by_cases c9 : x14_2 = true
   ·subst c9
    rw [if_pos rfl] at H
    simp only [Option.some.injEq, Prod.mk.injEq] at H
    obtain ⟨rfl, rfl⟩ := H
    go_wp2
    go_ret2
    exact ⟨k46_, k49_⟩
   ·replace c9 := Bool.eq_false_iff.mpr c9
    subst c9
    rw [if_neg (show ¬ (false = true) by decide)] at H
    have H' := Aside0.mk H
    clear H
    go_wp2
    go_loopg [6] kj2 (fun kq v6 w' => ∃ (x6_2 : Int), v6 = .int .i64 x6_2 ∧ Aside0 (impl_NextLeft.l0 kq l0 a1 x6_2 = some (r1, r2)) ∧ Aside0 (kq ≤ kj2) ∧ Aside0 (Below w.heap.size w w'))
    case atStart => exact ⟨(wrap64 (a1 + 1)), k69_, H', ⟨Nat.le_refl _⟩, ⟨k49_⟩⟩
    case round =>
     clear H'
     (try clear c9)
     obtain ⟨x6_2, rfl, HA, HK2, HB⟩ := hrel
     cases gk with
     | zero => exact absurd HA.out (by simp [impl_NextLeft.l0])
     | succ k2 =>
      have H := HA.out
      clear HA
      simp only [impl_NextLeft.l0] at H
      by_cases c10 : x6_2 ≤ (wrap64 (a1 + 1000))
      ·rw [if_pos c10] at H
       have c10b0 : decide (x6_2 ≤ (wrap64 (a1 + 1000))) = true := decide_eq_true c10
       clear c10
       obtain ⟨t103, A11, H⟩ := obnd_ H
       (try dsimp only at H)
       by_cases c12 : t103 = true
       ·subst c12
        rw [if_pos rfl] at H
        simp only [Option.some.injEq, Prod.mk.injEq] at H
        obtain ⟨rfl, rfl⟩ := H
        go_wp2_with (first | ((with_reducible refine gate_callee (f := 79) rfl ?_); refine goesL_ (some 25) rfl rfl Try.func79 (by kernel_rfl) rfl #[.slice A0 l0.length c0, .int .i64 x6_2] rfl k35_ ?_; (with_reducible refine (impl_isLeft.calls _ _ l0 x6_2 true _ ?side1 ?side2 A11.out).mono ?_); (case side1 => exact k18_); (case side2 => exact k77_); rintro e w13 ⟨rfl, hb⟩; refine ⟨_, rfl, ?_⟩; replace HB := HB.mw hb; (try clear hb)))
        go_ret2
        exact ⟨k46_, k49_⟩
       ·replace c12 := Bool.eq_false_iff.mpr c12
        subst c12
        rw [if_neg (show ¬ (false = true) by decide)] at H
        have H' := Aside0.mk H
        clear H
        go_wp2_with (first | ((with_reducible refine gate_callee (f := 79) rfl ?_); refine goesL_ (some 25) rfl rfl Try.func79 (by kernel_rfl) rfl #[.slice A0 l0.length c0, .int .i64 x6_2] rfl k35_ ?_; (with_reducible refine (impl_isLeft.calls _ _ l0 x6_2 false _ ?side1 ?side2 A11.out).mono ?_); (case side1 => exact k18_); (case side2 => exact k77_); rintro e w14 ⟨rfl, hb⟩; refine ⟨_, rfl, ?_⟩; replace HB := HB.mw hb; (try clear hb)))
        go_roundg k2
        case measure => have := HJ2.out; have := HK2.out; omega
        case rel => exact ⟨(wrap64 (x6_2 + 1)), k69_, H', ⟨by have := HJ2.out; have := HK2.out; omega⟩, ⟨k49_⟩⟩
      ·rw [if_neg c10] at H
       have c10b0 : decide (x6_2 ≤ (wrap64 (a1 + 1000))) = false := decide_eq_false c10
       clear c10
       simp only [Option.some.injEq, Prod.mk.injEq] at H
       obtain ⟨rfl, rfl⟩ := H
       go_wp2
       go_ret2
       exact ⟨k46_, k49_⟩
end Go.Proofs.Ytdcijdeiaefjpaa.P
