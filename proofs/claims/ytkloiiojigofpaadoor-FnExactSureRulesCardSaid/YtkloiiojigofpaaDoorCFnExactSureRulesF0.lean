/- What functions of the program answer. Proved in this text: its theorems. Conditions: as each theorem states them. -/
import Derived.Test.YtkloiiojigofpaaDoorCFnExactSureRulesP
namespace Go.Proofs.YtkloiiojigofpaaDoor.P
open Go.RowKit Go.Proofs.YtkloiiojigofpaaDoorW.PrintWords Go.Proofs.YtkloiiojigofpaaDoorW.PrintLast Go.Proofs.YtkloiiojigofpaaDoorW.PrintMore
attribute [local go_sem] max2_int min2_int max_two min_two max_three min_three max_four min_four
set_option linter.unusedVariables false
set_option linter.unusedSimpArgs false
def spec_l1In.f (a0 : Int) (a1 : Int) (a2 : Int) : Option (Bool) := if a0 ≥ a1 then (some (decide (a0 ≤ a2))) else (some false)
set_option maxHeartbeats 8000000 in
set_option maxRecDepth 100000 in
theorem spec_l1In.calls (a0 : Int) (a1 : Int) (a2 : Int) (r : Bool) (w : World) (h : spec_l1In.f a0 a1 a2 = some r) :
    Calls Tryd.prog 52 #[.int .i64 a0, .int .i64 a1, .int .i64 a2] w fun e w' => e = .returned (.bool r) ∧ Drawn0 w w' := by
  have H : (if a0 ≥ a1 then (some (decide (a0 ≤ a2))) else (some false)) = some r := h
  clear h
  by_cases c4 : a0 ≥ a1
  · rw [if_pos c4] at H
    have c4b0 : decide (a1 ≤ a0) = true := decide_eq_true c4
    clear c4
    obtain rfl := Option.some.inj H
    go_enter Tryd.func52, Tryd.ntmps52
    go_wp2
    go_ret
    exact ⟨by first | rfl | (simp; done) | (simp [*]; done), by repeat (first | exact Drawn0.refl _ | apply Drawn0.step)⟩
  · rw [if_neg c4] at H
    have c4b0 : decide (a1 ≤ a0) = false := decide_eq_false c4
    clear c4
    obtain rfl := Option.some.inj H
    go_enter Tryd.func52, Tryd.ntmps52
    go_wp2
    go_ret
    exact ⟨by first | rfl | (simp; done) | (simp [*]; done), by repeat (first | exact Drawn0.refl _ | apply Drawn0.step)⟩
end Go.Proofs.YtkloiiojigofpaaDoor.P
namespace Go.Proofs.YtkloiiojigofpaaDoor.P
open Go.RowKit Go.Proofs.YtkloiiojigofpaaDoorW.PrintWords Go.Proofs.YtkloiiojigofpaaDoorW.PrintLast Go.Proofs.YtkloiiojigofpaaDoorW.PrintMore
attribute [local go_sem] max2_int min2_int max_two min_two max_three min_three max_four min_four
set_option linter.unusedVariables false
set_option linter.unusedSimpArgs false
def spec_pzPattern.l0 : Nat → ByteArray → Int → Option (Bool)
  | 0, _, _ => none
  | k + 1, x0, x3 => if x3 < (x0.size : Int) then (if 0 ≤ x3 then (if (bt x0 x3) = 111 then (spec_pzPattern.l0 k x0 (wrap64 (x3 + 1))) else (if (bt x0 x3) = 120 then (spec_pzPattern.l0 k x0 (wrap64 (x3 + 1))) else (if (bt x0 x3) = 63 then (spec_pzPattern.l0 k x0 (wrap64 (x3 + 1))) else (some false)))) else (none)) else (some true)
def spec_pzPattern.f (k : Nat) (a0 : ByteArray) : Option (Bool) := (spec_l1In.f (a0.size : Int) 1 48).bind fun t101 => (if t101 = true then (spec_pzPattern.l0 k a0 0) else (some false))
set_option maxHeartbeats 8000000 in
set_option maxRecDepth 100000 in
theorem spec_pzPattern.calls (k : Nat) (a0 : ByteArray) (r : Bool) (w : World) (h : spec_pzPattern.f k a0 = some r) :
    Calls Tryd.prog 59 #[.string a0] w fun e w' => e = .returned (.bool r) ∧ Drawn0 w w' := by
  have H : ((spec_l1In.f (a0.size : Int) 1 48).bind fun t101 => (if t101 = true then (spec_pzPattern.l0 k a0 0) else (some false))) = some r := h
  clear h
  replace H := Option.bind_eq_some_iff.mp H
  obtain ⟨t101, A20, H⟩ := H
  replace H : (if t101 = true then (spec_pzPattern.l0 k a0 0) else (some false)) = some r := H
  have A2 := Aside0.mk A20
  clear A20
  by_cases c3 : t101 = true
  · subst c3
    have H1 : (spec_pzPattern.l0 k a0 0) = some r := by rw [if_pos rfl] at H; exact H
    clear H
    have H := H1
    clear H1
    have H' := Aside0.mk H
    clear H
    go_enter Tryd.func59, Tryd.ntmps59
    go_wp2_with (first | ((with_reducible refine gate_callee (f := 52) rfl ?_); refine goesL_ (some 6) rfl rfl Tryd.func52 (by kernel_rfl) rfl #[.int .i64 (a0.size : Int), .int .i64 1, .int .i64 48] rfl (by (try simp only [List.map_toArray, List.map_cons, List.map_nil]); first | done | rfl | (simp only [List.length_drop, List.length_take]; rfl)) ?_; (with_reducible refine (spec_l1In.calls (a0.size : Int) 1 48 true _ A2.out).mono ?_); rintro e w' ⟨rfl, ⟨nd, rfl⟩⟩; refine ⟨_, rfl, ?_⟩))
    go_loopg [3] k (fun kq v3 w' => ∃ (x3_1 : Int), v3 = .int .i64 x3_1 ∧ Aside0 (spec_pzPattern.l0 kq a0 x3_1 = some r) ∧ Aside0 (kq ≤ k) ∧ Drawn0 w w')
    case atStart => exact ⟨(0), (by first | rfl | (simp; done) | (simp [*]; done)), H', ⟨Nat.le_refl _⟩, by repeat (first | exact Drawn0.refl _ | apply Drawn0.step)⟩
    case round =>
      clear H'
      try clear p2
      try clear c3
      obtain ⟨x3_1, rfl, HA, HK1, ⟨m1, rfl⟩⟩ := hrel
      cases gk with
      | zero => exact absurd HA.out (by simp [spec_pzPattern.l0])
      | succ k1 =>
        have H := HA.out
        clear HA
        simp only [spec_pzPattern.l0] at H
        by_cases c4 : x3_1 < (a0.size : Int)
        · rw [if_pos c4] at H
          have c4b0 : decide (x3_1 < (a0.size : Int)) = true := decide_eq_true c4
          clear c4
          by_cases c5 : 0 ≤ x3_1
          · rw [if_pos c5] at H
            have c5b0 : decide (0 ≤ x3_1) = true := decide_eq_true c5
            clear c5
            by_cases c7 : (bt a0 x3_1) = 111
            · rw [if_pos c7] at H
              have c7b0 : ((bt a0 x3_1) == 111) = true := beq_iff_eq.mpr c7
              have c7b1 : ((bt a0 x3_1) != 111) = false := bne_eq_false_iff_eq.mpr c7
              clear c7
              have H' := Aside0.mk H
              clear H
              have p6 : 0 ≤ (x3_1 : Int) := of_decide_eq_true (by first | (with_reducible assumption) | assumption)
              have q6 : x3_1 < (a0.size : Int) := of_decide_eq_true (by first | (with_reducible assumption) | assumption)
              have hx6 := bt_at a0 x3_1
              replace p6 := eq_true p6
              replace q6 := eq_true q6
              go_wp2
              go_roundg k1
              case measure => have := HK1.out; omega
              case rel => exact ⟨(wrap64 (x3_1 + 1)), (by first | rfl | (simp; done) | (simp [*]; done)), H', ⟨by have := HK1.out; omega⟩, by repeat (first | exact Drawn0.refl _ | apply Drawn0.step)⟩
            · rw [if_neg c7] at H
              have c7b0 : ((bt a0 x3_1) == 111) = false := beq_eq_false_iff_ne.mpr c7
              have c7b1 : ((bt a0 x3_1) != 111) = true := bne_iff_ne.mpr c7
              by_cases c9 : (bt a0 x3_1) = 120
              · rw [if_pos c9] at H
                have c9b0 : ((bt a0 x3_1) == 120) = true := beq_iff_eq.mpr c9
                have c9b1 : ((bt a0 x3_1) != 120) = false := bne_eq_false_iff_eq.mpr c9
                clear c9
                have H' := Aside0.mk H
                clear H
                have p6 : 0 ≤ (x3_1 : Int) := of_decide_eq_true (by first | (with_reducible assumption) | assumption)
                have q6 : x3_1 < (a0.size : Int) := of_decide_eq_true (by first | (with_reducible assumption) | assumption)
                have hx6 := bt_at a0 x3_1
                replace p6 := eq_true p6
                replace q6 := eq_true q6
                have p8 : 0 ≤ (x3_1 : Int) := of_decide_eq_true (by first | (with_reducible assumption) | assumption)
                have q8 : x3_1 < (a0.size : Int) := of_decide_eq_true (by first | (with_reducible assumption) | assumption)
                have hx8 := bt_at a0 x3_1
                replace p8 := eq_true p8
                replace q8 := eq_true q8
                go_wp2
                go_roundg k1
                case measure => have := HK1.out; omega
                case rel => exact ⟨(wrap64 (x3_1 + 1)), (by first | rfl | (simp; done) | (simp [*]; done)), H', ⟨by have := HK1.out; omega⟩, by repeat (first | exact Drawn0.refl _ | apply Drawn0.step)⟩
              · rw [if_neg c9] at H
                have c9b0 : ((bt a0 x3_1) == 120) = false := beq_eq_false_iff_ne.mpr c9
                have c9b1 : ((bt a0 x3_1) != 120) = true := bne_iff_ne.mpr c9
                by_cases c11 : (bt a0 x3_1) = 63
                · rw [if_pos c11] at H
                  have c11b0 : ((bt a0 x3_1) == 63) = true := beq_iff_eq.mpr c11
                  have c11b1 : ((bt a0 x3_1) != 63) = false := bne_eq_false_iff_eq.mpr c11
                  clear c11
                  have H' := Aside0.mk H
                  clear H
                  have p6 : 0 ≤ (x3_1 : Int) := of_decide_eq_true (by first | (with_reducible assumption) | assumption)
                  have q6 : x3_1 < (a0.size : Int) := of_decide_eq_true (by first | (with_reducible assumption) | assumption)
                  have hx6 := bt_at a0 x3_1
                  replace p6 := eq_true p6
                  replace q6 := eq_true q6
                  have p8 : 0 ≤ (x3_1 : Int) := of_decide_eq_true (by first | (with_reducible assumption) | assumption)
                  have q8 : x3_1 < (a0.size : Int) := of_decide_eq_true (by first | (with_reducible assumption) | assumption)
                  have hx8 := bt_at a0 x3_1
                  replace p8 := eq_true p8
                  replace q8 := eq_true q8
                  have p10 : 0 ≤ (x3_1 : Int) := of_decide_eq_true (by first | (with_reducible assumption) | assumption)
                  have q10 : x3_1 < (a0.size : Int) := of_decide_eq_true (by first | (with_reducible assumption) | assumption)
                  have hx10 := bt_at a0 x3_1
                  replace p10 := eq_true p10
                  replace q10 := eq_true q10
                  go_wp2
                  go_roundg k1
                  case measure => have := HK1.out; omega
                  case rel => exact ⟨(wrap64 (x3_1 + 1)), (by first | rfl | (simp; done) | (simp [*]; done)), H', ⟨by have := HK1.out; omega⟩, by repeat (first | exact Drawn0.refl _ | apply Drawn0.step)⟩
                · rw [if_neg c11] at H
                  have c11b0 : ((bt a0 x3_1) == 63) = false := beq_eq_false_iff_ne.mpr c11
                  have c11b1 : ((bt a0 x3_1) != 63) = true := bne_iff_ne.mpr c11
                  obtain rfl := Option.some.inj H
                  have p6 : 0 ≤ (x3_1 : Int) := of_decide_eq_true (by first | (with_reducible assumption) | assumption)
                  have q6 : x3_1 < (a0.size : Int) := of_decide_eq_true (by first | (with_reducible assumption) | assumption)
                  have hx6 := bt_at a0 x3_1
                  replace p6 := eq_true p6
                  replace q6 := eq_true q6
                  have p8 : 0 ≤ (x3_1 : Int) := of_decide_eq_true (by first | (with_reducible assumption) | assumption)
                  have q8 : x3_1 < (a0.size : Int) := of_decide_eq_true (by first | (with_reducible assumption) | assumption)
                  have hx8 := bt_at a0 x3_1
                  replace p8 := eq_true p8
                  replace q8 := eq_true q8
                  have p10 : 0 ≤ (x3_1 : Int) := of_decide_eq_true (by first | (with_reducible assumption) | assumption)
                  have q10 : x3_1 < (a0.size : Int) := of_decide_eq_true (by first | (with_reducible assumption) | assumption)
                  have hx10 := bt_at a0 x3_1
                  replace p10 := eq_true p10
                  replace q10 := eq_true q10
                  go_wp2
                  go_ret
                  exact ⟨by first | rfl | (simp; done) | (simp [*]; done), by repeat (first | exact Drawn0.refl _ | apply Drawn0.step)⟩
          · rw [if_neg c5] at H
            exact absurd H (by simp)
        · rw [if_neg c4] at H
          have c4b0 : decide (x3_1 < (a0.size : Int)) = false := decide_eq_false c4
          clear c4
          obtain rfl := Option.some.inj H
          go_wp2
          go_ret
          exact ⟨by first | rfl | (simp; done) | (simp [*]; done), by repeat (first | exact Drawn0.refl _ | apply Drawn0.step)⟩
  · replace c3 := Bool.eq_false_iff.mpr c3
    subst c3
    have H1 : (some false) = some r := by rw [if_neg (show ¬ (false = true) by decide)] at H; exact H
    clear H
    have H := H1
    clear H1
    obtain rfl := Option.some.inj H
    go_enter Tryd.func59, Tryd.ntmps59
    go_wp2_with (first | ((with_reducible refine gate_callee (f := 52) rfl ?_); refine goesL_ (some 6) rfl rfl Tryd.func52 (by kernel_rfl) rfl #[.int .i64 (a0.size : Int), .int .i64 1, .int .i64 48] rfl (by (try simp only [List.map_toArray, List.map_cons, List.map_nil]); first | done | rfl | (simp only [List.length_drop, List.length_take]; rfl)) ?_; (with_reducible refine (spec_l1In.calls (a0.size : Int) 1 48 false _ A2.out).mono ?_); rintro e w' ⟨rfl, ⟨nd, rfl⟩⟩; refine ⟨_, rfl, ?_⟩))
    go_ret
    exact ⟨by first | rfl | (simp; done) | (simp [*]; done), by repeat (first | exact Drawn0.refl _ | apply Drawn0.step)⟩
end Go.Proofs.YtkloiiojigofpaaDoor.P
namespace Go.Proofs.YtkloiiojigofpaaDoor.P
open Go.RowKit Go.Proofs.YtkloiiojigofpaaDoorW.PrintWords Go.Proofs.YtkloiiojigofpaaDoorW.PrintLast Go.Proofs.YtkloiiojigofpaaDoorW.PrintMore
attribute [local go_sem] max2_int min2_int max_two min_two max_three min_three max_four min_four
set_option linter.unusedVariables false
set_option linter.unusedSimpArgs false
def spec_pzGood.f (k : Nat) (a0_0 : ByteArray) (a0_1 : Int) : Option (Bool) := (spec_pzPattern.f k a0_0).bind fun t102 => (if t102 = true then ((spec_l1In.f a0_1 0 3).bind fun t103 => (some t103)) else (some false))
set_option maxHeartbeats 8000000 in
set_option maxRecDepth 100000 in
theorem spec_pzGood.calls (k : Nat) (a0_0 : ByteArray) (a0_1 : Int) (r : Bool) (w : World) (h : spec_pzGood.f k a0_0 a0_1 = some r) :
    Calls Tryd.prog 48 #[.agg #[.string a0_0, .int .i64 a0_1]] w fun e w' => e = .returned (.bool r) ∧ Below w.heap.size w w' := by
  have hu28 := Tryd.underlying28
  have HB := Aside0.mk (Below.refl w.heap.size w)
  have H : ((spec_pzPattern.f k a0_0).bind fun t102 => (if t102 = true then ((spec_l1In.f a0_1 0 3).bind fun t103 => (some t103)) else (some false))) = some r := h
  clear h
  replace H := Option.bind_eq_some_iff.mp H
  obtain ⟨t102, A20, H⟩ := H
  replace H : (if t102 = true then ((spec_l1In.f a0_1 0 3).bind fun t103 => (some t103)) else (some false)) = some r := H
  have A2 := Aside0.mk A20
  clear A20
  by_cases c3 : t102 = true
  · subst c3
    have H1 : ((spec_l1In.f a0_1 0 3).bind fun t103 => (some t103)) = some r := by rw [if_pos rfl] at H; exact H
    clear H
    have H := H1
    clear H1
    replace H := Option.bind_eq_some_iff.mp H
    obtain ⟨t103, A40, H⟩ := H
    replace H : (some t103) = some r := H
    have A4 := Aside0.mk A40
    clear A40
    obtain rfl := Option.some.inj H
    go_enter Tryd.func48, Tryd.ntmps48
    go_wp2_with (first | ((with_reducible refine gate_dst (N := 1) rfl ?_); refine box_event ?hg (N := 1) ?hd (cs := #[.string a0_0, .int .i64 a0_1]) (t := 28) ?hr ?_; (case hd => rfl); (case hg => rfl); (case hr => first | (go_simp; done) | (go_simp; rfl)); intro gb101 hg w5 hbox hb; have n0_ := Aside0.mk (below_step (by repeat (first | (with_reducible first | exact HB.out | apply below_alloc | apply pw_below_drewN | apply below_drew1) | exact HB.out)) hb); have n1_ := Aside0.mk (hbox); have n2_ := Aside0.mk ((by rw [hg]; exact (below_size (by repeat (first | (with_reducible first | exact HB.out | apply below_alloc | apply pw_below_drewN | apply below_drew1) | exact HB.out))) : w.heap.size ≤ gb101)); have n3_ := Aside0.mk ((by rw [hg]; exact (below_size (by repeat (first | (with_reducible first | exact HB.out | apply below_alloc | apply pw_below_drewN | apply below_drew1) | exact HB.out))) : w.heap.size ≤ gb101)); clear HB; have HB := n0_; have BK101 := n1_; have GW101 := n2_; have GE101 := n3_; clear n0_ n1_ n2_ n3_; clear hb hbox hg; have hcz6_0 : w5.cell? ⟨gb101, 0, none⟩ = some (.string a0_0) := (blk_cell BK101.out 0).trans rfl; have hcz6_1 : w5.cell? ⟨gb101, 1, none⟩ = some (.int .i64 a0_1) := (blk_cell BK101.out 1).trans rfl; have hfz6_0 := blk_frozen BK101.out 0; have hfz6_1 := blk_frozen BK101.out 1) | ((with_reducible refine gate_callee (f := 59) rfl ?_); refine goesL_ (some 5) rfl rfl Tryd.func59 (by kernel_rfl) rfl #[.string a0_0] rfl (by (try simp only [List.map_toArray, List.map_cons, List.map_nil]); first | done | rfl | (simp only [List.length_drop, List.length_take]; rfl)) ?_; (with_reducible refine (spec_pzPattern.calls k a0_0 true _ A2.out).mono ?_); rintro e w' ⟨rfl, ⟨nd, rfl⟩⟩; refine ⟨_, rfl, ?_⟩) | (go_at_call 52; (with_reducible refine (spec_l1In.calls a0_1 0 3 t103 _ A4.out).mono ?_); rintro e w' ⟨rfl, ⟨nd, rfl⟩⟩))
    go_ret
    exact ⟨by first | rfl | (simp [errW_none, errW_some] <;> rfl) | (simp [*, errW_none, errW_some] <;> rfl), by repeat (first | (with_reducible first | exact HB.out | apply below_alloc | apply pw_below_drewN | apply below_drew1 | refine below_set ?_ GE101.out) | exact HB.out)⟩
  · replace c3 := Bool.eq_false_iff.mpr c3
    subst c3
    have H1 : (some false) = some r := by rw [if_neg (show ¬ (false = true) by decide)] at H; exact H
    clear H
    have H := H1
    clear H1
    obtain rfl := Option.some.inj H
    go_enter Tryd.func48, Tryd.ntmps48
    go_wp2_with (first | ((with_reducible refine gate_dst (N := 1) rfl ?_); refine box_event ?hg (N := 1) ?hd (cs := #[.string a0_0, .int .i64 a0_1]) (t := 28) ?hr ?_; (case hd => rfl); (case hg => rfl); (case hr => first | (go_simp; done) | (go_simp; rfl)); intro gb101 hg w7 hbox hb; have n0_ := Aside0.mk (below_step (by repeat (first | (with_reducible first | exact HB.out | apply below_alloc | apply pw_below_drewN | apply below_drew1) | exact HB.out)) hb); have n1_ := Aside0.mk (hbox); have n2_ := Aside0.mk ((by rw [hg]; exact (below_size (by repeat (first | (with_reducible first | exact HB.out | apply below_alloc | apply pw_below_drewN | apply below_drew1) | exact HB.out))) : w.heap.size ≤ gb101)); have n3_ := Aside0.mk ((by rw [hg]; exact (below_size (by repeat (first | (with_reducible first | exact HB.out | apply below_alloc | apply pw_below_drewN | apply below_drew1) | exact HB.out))) : w.heap.size ≤ gb101)); clear HB; have HB := n0_; have BK101 := n1_; have GW101 := n2_; have GE101 := n3_; clear n0_ n1_ n2_ n3_; clear hb hbox hg; have hcz8_0 : w7.cell? ⟨gb101, 0, none⟩ = some (.string a0_0) := (blk_cell BK101.out 0).trans rfl; have hcz8_1 : w7.cell? ⟨gb101, 1, none⟩ = some (.int .i64 a0_1) := (blk_cell BK101.out 1).trans rfl; have hfz8_0 := blk_frozen BK101.out 0; have hfz8_1 := blk_frozen BK101.out 1) | ((with_reducible refine gate_callee (f := 59) rfl ?_); refine goesL_ (some 5) rfl rfl Tryd.func59 (by kernel_rfl) rfl #[.string a0_0] rfl (by (try simp only [List.map_toArray, List.map_cons, List.map_nil]); first | done | rfl | (simp only [List.length_drop, List.length_take]; rfl)) ?_; (with_reducible refine (spec_pzPattern.calls k a0_0 false _ A2.out).mono ?_); rintro e w' ⟨rfl, ⟨nd, rfl⟩⟩; refine ⟨_, rfl, ?_⟩))
    go_ret
    exact ⟨by first | rfl | (simp [errW_none, errW_some] <;> rfl) | (simp [*, errW_none, errW_some] <;> rfl), by repeat (first | (with_reducible first | exact HB.out | apply below_alloc | apply pw_below_drewN | apply below_drew1 | refine below_set ?_ GE101.out) | exact HB.out)⟩
end Go.Proofs.YtkloiiojigofpaaDoor.P
namespace Go.Proofs.YtkloiiojigofpaaDoor.P
open Go.RowKit Go.Proofs.YtkloiiojigofpaaDoorW.PrintWords Go.Proofs.YtkloiiojigofpaaDoorW.PrintLast Go.Proofs.YtkloiiojigofpaaDoorW.PrintMore
attribute [local go_sem] max2_int min2_int max_two min_two max_three min_three max_four min_four
set_option linter.unusedVariables false
set_option linter.unusedSimpArgs false
def PredR (g : Nat) (lb : Array Value) (p : SRule → Bool) (l : List SRule) (w : World) : Prop :=
  ∀ (W : World) (x : SRule), x ∈ l → Below w.heap.size w W → Calls Tryd.prog g (#[.agg #[.int .i64 x.f0, .int .i64 x.f1]] ++ lb) W fun e w' => e = .returned (.bool (p x)) ∧ Below w.heap.size w w'
def firstIx (p : SRule → Bool) : List SRule → Int → Int
  | [], _ => -1
  | x :: l, i => if p x = true then i else firstIx p l (i + 1)
theorem drop_rd (l : List SRule) (k : Nat) (h : k < l.length) : l.drop k = rd_Rule l k :: l.drop (k + 1) := by
  rw [List.drop_eq_getElem_cons h]
  simp [rd_Rule, List.getD, h]
theorem rd_mem (l : List SRule) (k : Nat) (h : k < l.length) : rd_Rule l k ∈ l := by
  simp [rd_Rule, List.getD, h]
theorem firstIx_hit {p : SRule → Bool} {l : List SRule} {k : Nat} (h : k < l.length) (hp : p (rd_Rule l k) = true) : firstIx p (l.drop k) k = k := by
  rw [drop_rd l k h, firstIx, if_pos hp]
theorem firstIx_next {p : SRule → Bool} {l : List SRule} {k : Nat} (h : k < l.length) (hp : p (rd_Rule l k) = false) : firstIx p (l.drop k) k = firstIx p (l.drop (k + 1)) ((k + 1 : Nat) : Int) := by
  rw [drop_rd l k h, firstIx, if_neg (by simp [hp])]; rfl
theorem firstIx_end {p : SRule → Bool} {l : List SRule} {k : Nat} (h : l.length ≤ k) : firstIx p (l.drop k) k = -1 := by
  rw [List.drop_eq_nil_of_le h]; rfl
set_option maxHeartbeats 2000000 in
set_option maxRecDepth 100000 in
theorem ixf_calls (p : SRule → Bool) (g : Nat) (lb : Array Value) (eg : ∀ args w, (callFunc g args).run Tryd.prog w = .ok (.enter g args) w)
    (A0 : Option Addr) (c0 : Nat) (l0 : List SRule) (w : World) (hp : PredR g lb p l0 w) (hr0 : Kd.C kRule w A0 l0.length l0) :
    Calls Tryd.prog 65 #[.slice A0 l0.length c0, .func (.func g) #[] lb] w fun e w' => e = .returned (.int .i64 (firstIx p l0 0)) ∧ Below w.heap.size w w' := by
  have hu := Tryd.underlying54
  have hm : l0.length ≤ 9223372036854775807 := Kd.C_max hr0
  have HR0 := Aside0.mk hr0
  have HP := Aside0.mk hp
  clear hr0 hp
  have HB := Aside0.mk (Below.refl w.heap.size w)
  have H0 := Aside0.mk (show firstIx p l0 0 = firstIx p (l0.drop 0) ((0 : Nat) : Int) from rfl)
  go_enter Tryd.func65, Tryd.ntmps65
  go_wp2
  go_loopg [5, 8] l0.length (fun gg _ s8 wr => ∃ kk : Nat, kk ≤ l0.length ∧ l0.length - kk ≤ gg ∧ s8 = .int .i64 kk ∧ Aside0 (Below w.heap.size w wr) ∧ Aside0 (firstIx p l0 0 = firstIx p (l0.drop kk) kk))
  case atStart => exact ⟨0, Nat.zero_le _, by omega, rfl, HB, H0⟩
  case round =>
    clear HB H0
    obtain ⟨kk, hkk, hg, rfl, HB, HI⟩ := hrel
    by_cases hlt : kk < l0.length
    · have hltz : (kk : Int) < (l0.length : Int) := by omega
      obtain ⟨ad, e, hx0, hx1⟩ := at_Rule HR0.out (kk : Int) (by omega) hltz
      cases e
      replace hx0 := (HB.out.cell (World.block_lt_of_cell? w _ hx0)).trans hx0
      replace hx1 := (HB.out.cell (World.block_lt_of_cell? w _ hx1)).trans hx1
      simp only [Int.toNat_natCast] at hx0 hx1
      have hcall := HP.out wr (rd_Rule l0 (kk : Int)) (rd_mem l0 kk hlt) HB.out
      cases hq : p (rd_Rule l0 (kk : Int)) with
      | true =>
        rw [hq] at hcall
        have HQ := Aside0.mk (firstIx_hit hlt hq)
        clear hq
        go_wp2_with (go_at_fn g; refine hcall.mono ?_; rintro e w' ⟨rfl, hb'⟩)
        go_ret
        exact ⟨by rw [HI.out, HQ.out]; rfl, hb'⟩
      | false =>
        rw [hq] at hcall
        have HQ := Aside0.mk (firstIx_next hlt hq)
        clear hq
        go_wp2_with (go_at_fn g; refine hcall.mono ?_; rintro e w' ⟨rfl, hb'⟩)
        go_roundg (l0.length - (kk + 1))
        case measure => omega
        case rel => exact ⟨kk + 1, by omega, by omega, by go_num, ⟨hb'⟩, ⟨by rw [HI.out, HQ.out]⟩⟩
    · have hltz : ¬ (kk : Int) < (l0.length : Int) := by omega
      have HQ := Aside0.mk (firstIx_end (p := p) (l := l0) (k := kk) (by omega))
      go_wp2
      go_ret
      exact ⟨by rw [HI.out, HQ.out]; rfl, HB.out⟩
theorem infoE_Rule : (Tryd.prog.info? 54).map (fun i => (i.zero, i.size, i.bytes)) = some (some (.agg #[(.int .i64 0), (.int .i64 0)]), 2, 16) := by kernel_rfl
def PzPost (w0 w : World) (vo v : Value) (o : List (List SRule)) (W : World) : Prop :=
  Kd.S (Kd.slice 54 kRule) 33 W w0.heap.size (fun _ => True) v o ∧ Below w0.heap.size w0 W ∧ w.grownBy W vo.ownBlock ∧ (v.ownBlock = vo.ownBlock ∨ ∃ b, v.ownBlock = some b ∧ w.heap.size ≤ b)
theorem grown_trans {w w1 w2 : World} {r r' : Option Nat} (h : w.grownBy w1 r) (h2 : w1.grownBy w2 r') (hr : r' = r ∨ ∃ b, r' = some b ∧ w.heap.size ≤ b) : w.grownBy w2 r :=
  ⟨h2.os.trans h.os, h2.tape.trans h.tape, h2.output.trans h.output, Nat.le_trans h.size h2.size, fun k hk hne => (h2.block k (Nat.lt_of_lt_of_le hk h.size) (fun e => by
    rcases hr with hr | ⟨b, hr, hb⟩
    · exact hne (e.trans hr)
    · rw [hr] at e; injection e with e; omega)).trans (h.block k hk hne)⟩
theorem below_grown_ {w w1 w2 : World} {r : Option Nat} (h : Below w.heap.size w w1) (h2 : w1.grownBy w2 r) : w.grownBy w2 r := grown_trans (grown_of_below h r) h2 (.inl rfl)
theorem PzPost.refl {w0 w : World} {v : Value} {o : List (List SRule)} (hS : Kd.S (Kd.slice 54 kRule) 33 w w0.heap.size (fun _ => True) v o) (hB : Below w0.heap.size w0 w) : PzPost w0 w v v o w :=
  ⟨hS, hB, grown_of_below (Below.refl _ _) _, .inl rfl⟩
theorem PzPost.below {w0 w : World} {vo v : Value} {o : List (List SRule)} {W W1 : World} (h : PzPost w0 w vo v o W) (hb : Below W.heap.size W W1) : PzPost w0 w vo v o W1 :=
  ⟨Kd.S_below h.1 hb, below_step h.2.1 hb, grown_trans h.2.2.1 (grown_of_below hb vo.ownBlock) (.inl rfl), h.2.2.2⟩
theorem PzPost.trans {w0 w : World} {vo v v1 : Value} {o o1 : List (List SRule)} {W W1 : World} (h : PzPost w0 w vo v o W) (h2 : PzPost w0 W v v1 o1 W1) : PzPost w0 w vo v1 o1 W1 := by
  refine ⟨h2.1, h2.2.1, grown_trans h.2.2.1 h2.2.2.1 h.2.2.2, ?_⟩
  rcases h2.2.2.2 with e | ⟨b, e, hb⟩
  · rw [e]; exact h.2.2.2
  · exact .inr ⟨b, e, Nat.le_trans h.2.2.1.size hb⟩
def fIx {α : Type} (p : α → Bool) : List α → Int → Int
  | [], _ => -1
  | x :: l, i => if p x = true then i else fIx p l (i + 1)
theorem firstIx_fIx (p : SRule → Bool) : ∀ (l : List SRule) (i : Int), firstIx p l i = fIx p l i
  | [], _ => rfl
  | x :: l, i => by rw [firstIx, fIx, firstIx_fIx p l (i + 1)]
theorem fIx_spec {α : Type} (p : α → Bool) : ∀ (l : List α) (i : Int), (fIx p l i = -1 ∧ l.filter (fun x => !p x) = l) ∨ ∃ k : Nat, k < l.length ∧ fIx p l i = i + k ∧ (l.take (k + 1)).filter (fun x => !p x) = l.take k
  | [], i => .inl ⟨rfl, rfl⟩
  | x :: l, i => by
    by_cases h : p x = true
    · exact .inr ⟨0, by simp, by simp [fIx, h], by simp [h]⟩
    · have hb : (!p x) = true := by simpa using h
      rcases fIx_spec p l (i + 1) with ⟨e, f⟩ | ⟨k, hk, e, f⟩
      · exact .inl ⟨by rw [fIx, if_neg h, e], by rw [List.filter_cons, if_pos hb, f]⟩
      · refine .inr ⟨k + 1, by simpa using hk, by rw [fIx, if_neg h, e]; omega, ?_⟩
        rw [List.take_succ_cons, List.filter_cons, if_pos hb, f, List.take_succ_cons]
structure KI {α : Type} (q : α → Bool) (xs ys : List α) (i j : Nat) : Prop where
  len : ys.length = xs.length
  lt : i < j
  le : j ≤ xs.length
  cnt : ((xs.take j).filter q).length = i
  low : ys.take i = (xs.take j).filter q
  high : ys.drop j = xs.drop j
theorem KI.start {α : Type} {q : α → Bool} {xs : List α} {k : Nat} (hk : k < xs.length) (h : (xs.take (k + 1)).filter q = xs.take k) : KI q xs xs k (k + 1) :=
  ⟨rfl, Nat.lt_succ_self _, hk, by rw [h, List.length_take]; omega, h.symm, rfl⟩
theorem KI.read {α : Type} {q : α → Bool} {xs ys : List α} {i j : Nat} (h : KI q xs ys i j) : ys[j]? = xs[j]? := by
  have h1 := congrArg (fun l => l[0]?) h.high
  simpa using h1
theorem KI.keep {α : Type} {q : α → Bool} {xs ys : List α} {i j : Nat} {x : α} (h : KI q xs ys i j) (hj : j < xs.length) (hx : xs[j]? = some x) (hq : q x = true) : KI q xs (ys.set i x) (i + 1) (j + 1) := by
  have e : xs.take (j + 1) = xs.take j ++ [x] := by rw [List.take_add_one, hx]; rfl
  have e2 : (xs.take (j + 1)).filter q = (xs.take j).filter q ++ [x] := by rw [e, List.filter_append, List.filter_cons, if_pos hq, List.filter_nil]
  have hi : i < ys.length := by have := h.lt; have := h.len; omega
  refine ⟨by simpa using h.len, by have := h.lt; omega, hj, by rw [e2, List.length_append, h.cnt]; rfl, ?_, ?_⟩
  · rw [e2, ← h.low, List.take_succ_eq_append_getElem (by simpa using hi)]
    simp only [List.take_set, List.getElem_set_self]
    rw [List.set_eq_of_length_le (by simp; omega)]
  · rw [List.drop_set_of_lt (by have := h.lt; omega), ← List.drop_drop, h.high, List.drop_drop]
theorem KI.skip {α : Type} {q : α → Bool} {xs ys : List α} {i j : Nat} {x : α} (h : KI q xs ys i j) (hj : j < xs.length) (hx : xs[j]? = some x) (hq : q x = false) : KI q xs ys i (j + 1) := by
  have e : xs.take (j + 1) = xs.take j ++ [x] := by rw [List.take_add_one, hx]; rfl
  have e2 : (xs.take (j + 1)).filter q = (xs.take j).filter q := by rw [e, List.filter_append, List.filter_cons, if_neg (by simp [hq]), List.filter_nil, List.append_nil]
  refine ⟨h.len, by have := h.lt; omega, hj, by rw [e2]; exact h.cnt, by rw [e2]; exact h.low, ?_⟩
  rw [← List.drop_drop, h.high, List.drop_drop]
theorem KI.done {α : Type} {q : α → Bool} {xs ys : List α} {i : Nat} (h : KI q xs ys i xs.length) : ys.take i = xs.filter q ∧ i = (xs.filter q).length := by
  have h1 := h.low
  have h2 := h.cnt
  rw [List.take_length] at h1 h2
  exact ⟨h1, h2.symm⟩
theorem clear_cells {P : Program} {n : Nat} (w : World) (t e ty : TypeId) (z : Value) (ht : P.underlying t = some (.slice e)) (hv : ∀ w, (zeroValue e).run P w = .ok z w) (hz : ∀ u ∈ (Builtin.zeroCells z.cells n).toList, u.oneCell' = true) (b o c : Nat) (hn : 0 < n) (hne : 0 < z.cells.size)
    (hc : ∀ j, j < n * z.cells.size → (w.cell? ⟨b, o + j, none⟩).isSome = true) (hf : ∀ j, j < n * z.cells.size → w.frozen? ⟨b, o + j, none⟩ = false) :
    (Builtin.clear_ #[t] ty #[.slice (some ⟨b, o, none⟩) n c]).run P w = .ok (.tuple #[]) (w.setCells b o (Builtin.zeroCells z.cells n).toList) := by
  have hl : (Builtin.zeroCells z.cells n).toList.length = n * z.cells.size := by simp [Builtin.zeroCells]
  have hst := run_storeCells_cells (P := P) b o (Builtin.zeroCells z.cells n).toList 0 w (by rw [hl]; simpa using hc) (by rw [hl]; simpa using hf) hz
  simp only [Nat.add_zero] at hst
  obtain ⟨m, rfl⟩ : ∃ m, n = m + 1 := ⟨n - 1, by omega⟩
  simp [Builtin.clear_, run_underlying ht, hv, hst]
theorem heap_setCells (b : Nat) : ∀ (vs : List Value) (o : Nat) (w : World) (cur : Array Value) (e : TypeId) (fr : Nat × Nat), w.heap[b]? = some (.cells cur e fr) → ∃ cur', (w.setCells b o vs).heap[b]? = some (.cells cur' e fr) ∧ cur'.size = cur.size ∧ ∀ j, j < o → cur'[j]? = cur[j]?
  | [], _, _, cur, _, _, h => ⟨cur, h, rfl, fun _ _ => rfl⟩
  | v :: r, o, w, cur, e, fr, h => by
    have h1 : (w.setCell ⟨b, o, none⟩ v).heap[b]? = some (.cells (cur.setIfInBounds o v) e fr) := by simp [World.setCell, Array.getElem?_modify, h]
    obtain ⟨cur', h2, h3, h4⟩ := heap_setCells b r (o + 1) _ _ _ _ h1
    refine ⟨cur', h2, by simpa using h3, fun j hj => ?_⟩
    rw [h4 j (by omega), Array.getElem?_setIfInBounds, if_neg (by omega)]
theorem R_clear {α : Type} {d : Kd α} {e base g n c : Nat} {ok : Nat → Prop} {w : World} {xs : List α} (h : d.R e w base ok (.slice (some ⟨g, 0, none⟩) n c) xs) (o : Nat) (vs : List Value) (ho : xs.length * d.sz ≤ o) : d.R e (w.setCells g o vs) base ok (.slice (some ⟨g, 0, none⟩) n c) xs := by
  obtain ⟨h0, inner, hown, hr⟩ := h
  refine ⟨h0, inner, ⟨hown.1, ?_⟩, hr.imp_ (fun p cs hp => d.M_move (fun k hk => setCells_far vs o k (fun e_ => hk.2 (by rw [e_]; rfl))) hp)⟩
  rcases hown.2 with ⟨hv, _⟩ | ⟨g', cap, cur, hv, hb, hh, hnc, hcm, hcs, ht⟩
  · cases hv
  · injection hv with ha hn hc
    injection ha with ha
    injection ha with hg
    subst hg; subst hc
    obtain ⟨cur', h2, h3, h4⟩ := heap_setCells g vs o w cur e (0, 0) hh
    refine .inr ⟨g, c, cur', by rw [hn], hb, h2, hnc, hcm, by rw [h3]; exact hcs, ?_⟩
    rw [← ht]
    apply List.ext_getElem?
    intro j
    simp only [List.getElem?_take, Array.getElem?_toList]
    split
    · next hj => exact h4 j (by omega)
    · rfl
theorem grown_setCells (w : World) (g o : Nat) (vs : List Value) : w.grownBy (w.setCells g o vs) (some g) :=
  ⟨(setCells_same g vs o w).1, (setCells_same g vs o w).2.1, (setCells_same g vs o w).2.2.1, Nat.le_of_eq (setCells_same g vs o w).2.2.2.symm, fun k _ hk => setCells_far vs o k (fun e => hk (by rw [e]))⟩
theorem R_cells {α : Type} {d : Kd α} {e base g n c : Nat} {ok : Nat → Prop} {w : World} {xs : List α} (h : d.R e w base ok (.slice (some ⟨g, 0, none⟩) n c) xs) (o : Nat) (ho : o < xs.length * d.sz) : (w.cell? ⟨g, o, none⟩).isSome = true ∧ w.frozen? ⟨g, o, none⟩ = false := by
  obtain ⟨h0, inner, hown, hr⟩ := h
  rcases hown.2 with ⟨hv, _⟩ | ⟨g', cap, cur, hv, hb, hh, hnc, hcm, hcs, ht⟩
  · cases hv
  · injection hv with ha hn hc
    injection ha with ha
    injection ha with hg
    subst hg; subst hc
    have hlt : o < cur.size := by
      rw [hcs]
      exact Nat.lt_of_lt_of_le ho (Nat.mul_le_mul_right _ hnc)
    refine ⟨?_, blk_frozen hh o⟩
    rw [blk_cell hh o, Array.getElem?_eq_getElem hlt]; rfl
theorem add_off (g o n : Nat) : (⟨g, o, none⟩ : Addr).add n = ⟨g, o + n, none⟩ := add_at g o n
theorem zero_run {P : Program} {e : TypeId} {z : Value} {size bytes : Nat} (h : (P.info? e).map (fun i => (i.zero, i.size, i.bytes)) = some (some z, size, bytes)) (w : World) : (zeroValue e).run P w = .ok z w := by
  obtain ⟨i, hi, hz⟩ := Option.map_eq_some_iff.1 h
  simp only [Prod.mk.injEq] at hz
  simp [zeroValue, typeInfo, hi, hz.1]
def kRaw (β : Type) : Kd (List Value × β) := Kd.iso (Kd.raw 1) Prod.fst
theorem seg_one (l : List Value) (j : Nat) (u : Value) (h : l[j]? = some u) : (l.drop (j * 1)).take 1 = [u] := by
  rw [Nat.mul_one]
  obtain ⟨hj, rfl⟩ := List.getElem?_eq_some_iff.1 h
  rw [List.drop_eq_getElem_cons hj]; rfl
theorem raw_of_S {β : Type} {d : Kd β} {e base : Nat} {ok : Nat → Prop} {w : World} {v : Value} {xs : List β} (h : Kd.S d e w base ok v xs) (hs : d.sz = 1) :
    ∃ (f : Nat → Nat) (zs : List (List Value × β)), zs.map Prod.snd = xs ∧ Kd.R (kRaw β) e w base ok v zs ∧ ∀ m z, zs[m]? = some z → (Kd.tag f d).M w base (fun k => ok k ∧ some k ≠ v.ownBlock) (z.2, m) z.1 := by
  obtain ⟨f, h0, inner, ho, hr⟩ := h
  have hsz : (Kd.tag f d).sz = 1 := hs
  rw [hsz] at ho hr
  rw [List.length_zipIdx] at ho
  have hil : inner.length = xs.length := by have := hr.1; rw [List.length_zipIdx] at this; omega
  have hz : ∀ (m : Nat) (z : List Value × β), (List.zipWith (fun u x => ([u], x)) inner xs)[m]? = some z → ∃ (u : Value) (x : β), inner[m]? = some u ∧ xs[m]? = some x ∧ z = ([u], x) := by
    intro m z hm
    rw [List.getElem?_zipWith] at hm
    cases h1 : inner[m]? with
    | none => rw [h1] at hm; simp at hm
    | some u =>
      cases h2 : xs[m]? with
      | none => rw [h1, h2] at hm; simp at hm
      | some x => rw [h1, h2] at hm; simp at hm; exact ⟨u, x, rfl, rfl, hm.symm⟩
  have hM : ∀ (m : Nat) (z : List Value × β), (List.zipWith (fun u x => ([u], x)) inner xs)[m]? = some z → (Kd.tag f d).M w base (fun k => ok k ∧ some k ≠ v.ownBlock) (z.2, m) z.1 := by
    intro m z hm
    obtain ⟨u, x, h1, h2, rfl⟩ := hz m z hm
    have h3 := hr.2 m (x, m) (Kd.zip_at h2)
    rwa [seg_one inner m u h1] at h3
  have hlen : (List.zipWith (fun u x => ([u], x)) inner xs).length = xs.length := by rw [List.length_zipWith]; omega
  refine ⟨f, List.zipWith (fun u x => ([u], x)) inner xs, ?_, ⟨h0, inner, by rw [hlen]; exact ho, by rw [hlen]; show inner.length = xs.length * 1; omega, fun m z hm => ?_⟩, hM⟩
  · apply List.ext_getElem?
    intro m
    rw [List.getElem?_map, List.getElem?_zipWith]
    cases h2 : xs[m]? with
    | none => cases inner[m]? <;> rfl
    | some x =>
      have : m < inner.length := by rw [hil]; exact (List.getElem?_eq_some_iff.1 h2).1
      rw [List.getElem?_eq_getElem this]; rfl
  · obtain ⟨u, x, h1, h2, rfl⟩ := hz m z hm
    show (kRaw β).M w base _ ([u], x) ((inner.drop (m * 1)).take 1)
    rw [seg_one inner m u h1]
    exact ⟨rfl, rfl, (Kd.tag f d).K_one ((Kd.tag f d).K_of_M (hM m _ hm))⟩
theorem filter_at {α : Type} (q : α → Bool) : ∀ (l : List α) (j : Nat) (z : α), (l.filter q)[j]? = some z → ∃ m, l[m]? = some z ∧ ((l.take m).filter q).length = j
  | [], j, z, h => by simp at h
  | x :: l, j, z, h => by
    by_cases hq : q x = true
    · rw [List.filter_cons, if_pos hq] at h
      cases j with
      | zero => exact ⟨0, by simpa using h, rfl⟩
      | succ j =>
        obtain ⟨m, h1, h2⟩ := filter_at q l j z (by simpa using h)
        exact ⟨m + 1, by simpa using h1, by rw [List.take_succ_cons, List.filter_cons, if_pos hq, List.length_cons, h2]⟩
    · rw [List.filter_cons, if_neg hq] at h
      obtain ⟨m, h1, h2⟩ := filter_at q l j z h
      exact ⟨m + 1, by simpa using h1, by rw [List.take_succ_cons, List.filter_cons, if_neg hq, h2]⟩
theorem S_of_raw {β : Type} {d : Kd β} (hs : d.sz = 1) {e base : Nat} {ok ok' : Nat → Prop} {w : World} {v : Value} {f : Nat → Nat} {zs : List (List Value × β)} (q : List Value × β → Bool)
    (hM : ∀ m z, zs[m]? = some z → (Kd.tag f d).M w base ok' (z.2, m) z.1) (hok : ∀ k, ok' k → ok k ∧ some k ≠ v.ownBlock) (h : Kd.R (kRaw β) e w base ok v (zs.filter q)) : Kd.S d e w base ok v ((zs.filter q).map Prod.snd) := by
  obtain ⟨h0, inner, ho, hr⟩ := h
  have hl : ((zs.filter q).map Prod.snd).zipIdx.length = (zs.filter q).length := by rw [List.length_zipIdx, List.length_map]
  refine ⟨fun k => ((zs.take (f k)).filter q).length, h0, inner, by rw [hl]; show w.ownsRow base e d.sz v _ inner; rw [hs]; exact ho, by rw [hl]; show inner.length = _ * d.sz; rw [hs]; exact hr.1, fun j y hj => ?_⟩
  rw [List.getElem?_zipIdx, Nat.zero_add] at hj
  obtain ⟨x, hx, rfl⟩ := Option.map_eq_some_iff.1 hj
  rw [List.getElem?_map] at hx
  obtain ⟨z, hz, rfl⟩ := Option.map_eq_some_iff.1 hx
  obtain ⟨m, h1, h2⟩ := filter_at q zs j z hz
  have hraw : (inner.drop (j * 1)).take 1 = z.1 := (hr.2 j z hz).1
  show (Kd.tag _ d).M w base _ (z.2, j) ((inner.drop (j * d.sz)).take d.sz)
  rw [hs, hraw]
  refine d.M_mono (fun k hk => ⟨hok k hk.1, ?_⟩) (hM m z h1)
  have h3 : f k = m := hk.2
  show ((zs.take (f k)).filter q).length = j
  rw [h3]; exact h2
end Go.Proofs.YtkloiiojigofpaaDoor.P
namespace Go.Proofs.YtkloiiojigofpaaDoor.P
open Go.RowKit Go.Proofs.YtkloiiojigofpaaDoorW.PrintWords Go.Proofs.YtkloiiojigofpaaDoorW.PrintLast Go.Proofs.YtkloiiojigofpaaDoorW.PrintMore
attribute [local go_sem] max2_int min2_int max_two min_two max_three min_three max_four min_four
set_option linter.unusedVariables false
set_option linter.unusedSimpArgs false
def spec_siRest.f (a0 : Int) (a1 : Int) : Option (Int) := if a1 = 0 then (none) else (some (Int.tmod (wrap64 ((Int.tmod a0 a1) + a1)) a1))
set_option maxHeartbeats 8000000 in
set_option maxRecDepth 100000 in
theorem spec_siRest.calls (a0 : Int) (a1 : Int) (r : Int) (w : World) (h : spec_siRest.f a0 a1 = some r) :
    Calls Tryd.prog 95 #[.int .i64 a0, .int .i64 a1] w fun e w' => e = .returned (.int .i64 r) ∧ Drawn0 w w' := by
  have H : (if a1 = 0 then (none) else (some (Int.tmod (wrap64 ((Int.tmod a0 a1) + a1)) a1))) = some r := h
  clear h
  by_cases c3 : a1 = 0
  · rw [if_pos c3] at H
    exact absurd H (by simp)
  · rw [if_neg c3] at H
    have c3b0 : (a1 == 0) = false := beq_eq_false_iff_ne.mpr c3
    have c3b1 : (a1 != 0) = true := bne_iff_ne.mpr c3
    obtain rfl := Option.some.inj H
    go_enter Tryd.func95, Tryd.ntmps95
    go_wp2
    go_ret
    exact ⟨by first | rfl | (simp; done) | (simp [*]; done), by repeat (first | exact Drawn0.refl _ | apply Drawn0.step)⟩
end Go.Proofs.YtkloiiojigofpaaDoor.P
namespace Go.Proofs.YtkloiiojigofpaaDoor.P
open Go.RowKit Go.Proofs.YtkloiiojigofpaaDoorW.PrintWords Go.Proofs.YtkloiiojigofpaaDoorW.PrintLast Go.Proofs.YtkloiiojigofpaaDoorW.PrintMore
attribute [local go_sem] max2_int min2_int max_two min_two max_three min_three max_four min_four
set_option linter.unusedVariables false
set_option linter.unusedSimpArgs false
def spec_siFirst.l0 : Nat → Int → List (SRule) → Int → Int → Option (Int)
  | 0, _, _, _, _ => none
  | k + 1, x1, x7, x8, x9 => if x9 < x8 then (if 0 ≤ x9 then (if x9 < (x7.length : Int) then ((spec_siRest.f x1 ((rd_Rule x7 x9).f0)).bind fun t103 => (if t103 = ((rd_Rule x7 x9).f1) then (some x9) else (spec_siFirst.l0 k x1 x7 x8 (wrap64 (x9 + 1))))) else (none)) else (none)) else (some (-1))
def spec_siFirst.f (k : Nat) (l0 : List (SRule)) (a1 : Int) : Option (Int) := spec_siFirst.l0 k a1 l0 (l0.length : Int) 0
set_option maxHeartbeats 8000000 in
set_option maxRecDepth 100000 in
theorem spec_siFirst.calls (k : Nat) (A0 : Option Addr) (c0 : Nat) (l0 : List (SRule)) (a1 : Int) (r : Int) (w : World) (hr0 : Kd.C kRule w A0 l0.length l0) (hc0 : l0.length ≤ c0) (h : spec_siFirst.f k l0 a1 = some r) :
    Calls Tryd.prog 82 #[.slice A0 l0.length c0, .int .i64 a1] w fun e w' => e = .returned (.int .i64 r) ∧ Below w.heap.size w w' := by
  have hu54 := Tryd.underlying54
  have HR0 := Aside0.mk hr0
  have HC0 := Aside0.mk hc0
  clear hr0 hc0
  have HB := Aside0.mk (Below.refl w.heap.size w)
  have H : (spec_siFirst.l0 k a1 l0 (l0.length : Int) 0) = some r := h
  clear h
  have H' := Aside0.mk H
  clear H
  go_enter Tryd.func82, Tryd.ntmps82
  go_wp2
  repeat (go_quiet (fail); try go_wp2)
  go_loopg [9] k (fun kq v9 w' => ∃ (x9_1 : Int), v9 = .int .i64 x9_1 ∧ Aside0 (spec_siFirst.l0 kq a1 l0 (l0.length : Int) x9_1 = some r) ∧ Aside0 (kq ≤ k) ∧ Aside0 (Below w.heap.size w w'))
  case atStart => exact ⟨(0), (by first | rfl | (simp; done) | (simp [*]; done)), H', ⟨Nat.le_refl _⟩, ⟨by repeat (first | (with_reducible first | exact HB.out | apply below_alloc | apply pw_below_drewN | apply below_drew1) | exact HB.out)⟩⟩
  case round =>
    clear H'
    try clear p2
    obtain ⟨x9_1, rfl, HA, HK1, HB⟩ := hrel
    cases gk with
    | zero => exact absurd HA.out (by simp [spec_siFirst.l0])
    | succ k1 =>
      have H := HA.out
      clear HA
      simp only [spec_siFirst.l0] at H
      by_cases c3 : x9_1 < (l0.length : Int)
      · rw [if_pos c3] at H
        have c3b0 : decide (x9_1 < (l0.length : Int)) = true := decide_eq_true c3
        clear c3
        by_cases c4 : 0 ≤ x9_1
        · rw [if_pos c4] at H
          have c4b0 : decide (0 ≤ x9_1) = true := decide_eq_true c4
          clear c4
          by_cases c5 : x9_1 < (l0.length : Int)
          · rw [if_pos c5] at H
            have c5b0 : decide (x9_1 < (l0.length : Int)) = true := decide_eq_true c5
            clear c5
            replace H := Option.bind_eq_some_iff.mp H
            obtain ⟨t103, A60, H⟩ := H
            replace H : (if t103 = ((rd_Rule l0 x9_1).f1) then (some x9_1) else (spec_siFirst.l0 k1 a1 l0 (l0.length : Int) (wrap64 (x9_1 + 1)))) = some r := H
            have A6 := Aside0.mk A60
            clear A60
            by_cases c7 : t103 = ((rd_Rule l0 x9_1).f1)
            · rw [if_pos c7] at H
              have c7b0 : (t103 == ((rd_Rule l0 x9_1).f1)) = true := beq_iff_eq.mpr c7
              have c7b1 : (t103 != ((rd_Rule l0 x9_1).f1)) = false := bne_eq_false_iff_eq.mpr c7
              clear c7
              obtain rfl := Option.some.inj H
              have p101 : 0 ≤ (x9_1 : Int) := of_decide_eq_true (by first | (with_reducible assumption) | assumption)
              have q101 : x9_1 < (l0.length : Int) := of_decide_eq_true (by first | (with_reducible assumption) | assumption)
              obtain ⟨ad101, e101, hx101_0, hx101_1⟩ := at_Rule HR0.out x9_1 p101 q101
              cases e101
              replace hx101_0 := (HB.out.cell (World.block_lt_of_cell? w _ hx101_0)).trans hx101_0
              replace hx101_1 := (HB.out.cell (World.block_lt_of_cell? w _ hx101_1)).trans hx101_1
              replace p101 := eq_true p101
              replace q101 := eq_true q101
              go_wp2_with (first | ((with_reducible refine gate_dst (N := 6) rfl ?_); refine box_event ?hg (N := 6) ?hd (cs := #[.int .i64 0, .int .i64 0]) (t := 54) ?hr ?_; (case hd => rfl); (case hg => rfl); (case hr => first | (go_simp; done) | (go_simp; rfl)); intro gb102 hg w8 hbox hb; have n0_ := Aside0.mk (below_step (by repeat (first | (with_reducible first | exact HB.out | apply below_alloc | apply pw_below_drewN | apply below_drew1) | exact HB.out)) hb); have n1_ := Aside0.mk (hbox); have n2_ := Aside0.mk ((by rw [hg]; exact (below_size (by repeat (first | (with_reducible first | exact HB.out | apply below_alloc | apply pw_below_drewN | apply below_drew1) | exact HB.out))) : w.heap.size ≤ gb102)); have n3_ := Aside0.mk ((by rw [hg]; exact (below_size (by repeat (first | (with_reducible first | exact HB.out | apply below_alloc | apply pw_below_drewN | apply below_drew1) | exact HB.out))) : w.heap.size ≤ gb102)); clear HB; have HB := n0_; have BK102 := n1_; have GW102 := n2_; have GE102 := n3_; clear n0_ n1_ n2_ n3_; clear hb hbox hg; have hcz9_0 : w8.cell? ⟨gb102, 0, none⟩ = some (.int .i64 0) := (blk_cell BK102.out 0).trans rfl; have hcz9_1 : w8.cell? ⟨gb102, 1, none⟩ = some (.int .i64 0) := (blk_cell BK102.out 1).trans rfl; have hfz9_0 := blk_frozen BK102.out 0; have hfz9_1 := blk_frozen BK102.out 1) | (go_at_call 95; (with_reducible refine (spec_siRest.calls a1 ((rd_Rule l0 x9_1).f0) t103 _ A6.out).mono ?_); rintro e w' ⟨rfl, ⟨nd, rfl⟩⟩; (try first | exact ⟨rfl, _, World.drewN_drewN _ _ _⟩ | exact ⟨rfl, _, Eq.trans (World.drewN_drewN _ _ _) (congrArg (World.drewN _) (Nat.add_assoc _ _ _))⟩)))
              repeat (go_quiet (first | ((with_reducible refine gate_dst (N := 6) rfl ?_); refine box_event ?hg (N := 6) ?hd (cs := #[.int .i64 0, .int .i64 0]) (t := 54) ?hr ?_; (case hd => rfl); (case hg => rfl); (case hr => first | (go_simp; done) | (go_simp; rfl)); intro gb102 hg w8 hbox hb; have n0_ := Aside0.mk (below_step (by repeat (first | (with_reducible first | exact HB.out | apply below_alloc | apply pw_below_drewN | apply below_drew1) | exact HB.out)) hb); have n1_ := Aside0.mk (hbox); have n2_ := Aside0.mk ((by rw [hg]; exact (below_size (by repeat (first | (with_reducible first | exact HB.out | apply below_alloc | apply pw_below_drewN | apply below_drew1) | exact HB.out))) : w.heap.size ≤ gb102)); have n3_ := Aside0.mk ((by rw [hg]; exact (below_size (by repeat (first | (with_reducible first | exact HB.out | apply below_alloc | apply pw_below_drewN | apply below_drew1) | exact HB.out))) : w.heap.size ≤ gb102)); clear HB; have HB := n0_; have BK102 := n1_; have GW102 := n2_; have GE102 := n3_; clear n0_ n1_ n2_ n3_; clear hb hbox hg; have hcz9_0 : w8.cell? ⟨gb102, 0, none⟩ = some (.int .i64 0) := (blk_cell BK102.out 0).trans rfl; have hcz9_1 : w8.cell? ⟨gb102, 1, none⟩ = some (.int .i64 0) := (blk_cell BK102.out 1).trans rfl; have hfz9_0 := blk_frozen BK102.out 0; have hfz9_1 := blk_frozen BK102.out 1) | (go_at_call 95; (with_reducible refine (spec_siRest.calls a1 ((rd_Rule l0 x9_1).f0) t103 _ A6.out).mono ?_); rintro e w' ⟨rfl, ⟨nd, rfl⟩⟩; (try first | exact ⟨rfl, _, World.drewN_drewN _ _ _⟩ | exact ⟨rfl, _, Eq.trans (World.drewN_drewN _ _ _) (congrArg (World.drewN _) (Nat.add_assoc _ _ _))⟩))); try go_wp2_with (first | ((with_reducible refine gate_dst (N := 6) rfl ?_); refine box_event ?hg (N := 6) ?hd (cs := #[.int .i64 0, .int .i64 0]) (t := 54) ?hr ?_; (case hd => rfl); (case hg => rfl); (case hr => first | (go_simp; done) | (go_simp; rfl)); intro gb102 hg w8 hbox hb; have n0_ := Aside0.mk (below_step (by repeat (first | (with_reducible first | exact HB.out | apply below_alloc | apply pw_below_drewN | apply below_drew1) | exact HB.out)) hb); have n1_ := Aside0.mk (hbox); have n2_ := Aside0.mk ((by rw [hg]; exact (below_size (by repeat (first | (with_reducible first | exact HB.out | apply below_alloc | apply pw_below_drewN | apply below_drew1) | exact HB.out))) : w.heap.size ≤ gb102)); have n3_ := Aside0.mk ((by rw [hg]; exact (below_size (by repeat (first | (with_reducible first | exact HB.out | apply below_alloc | apply pw_below_drewN | apply below_drew1) | exact HB.out))) : w.heap.size ≤ gb102)); clear HB; have HB := n0_; have BK102 := n1_; have GW102 := n2_; have GE102 := n3_; clear n0_ n1_ n2_ n3_; clear hb hbox hg; have hcz9_0 : w8.cell? ⟨gb102, 0, none⟩ = some (.int .i64 0) := (blk_cell BK102.out 0).trans rfl; have hcz9_1 : w8.cell? ⟨gb102, 1, none⟩ = some (.int .i64 0) := (blk_cell BK102.out 1).trans rfl; have hfz9_0 := blk_frozen BK102.out 0; have hfz9_1 := blk_frozen BK102.out 1) | (go_at_call 95; (with_reducible refine (spec_siRest.calls a1 ((rd_Rule l0 x9_1).f0) t103 _ A6.out).mono ?_); rintro e w' ⟨rfl, ⟨nd, rfl⟩⟩; (try first | exact ⟨rfl, _, World.drewN_drewN _ _ _⟩ | exact ⟨rfl, _, Eq.trans (World.drewN_drewN _ _ _) (congrArg (World.drewN _) (Nat.add_assoc _ _ _))⟩))))
              go_ret
              exact ⟨by first | rfl | (simp [errW_none, errW_some] <;> rfl) | (simp [*, errW_none, errW_some] <;> rfl), by repeat (first | (with_reducible first | exact HB.out | apply below_alloc | apply pw_below_drewN | apply below_drew1 | refine below_set ?_ GE102.out) | exact HB.out)⟩
            · rw [if_neg c7] at H
              have c7b0 : (t103 == ((rd_Rule l0 x9_1).f1)) = false := beq_eq_false_iff_ne.mpr c7
              have c7b1 : (t103 != ((rd_Rule l0 x9_1).f1)) = true := bne_iff_ne.mpr c7
              have H' := Aside0.mk H
              clear H
              have p101 : 0 ≤ (x9_1 : Int) := of_decide_eq_true (by first | (with_reducible assumption) | assumption)
              have q101 : x9_1 < (l0.length : Int) := of_decide_eq_true (by first | (with_reducible assumption) | assumption)
              obtain ⟨ad101, e101, hx101_0, hx101_1⟩ := at_Rule HR0.out x9_1 p101 q101
              cases e101
              replace hx101_0 := (HB.out.cell (World.block_lt_of_cell? w _ hx101_0)).trans hx101_0
              replace hx101_1 := (HB.out.cell (World.block_lt_of_cell? w _ hx101_1)).trans hx101_1
              replace p101 := eq_true p101
              replace q101 := eq_true q101
              go_wp2_with (first | ((with_reducible refine gate_dst (N := 6) rfl ?_); refine box_event ?hg (N := 6) ?hd (cs := #[.int .i64 0, .int .i64 0]) (t := 54) ?hr ?_; (case hd => rfl); (case hg => rfl); (case hr => first | (go_simp; done) | (go_simp; rfl)); intro gb102 hg w10 hbox hb; have n0_ := Aside0.mk (below_step (by repeat (first | (with_reducible first | exact HB.out | apply below_alloc | apply pw_below_drewN | apply below_drew1) | exact HB.out)) hb); have n1_ := Aside0.mk (hbox); have n2_ := Aside0.mk ((by rw [hg]; exact (below_size (by repeat (first | (with_reducible first | exact HB.out | apply below_alloc | apply pw_below_drewN | apply below_drew1) | exact HB.out))) : w.heap.size ≤ gb102)); have n3_ := Aside0.mk ((by rw [hg]; exact (below_size (by repeat (first | (with_reducible first | exact HB.out | apply below_alloc | apply pw_below_drewN | apply below_drew1) | exact HB.out))) : w.heap.size ≤ gb102)); clear HB; have HB := n0_; have BK102 := n1_; have GW102 := n2_; have GE102 := n3_; clear n0_ n1_ n2_ n3_; clear hb hbox hg; have hcz11_0 : w10.cell? ⟨gb102, 0, none⟩ = some (.int .i64 0) := (blk_cell BK102.out 0).trans rfl; have hcz11_1 : w10.cell? ⟨gb102, 1, none⟩ = some (.int .i64 0) := (blk_cell BK102.out 1).trans rfl; have hfz11_0 := blk_frozen BK102.out 0; have hfz11_1 := blk_frozen BK102.out 1) | (go_at_call 95; (with_reducible refine (spec_siRest.calls a1 ((rd_Rule l0 x9_1).f0) t103 _ A6.out).mono ?_); rintro e w' ⟨rfl, ⟨nd, rfl⟩⟩; (try first | exact ⟨rfl, _, World.drewN_drewN _ _ _⟩ | exact ⟨rfl, _, Eq.trans (World.drewN_drewN _ _ _) (congrArg (World.drewN _) (Nat.add_assoc _ _ _))⟩)))
              repeat (go_quiet (first | ((with_reducible refine gate_dst (N := 6) rfl ?_); refine box_event ?hg (N := 6) ?hd (cs := #[.int .i64 0, .int .i64 0]) (t := 54) ?hr ?_; (case hd => rfl); (case hg => rfl); (case hr => first | (go_simp; done) | (go_simp; rfl)); intro gb102 hg w10 hbox hb; have n0_ := Aside0.mk (below_step (by repeat (first | (with_reducible first | exact HB.out | apply below_alloc | apply pw_below_drewN | apply below_drew1) | exact HB.out)) hb); have n1_ := Aside0.mk (hbox); have n2_ := Aside0.mk ((by rw [hg]; exact (below_size (by repeat (first | (with_reducible first | exact HB.out | apply below_alloc | apply pw_below_drewN | apply below_drew1) | exact HB.out))) : w.heap.size ≤ gb102)); have n3_ := Aside0.mk ((by rw [hg]; exact (below_size (by repeat (first | (with_reducible first | exact HB.out | apply below_alloc | apply pw_below_drewN | apply below_drew1) | exact HB.out))) : w.heap.size ≤ gb102)); clear HB; have HB := n0_; have BK102 := n1_; have GW102 := n2_; have GE102 := n3_; clear n0_ n1_ n2_ n3_; clear hb hbox hg; have hcz11_0 : w10.cell? ⟨gb102, 0, none⟩ = some (.int .i64 0) := (blk_cell BK102.out 0).trans rfl; have hcz11_1 : w10.cell? ⟨gb102, 1, none⟩ = some (.int .i64 0) := (blk_cell BK102.out 1).trans rfl; have hfz11_0 := blk_frozen BK102.out 0; have hfz11_1 := blk_frozen BK102.out 1) | (go_at_call 95; (with_reducible refine (spec_siRest.calls a1 ((rd_Rule l0 x9_1).f0) t103 _ A6.out).mono ?_); rintro e w' ⟨rfl, ⟨nd, rfl⟩⟩; (try first | exact ⟨rfl, _, World.drewN_drewN _ _ _⟩ | exact ⟨rfl, _, Eq.trans (World.drewN_drewN _ _ _) (congrArg (World.drewN _) (Nat.add_assoc _ _ _))⟩))); try go_wp2_with (first | ((with_reducible refine gate_dst (N := 6) rfl ?_); refine box_event ?hg (N := 6) ?hd (cs := #[.int .i64 0, .int .i64 0]) (t := 54) ?hr ?_; (case hd => rfl); (case hg => rfl); (case hr => first | (go_simp; done) | (go_simp; rfl)); intro gb102 hg w10 hbox hb; have n0_ := Aside0.mk (below_step (by repeat (first | (with_reducible first | exact HB.out | apply below_alloc | apply pw_below_drewN | apply below_drew1) | exact HB.out)) hb); have n1_ := Aside0.mk (hbox); have n2_ := Aside0.mk ((by rw [hg]; exact (below_size (by repeat (first | (with_reducible first | exact HB.out | apply below_alloc | apply pw_below_drewN | apply below_drew1) | exact HB.out))) : w.heap.size ≤ gb102)); have n3_ := Aside0.mk ((by rw [hg]; exact (below_size (by repeat (first | (with_reducible first | exact HB.out | apply below_alloc | apply pw_below_drewN | apply below_drew1) | exact HB.out))) : w.heap.size ≤ gb102)); clear HB; have HB := n0_; have BK102 := n1_; have GW102 := n2_; have GE102 := n3_; clear n0_ n1_ n2_ n3_; clear hb hbox hg; have hcz11_0 : w10.cell? ⟨gb102, 0, none⟩ = some (.int .i64 0) := (blk_cell BK102.out 0).trans rfl; have hcz11_1 : w10.cell? ⟨gb102, 1, none⟩ = some (.int .i64 0) := (blk_cell BK102.out 1).trans rfl; have hfz11_0 := blk_frozen BK102.out 0; have hfz11_1 := blk_frozen BK102.out 1) | (go_at_call 95; (with_reducible refine (spec_siRest.calls a1 ((rd_Rule l0 x9_1).f0) t103 _ A6.out).mono ?_); rintro e w' ⟨rfl, ⟨nd, rfl⟩⟩; (try first | exact ⟨rfl, _, World.drewN_drewN _ _ _⟩ | exact ⟨rfl, _, Eq.trans (World.drewN_drewN _ _ _) (congrArg (World.drewN _) (Nat.add_assoc _ _ _))⟩))))
              go_roundg k1
              case measure => have := HK1.out; omega
              case rel => exact ⟨(wrap64 (x9_1 + 1)), (by first | rfl | (simp; done) | (simp [*]; done)), H', ⟨by have := HK1.out; omega⟩, ⟨by repeat (first | (with_reducible first | exact HB.out | apply below_alloc | apply pw_below_drewN | apply below_drew1 | refine below_set ?_ GE102.out) | exact HB.out)⟩⟩
          · rw [if_neg c5] at H
            exact absurd H (by simp)
        · rw [if_neg c4] at H
          exact absurd H (by simp)
      · rw [if_neg c3] at H
        have c3b0 : decide (x9_1 < (l0.length : Int)) = false := decide_eq_false c3
        clear c3
        obtain rfl := Option.some.inj H
        go_wp2
        repeat (go_quiet (fail); try go_wp2)
        go_ret
        exact ⟨by first | rfl | (simp [errW_none, errW_some] <;> rfl) | (simp [*, errW_none, errW_some] <;> rfl), by repeat (first | (with_reducible first | exact HB.out | apply below_alloc | apply pw_below_drewN | apply below_drew1) | exact HB.out)⟩
end Go.Proofs.YtkloiiojigofpaaDoor.P
namespace Go.Proofs.YtkloiiojigofpaaDoor.P
open Go.RowKit Go.Proofs.YtkloiiojigofpaaDoorW.PrintWords Go.Proofs.YtkloiiojigofpaaDoorW.PrintLast Go.Proofs.YtkloiiojigofpaaDoorW.PrintMore
attribute [local go_sem] max2_int min2_int max_two min_two max_three min_three max_four min_four
set_option linter.unusedVariables false
set_option linter.unusedSimpArgs false
def spec_siLeft.f (k : Nat) (l0 : List (SRule)) (a1 : Int) : Option (Bool) := (spec_siFirst.f k l0 a1).bind fun t101 => (some (decide (t101 < 0)))
set_option maxHeartbeats 8000000 in
set_option maxRecDepth 100000 in
theorem spec_siLeft.calls (k : Nat) (A0 : Option Addr) (c0 : Nat) (l0 : List (SRule)) (a1 : Int) (r : Bool) (w : World) (hr0 : Kd.C kRule w A0 l0.length l0) (hc0 : l0.length ≤ c0) (h : spec_siLeft.f k l0 a1 = some r) :
    Calls Tryd.prog 64 #[.slice A0 l0.length c0, .int .i64 a1] w fun e w' => e = .returned (.bool r) ∧ Below w.heap.size w w' := by
  have HR0 := Aside0.mk hr0
  have HC0 := Aside0.mk hc0
  clear hr0 hc0
  have HB := Aside0.mk (Below.refl w.heap.size w)
  have H : ((spec_siFirst.f k l0 a1).bind fun t101 => (some (decide (t101 < 0)))) = some r := h
  clear h
  replace H := Option.bind_eq_some_iff.mp H
  obtain ⟨t101, A30, H⟩ := H
  replace H : (some (decide (t101 < 0))) = some r := H
  have A3 := Aside0.mk A30
  clear A30
  obtain rfl := Option.some.inj H
  go_enter Tryd.func64, Tryd.ntmps64
  go_wp2_with (first | ((with_reducible refine gate_callee (f := 82) rfl ?_); refine goesL_ (some 7) rfl rfl Tryd.func82 (by kernel_rfl) rfl #[.slice A0 l0.length c0, .int .i64 a1] rfl (by (try simp only [List.map_toArray, List.map_cons, List.map_nil]); first | done | rfl | (simp only [List.length_drop, List.length_take]; rfl)) ?_; (with_reducible refine (spec_siFirst.calls k _ _ l0 a1 t101 _ ?side1 ?side2 A3.out).mono ?_); (case side1 => repeat (first | exact HR0.out | (with_reducible refine Kd.C_alloc ?_ _) | (with_reducible refine Kd.C_drewN ?_ _) | (with_reducible refine Kd.C_drew ?_))); (case side2 => exact HC0.out); rintro e w4 ⟨rfl, hb⟩; refine ⟨_, rfl, ?_⟩; have n0_ := Aside0.mk (below_step (by repeat (first | (with_reducible first | exact HB.out | apply below_alloc | apply pw_below_drewN | apply below_drew1) | exact HB.out)) hb); clear HB; have HB := n0_; clear n0_; (try clear hb); (try clear hb2); (try clear hk); (try clear hi)))
  go_ret
  exact ⟨by first | rfl | (simp [errW_none, errW_some] <;> rfl) | (simp [*, errW_none, errW_some] <;> rfl), by repeat (first | (with_reducible first | exact HB.out | apply below_alloc | apply pw_below_drewN | apply below_drew1) | exact HB.out)⟩
end Go.Proofs.YtkloiiojigofpaaDoor.P
namespace Go.Proofs.YtkloiiojigofpaaDoor.P
open Go.RowKit Go.Proofs.YtkloiiojigofpaaDoorW.PrintWords Go.Proofs.YtkloiiojigofpaaDoorW.PrintLast Go.Proofs.YtkloiiojigofpaaDoorW.PrintMore
attribute [local go_sem] max2_int min2_int max_two min_two max_three min_three max_four min_four
set_option linter.unusedVariables false
set_option linter.unusedSimpArgs false
def spec_pzFits.l0 : Nat → ByteArray → Int → Int → Nat → Option Bool
  | 0, _, _, _, _ => none
  | k + 1, s, e, t, pos => if pos < s.size then (if bt s pos < 128 then (if bt s pos = 111 then ((spec_siRest.f (wrap64 ((pos : Int) + 1)) e).bind fun q => (if q = t then some false else spec_pzFits.l0 k s e t (pos + 1))) else spec_pzFits.l0 k s e t (pos + 1)) else none) else some true
def spec_pzFits.f (k : Nat) (a0 : ByteArray) (a1_0 : Int) (a1_1 : Int) : Option (Bool) := spec_pzFits.l0 k a0 a1_0 a1_1 0
theorem bt_get (s : ByteArray) (pos : Nat) (h : pos < s.size) : ((s[pos]'h).toNat : Int) = bt s pos := by
  exact bt_at s (pos : Int) h
set_option maxHeartbeats 8000000 in
set_option maxRecDepth 100000 in
theorem spec_pzFits.calls (k : Nat) (a0 : ByteArray) (a1_0 : Int) (a1_1 : Int) (r : Bool) (w : World) (h : spec_pzFits.f k a0 a1_0 a1_1 = some r) :
    Calls Tryd.prog 77 #[.string a0, .agg #[.int .i64 a1_0, .int .i64 a1_1]] w fun e w' => e = .returned (.bool r) ∧ Below w.heap.size w w' := by
  have hu := Tryd.underlying54
  have H : spec_pzFits.l0 k a0 a1_0 a1_1 0 = some r := h
  clear h
  have H' := Aside0.mk H
  clear H
  go_enter Tryd.func77, Tryd.ntmps77
  go_wp2
  go_loopg [] k (fun kq wx => ∃ pos : Nat, wx.heap[w.heap.size + 1]? = some (.stringIter a0 pos) ∧ Aside0 (Below w.heap.size w wx) ∧ wx.cell? ⟨w.heap.size, 0, none⟩ = some (.int .i64 a1_0) ∧ wx.cell? ⟨w.heap.size, 1, none⟩ = some (.int .i64 a1_1) ∧ Aside0 (spec_pzFits.l0 kq a0 a1_0 a1_1 pos = some r) ∧ Aside0 (kq ≤ k))
  case atStart =>
    have hb_ : Below (w.heap.size + 1) (w.alloc (Obj.cells #[Value.int IntKind.i64 a1_0, Value.int IntKind.i64 a1_1] 54)) ((w.alloc (Obj.cells #[Value.int IntKind.i64 a1_0, Value.int IntKind.i64 a1_1] 54)).iter a0 0) := (Below.refl _ _).alloc (by simp) _
    exact ⟨0, by have h_ := World.iter_heap (w.alloc (Obj.cells #[Value.int IntKind.i64 a1_0, Value.int IntKind.i64 a1_1] 54)) a0 0; simpa using h_, ⟨((Below.refl _ w).alloc (Nat.le_refl _) _).alloc (by simp) _⟩, (hb_.cell (p := ⟨w.heap.size, 0, none⟩) (by simp)).trans (by simp), (hb_.cell (p := ⟨w.heap.size, 1, none⟩) (by simp)).trans (by simp), H', ⟨Nat.le_refl _⟩⟩
  case round =>
    clear H'
    obtain ⟨pos, hit, HB, hc0, hc1, HA, HK⟩ := hrel
    cases gk with
    | zero => exact absurd HA.out (by simp [spec_pzFits.l0])
    | succ k1 =>
      have H := HA.out
      clear HA
      simp only [spec_pzFits.l0] at H
      by_cases hps : pos < a0.size
      · rw [if_pos hps] at H
        by_cases ha : bt a0 pos < 128
        · rw [if_pos ha] at H
          have hnx : ∀ ty, (Instr.next (.pointer (some ⟨w.heap.size + 1, 0, none⟩)) true ty).run Tryd.prog wr = _ := fun ty => Lib.run_next_ascii_at wr (w.heap.size + 1) a0 pos ty hit hps (by have := bt_get a0 pos hps; omega)
          have hit2 := Lib.iterAt_heap wr (w.heap.size + 1) a0 pos (pos + 1) hit
          have hbw2 := Lib.below_iterAt HB.out (k := w.heap.size + 1) (by omega) a0 (pos + 1)
          have hb3 := Lib.below_iterAt (Below.refl (w.heap.size + 1) wr) (k := w.heap.size + 1) (by omega) a0 (pos + 1)
          have hd0 := (hb3.cell (p := ⟨w.heap.size, 0, none⟩) (by simp)).trans hc0
          have hd1 := (hb3.cell (p := ⟨w.heap.size, 1, none⟩) (by simp)).trans hc1
          obtain ⟨W, hWd⟩ : ∃ W, wr.iterAt (w.heap.size + 1) a0 (pos + 1) = W := ⟨_, rfl⟩
          rw [hWd] at hnx hit2 hbw2 hd0 hd1
          clear hb3 hc0 hc1 hit hWd HB ha
          have HB := Aside0.mk hbw2
          have HI := Aside0.mk hit2
          clear hbw2 hit2
          have hx6 := bt_get a0 pos
          have p6 := eq_true (show 0 ≤ ((pos : Nat) : Int) by omega)
          have q6 := eq_true (show ((pos : Nat) : Int) < (a0.size : Int) by omega)
          try clear c4
          by_cases c11 : (bt a0 pos) = 111
          · rw [if_pos c11] at H
            have c11b0 : ((bt a0 pos) == 111) = true := beq_iff_eq.mpr c11
            have c11b1 : ((bt a0 pos) != 111) = false := bne_eq_false_iff_eq.mpr c11
            clear c11
            replace H := Option.bind_eq_some_iff.mp H
            obtain ⟨q, A20, H⟩ := H
            have HM := Aside0.mk (fun W => spec_siRest.calls (wrap64 ((pos : Int) + 1)) a1_0 q W A20)
            clear A20
            by_cases c12 : q = a1_1
            · rw [if_pos c12] at H
              have c12b0 : (q == a1_1) = true := beq_iff_eq.mpr c12
              obtain rfl := Option.some.inj H
              clear H c12
              go_wp2
              go_quiet ((go_at_call 95; exact Calls.quiet_of ((HM.out _).mono (fun e w' h => ⟨h.1, h.2.out⟩))))
              go_wp2
              go_ret
              exact ⟨rfl, pw_below_drewN HB.out _⟩
            · rw [if_neg c12] at H
              have c12b0 : (q == a1_1) = false := beq_eq_false_iff_ne.mpr c12
              have H' := Aside0.mk H
              clear H c12
              go_wp2
              go_quiet ((go_at_call 95; exact Calls.quiet_of ((HM.out _).mono (fun e w' h => ⟨h.1, h.2.out⟩))))
              go_wp2
              go_roundg k1
              case measure => have := HK.out; omega
              case rel => exact ⟨pos + 1, by simpa using HI.out, ⟨pw_below_drewN HB.out _⟩, by simpa using hd0, by simpa using hd1, H', ⟨by have := HK.out; omega⟩⟩
          · rw [if_neg c11] at H
            have c11b0 : ((bt a0 pos) == 111) = false := beq_eq_false_iff_ne.mpr c11
            have c11b1 : ((bt a0 pos) != 111) = true := bne_iff_ne.mpr c11
            have H' := Aside0.mk H
            clear H
            go_wp2
            go_quiet (fail)
            go_wp2
            go_roundg k1
            case measure => have := HK.out; omega
            case rel => exact ⟨pos + 1, by simpa using HI.out, ⟨pw_below_drewN HB.out _⟩, by simpa using hd0, by simpa using hd1, H', ⟨by have := HK.out; omega⟩⟩
        · rw [if_neg ha] at H
          exact absurd H (by simp)
      · rw [if_neg hps] at H
        have hnx : ∀ ty, (Instr.next (.pointer (some ⟨w.heap.size + 1, 0, none⟩)) true ty).run Tryd.prog wr = _ := fun ty => Lib.run_next_end_at wr (w.heap.size + 1) a0 pos ty hit hps
        obtain rfl := Option.some.inj H
        go_wp2
        go_ret
        exact ⟨rfl, HB.out⟩
end Go.Proofs.YtkloiiojigofpaaDoor.P
namespace Go.Proofs.YtkloiiojigofpaaDoor.P
open Go.RowKit Go.Proofs.YtkloiiojigofpaaDoorW.PrintWords Go.Proofs.YtkloiiojigofpaaDoorW.PrintLast Go.Proofs.YtkloiiojigofpaaDoorW.PrintMore
attribute [local go_sem] max2_int min2_int max_two min_two max_three min_three max_four min_four
set_option linter.unusedVariables false
set_option linter.unusedSimpArgs false
def spec_pzCovers.l0 : Nat → ByteArray → List SRule → Nat → Option Bool
  | 0, _, _, _ => none
  | k + 1, s, l, pos => if pos < s.size then (if bt s pos < 128 then (if bt s pos = 120 then ((spec_siLeft.f k l (wrap64 ((pos : Int) + 1))).bind fun q => (if q = true then some false else spec_pzCovers.l0 k s l (pos + 1))) else spec_pzCovers.l0 k s l (pos + 1)) else none) else some true
def spec_pzCovers.f (k : Nat) (a0 : ByteArray) (l1 : List (SRule)) : Option (Bool) := spec_pzCovers.l0 k a0 l1 0
set_option maxHeartbeats 8000000 in
set_option maxRecDepth 100000 in
theorem spec_pzCovers.calls (k : Nat) (a0 : ByteArray) (A1 : Option Addr) (c1 : Nat) (l1 : List (SRule)) (r : Bool) (w : World) (hr1 : Kd.C kRule w A1 l1.length l1) (hc1 : l1.length ≤ c1) (h : spec_pzCovers.f k a0 l1 = some r) :
    Calls Tryd.prog 76 #[.string a0, .slice A1 l1.length c1] w fun e w' => e = .returned (.bool r) ∧ Below w.heap.size w w' := by
  have HR := Aside0.mk hr1
  have HC := Aside0.mk hc1
  clear hr1 hc1
  have H : spec_pzCovers.l0 k a0 l1 0 = some r := h
  clear h
  have H' := Aside0.mk H
  clear H
  go_enter Tryd.func76, Tryd.ntmps76
  go_wp2
  go_loopg [] k (fun kq wx => ∃ pos : Nat, wx.heap[w.heap.size]? = some (.stringIter a0 pos) ∧ Aside0 (Below w.heap.size w wx) ∧ Aside0 (spec_pzCovers.l0 kq a0 l1 pos = some r) ∧ Aside0 (kq ≤ k))
  case atStart => exact ⟨0, World.iter_heap w a0 0, ⟨(Below.refl _ w).alloc (Nat.le_refl _) _⟩, H', ⟨Nat.le_refl _⟩⟩
  case round =>
    clear H'
    obtain ⟨pos, hit, HB, HA, HK⟩ := hrel
    cases gk with
    | zero => exact absurd HA.out (by simp [spec_pzCovers.l0])
    | succ k1 =>
      have H := HA.out
      clear HA
      simp only [spec_pzCovers.l0] at H
      by_cases hps : pos < a0.size
      · rw [if_pos hps] at H
        by_cases ha : bt a0 pos < 128
        · rw [if_pos ha] at H
          have hnx : ∀ ty, (Instr.next (.pointer (some ⟨w.heap.size, 0, none⟩)) true ty).run Tryd.prog wr = _ := fun ty => Lib.run_next_ascii_at wr w.heap.size a0 pos ty hit hps (by have := bt_get a0 pos hps; omega)
          have hit2 := Lib.iterAt_heap wr w.heap.size a0 pos (pos + 1) hit
          have hbw2 := Lib.below_iterAt HB.out (k := w.heap.size) (Nat.le_refl _) a0 (pos + 1)
          obtain ⟨W, hWd⟩ : ∃ W, wr.iterAt w.heap.size a0 (pos + 1) = W := ⟨_, rfl⟩
          rw [hWd] at hnx hit2 hbw2
          have hltW : w.heap.size < W.heap.size := (Array.getElem?_eq_some_iff.1 hit2).1
          clear hit hWd HB ha
          have HB := Aside0.mk hbw2
          have HI := Aside0.mk hit2
          clear hbw2 hit2
          have hx6 := bt_get a0 pos
          have p6 := eq_true (show 0 ≤ ((pos : Nat) : Int) by omega)
          have q6 := eq_true (show ((pos : Nat) : Int) < (a0.size : Int) by omega)
          by_cases c11 : (bt a0 pos) = 120
          · rw [if_pos c11] at H
            have c11b0 : ((bt a0 pos) == 120) = true := beq_iff_eq.mpr c11
            have c11b1 : ((bt a0 pos) != 120) = false := bne_eq_false_iff_eq.mpr c11
            clear c11
            replace H := Option.bind_eq_some_iff.mp H
            obtain ⟨q, A20, H⟩ := H
            have HM := Aside0.mk (spec_siLeft.calls k1 A1 c1 l1 (wrap64 ((pos : Int) + 1)) q W (Kd.C_below HR.out HB.out) HC.out A20)
            clear A20
            cases q with
            | true =>
              rw [if_pos rfl] at H
              obtain rfl := Option.some.inj H
              clear H
              go_wp2_with (go_at_call 64; refine HM.out.mono ?_; rintro e W' ⟨rfl, hbc⟩)
              go_ret
              exact ⟨rfl, HB.out.trans (hbc.mono HB.out.size)⟩
            | false =>
              rw [if_neg (by decide)] at H
              have H' := Aside0.mk H
              clear H
              go_wp2_with (go_at_call 64; refine HM.out.mono ?_; rintro e W' ⟨rfl, hbc⟩)
              go_roundg k1
              case measure => have := HK.out; omega
              case rel => exact ⟨pos + 1, (hbc.block _ hltW).trans HI.out, ⟨HB.out.trans (hbc.mono HB.out.size)⟩, H', ⟨by have := HK.out; omega⟩⟩
          · rw [if_neg c11] at H
            have c11b0 : ((bt a0 pos) == 120) = false := beq_eq_false_iff_ne.mpr c11
            have c11b1 : ((bt a0 pos) != 120) = true := bne_iff_ne.mpr c11
            have H' := Aside0.mk H
            clear H
            go_wp2
            go_roundg k1
            case measure => have := HK.out; omega
            case rel => exact ⟨pos + 1, HI.out, HB, H', ⟨by have := HK.out; omega⟩⟩
        · rw [if_neg ha] at H
          exact absurd H (by simp)
      · rw [if_neg hps] at H
        have hnx : ∀ ty, (Instr.next (.pointer (some ⟨w.heap.size, 0, none⟩)) true ty).run Tryd.prog wr = _ := fun ty => Lib.run_next_end_at wr w.heap.size a0 pos ty hit hps
        obtain rfl := Option.some.inj H
        go_wp2
        go_ret
        exact ⟨rfl, HB.out⟩
end Go.Proofs.YtkloiiojigofpaaDoor.P
namespace Go.Proofs.YtkloiiojigofpaaDoor.P
open Go.RowKit Go.Proofs.YtkloiiojigofpaaDoorW.PrintWords Go.Proofs.YtkloiiojigofpaaDoorW.PrintLast Go.Proofs.YtkloiiojigofpaaDoorW.PrintMore
attribute [local go_sem] max2_int min2_int max_two min_two max_three min_three max_four min_four
set_option linter.unusedVariables false
set_option linter.unusedSimpArgs false
mutual
def spec_pzAll.f : Nat → ByteArray → List SRule → List SRule → Int → List (List SRule) → Option (List (List SRule))
  | 0, _, _, _, _, _ => none
  | k + 1, p, fit, rules, left, out => if left = 0 then ((spec_pzCovers.f k p rules).bind fun t => if t = true then (if out.length < 5864062014805 then (if rules.length < 8796093022207 then some (out ++ [rules]) else none) else none) else some out) else spec_pzAll.l0 k p fit rules left out 0
def spec_pzAll.l0 : Nat → ByteArray → List SRule → List SRule → Int → List (List SRule) → Nat → Option (List (List SRule))
  | 0, _, _, _, _, _, _ => none
  | k + 1, p, fit, rules, left, out, i => if i < fit.length then (if 300 < out.length then some out else (if rules.length < 8796093022207 then ((spec_pzAll.f k p (fit.drop (i + 1)) (rules ++ [rd_Rule fit i]) (wrap64 (left - 1)) out).bind fun o => spec_pzAll.l0 k p fit rules left o (i + 1)) else none)) else some out
end
theorem infoS_Rule : (Tryd.prog.info? 33).map (fun i => (i.zero, i.size, i.bytes)) = some (some (.slice none 0 0), 1, 24) := by kernel_rfl
set_option maxHeartbeats 8000000 in
set_option maxRecDepth 100000 in
theorem spec_pzAll.own (k : Nat) : ∀ (p : ByteArray) (fit rules : List SRule) (left : Int) (out r : List (List SRule)) (A1 : Option Addr) (c1 : Nat) (A2 : Option Addr) (c2 : Nat) (vo : Value) (w0 w : World)
    (_ : ∀ W', w.grownBy W' vo.ownBlock → Kd.C kRule W' A1 fit.length fit) (_ : fit.length ≤ c1) (_ : ∀ W', w.grownBy W' vo.ownBlock → Kd.C kRule W' A2 rules.length rules) (_ : rules.length ≤ c2)
    (_ : Kd.S (Kd.slice 54 kRule) 33 w w0.heap.size (fun _ => True) vo out) (_ : Below w0.heap.size w0 w) (_ : spec_pzAll.f k p fit rules left out = some r),
    Calls Tryd.prog 60 #[.string p, .slice A1 fit.length c1, .slice A2 rules.length c2, .int .i64 left, vo] w fun e w' => ∃ v1, e = .returned v1 ∧ PzPost w0 w vo v1 r w' := by
  induction k using Nat.strongRecOn with
  | ind k ih =>
  intro p fit rules left out r A1 c1 A2 c2 vo w0 w h1 hc1 h2 hc2 hS hB h
  have IH := Aside0.mk ih
  have H1 := Aside0.mk h1
  have HC1 := Aside0.mk hc1
  have H2 := Aside0.mk h2
  have HC2 := Aside0.mk hc2
  have HP := Aside0.mk (PzPost.refl hS hB)
  have HB := Aside0.mk hB
  have HS0 := Aside0.mk (Kd.S_mono (Kd.S_bound hS) (fun _ hk => hk.2.2.1))
  have HVO := Aside0.mk (Kd.S_lt hS)
  obtain ⟨Ao, co, eo⟩ := Kd.S_slice hS
  subst eo
  clear ih h1 hc1 h2 hc2 hS hB
  cases k with
  | zero => exact absurd h (by simp [spec_pzAll.f])
  | succ k =>
    simp only [spec_pzAll.f] at h
    by_cases c1_ : left = 0
    · rw [if_pos c1_] at h
      have c1b : (left == 0) = true := beq_iff_eq.mpr c1_
      clear c1_
      replace h := Option.bind_eq_some_iff.mp h
      obtain ⟨t, A0_, h⟩ := h
      have A_ := Aside0.mk A0_
      clear A0_
      cases t with
      | true =>
        rw [if_pos rfl] at h
        by_cases c2_ : out.length < 5864062014805
        · rw [if_pos c2_] at h
          have HLO := Aside0.mk c2_
          clear c2_
          by_cases c3_ : rules.length < 8796093022207
          · rw [if_pos c3_] at h
            have HLB := Aside0.mk c3_
            clear c3_
            have HR := Aside0.mk (Option.some.inj h)
            clear h
            go_enter Tryd.func60, Tryd.ntmps60
            go_wp2_with (first | ((with_reducible refine gate_callee (f := 76) rfl ?_); refine goesL_ (some 17) rfl rfl Tryd.func76 (by kernel_rfl) rfl #[.string p, .slice A2 rules.length c2] rfl (by (try simp only [List.map_toArray, List.map_cons, List.map_nil]); first | done | rfl) ?_; (with_reducible refine (spec_pzCovers.calls k p _ _ rules true _ ?side1 ?side2 A_.out).mono ?_); (case side1 => exact H2.out _ (grown_of_below (Below.refl _ _) _)); (case side2 => exact HC2.out); rintro e w1 ⟨rfl, hb⟩; refine ⟨_, rfl, ?_⟩; have HB1 := Aside0.mk hb; have HS1 := Aside0.mk (H2.out _ (grown_of_below hb _)); clear hb) | ((with_reducible refine gate_dst (N := 19) rfl ?_); refine Kd.R_lit kRule _ 54 ?hg (N := 19) ?hd (xs := ([] : List SRule)) (inner := []) (ok := fun _ => True) (okp := fun _ => True) ?hr ?hp (fun _ hk => hk) trivial (Below.refl _ _) (Nat.le_refl _) (by simp) ?_; (case hd => rfl); (case hg => rfl); (case hr => first | (go_simp; done) | (go_simp; rfl)); (case hp => exact Reps.none _ _); intro v19 w2 ho hb hg_ hnew_; clear hg_ hnew_; have HL0 := Aside0.mk ho; have HB2 := Aside0.mk hb; clear ho hb) | ((with_reducible refine gate_builtin (b := .append) (xs := #[.tmp 19, .tmp 20]) rfl ?_); at_builtin; refine Kd.R_append_rows kRule (w0 := w1) w1.heap.size rfl (.tmp 19) (.tmp 20) 33 54 (.agg #[(.int .i64 0), (.int .i64 0)]) 16 rfl Tryd.underlying33 infoE_Rule rfl (by decide) (by omega) v19 ([] : List SRule) rules _ _ _ (fun _ => True) (fun _ => False) rfl rfl ?aO ?aR (fun _ _ h => h) (fun _ h => h.elim) (fun _ _ => trivial) ?aB ?aS ?aL ?_; (case aO => exact HL0.out); (case aR => exact Kd.C_below HS1.out HB2.out); (case aB => exact HB2.out); (case aS => exact below_size HB2.out); (case aL => have h_ := HLB.out; simp only [List.length_nil]; omega); intro v21 w3 ho hb hg_ hat_; clear hg_ hat_; simp only [List.nil_append] at ho; have HL := Aside0.mk ho; have HB3 := Aside0.mk hb; clear HL0 HB2 ho hb; obtain ⟨A21, c21, e21⟩ := Kd.R_slice HL.out; subst e21) | ((with_reducible refine gate_builtin (b := .append) (xs := #[.tmp 18, .tmp 22]) rfl ?_); at_builtin; refine Kd.S_append (Kd.slice 54 kRule) (w0 := w0) w0.heap.size rfl (.tmp 18) (.tmp 22) 25 33 (.slice none 0 0) 24 rfl Tryd.underlying25 infoS_Rule rfl (by decide) (by omega) (.slice Ao out.length co) out rules [.slice A21 rules.length c21] (fun _ => True) (fun k_ => some k_ = (.slice A21 rules.length c21 : Value).ownBlock) rfl rfl ?aP ?aK (fun _ _ => trivial) ?aO ?aB ?aS ?aL ?_; (case aP => exact Kd.M_row (Kd.R_tight rfl (Kd.R_lower HL.out (Nat.le_trans HB.out.size HB1.out.size)))); (case aK => exact (fun k_ hk => ⟨trivial, fun e_ => by have h1_ := Kd.R_base HL.out k_ hk.symm; have h2_ := HVO.out k_ e_.symm; have h3_ := HB1.out.size; omega⟩)); (case aO => exact Kd.S_mono (Kd.S_below HS0.out (below_step HB1.out HB3.out)) (fun k_ hk => ⟨trivial, fun e_ => by have h1_ := Kd.R_base HL.out k_ e_.symm; have h3_ := HB1.out.size; omega⟩)); (case aB => exact below_step (below_step HB.out HB1.out) HB3.out); (case aS => exact below_size (below_step (below_step HB.out HB1.out) HB3.out)); (case aL => have h_ := HLO.out; omega); intro v1 w4 ho hb hg hat; have HFIN := Aside0.mk (show PzPost w0 w (.slice Ao out.length co) v1 (out ++ [rules]) w4 from ⟨ho, hb, below_grown_ (below_step HB1.out HB3.out) hg, hat.imp id (fun ⟨b_, e_, hb_⟩ => ⟨b_, e_, Nat.le_trans (below_step HB1.out HB3.out).size hb_⟩)⟩); clear ho hb hg hat))
            go_ret
            exact ⟨_, rfl, by rw [← HR.out]; exact HFIN.out⟩
          · rw [if_neg c3_] at h
            exact absurd h (by simp)
        · rw [if_neg c2_] at h
          exact absurd h (by simp)
      | false =>
        rw [if_neg (by decide)] at h
        have HR := Aside0.mk (Option.some.inj h)
        clear h
        go_enter Tryd.func60, Tryd.ntmps60
        go_wp2_with (((with_reducible refine gate_callee (f := 76) rfl ?_); refine goesL_ (some 17) rfl rfl Tryd.func76 (by kernel_rfl) rfl #[.string p, .slice A2 rules.length c2] rfl (by (try simp only [List.map_toArray, List.map_cons, List.map_nil]); first | done | rfl) ?_; (with_reducible refine (spec_pzCovers.calls k p _ _ rules false _ ?side1 ?side2 A_.out).mono ?_); (case side1 => exact H2.out _ (grown_of_below (Below.refl _ _) _)); (case side2 => exact HC2.out); rintro e w1 ⟨rfl, hb⟩; refine ⟨_, rfl, ?_⟩; have HP1 := Aside0.mk (PzPost.below HP.out hb); clear HP hb))
        go_ret
        exact ⟨_, rfl, by rw [← HR.out]; exact HP1.out⟩
    · rw [if_neg c1_] at h
      have c1b : (left == 0) = false := beq_eq_false_iff_ne.mpr c1_
      clear c1_
      have H' := Aside0.mk h
      clear h
      go_enter Tryd.func60, Tryd.ntmps60
      go_wp2
      go_loopg [4, 27] k (fun kq v4 v27 wx => ∃ (o : List (List SRule)) (i : Nat), v27 = .int .i64 i ∧ Aside0 (spec_pzAll.l0 kq p fit rules left o i = some r) ∧ Aside0 (kq ≤ k) ∧ Aside0 (PzPost w0 w (.slice Ao out.length co) v4 o wx))
      case atStart => exact ⟨out, 0, rfl, H', ⟨Nat.le_refl _⟩, HP⟩
      case round =>
        clear H' HP
        obtain ⟨o, i, rfl, HA_, HK, HPS⟩ := hrel
        cases gk with
        | zero => exact absurd HA_.out (by simp [spec_pzAll.l0])
        | succ k1 =>
          have H := HA_.out
          clear HA_
          simp only [spec_pzAll.l0] at H
          by_cases c1_ : i < fit.length
          · rw [if_pos c1_] at H
            have c1b : decide ((i : Int) < (fit.length : Int)) = true := decide_eq_true (by omega)
            have c1c : decide (i < fit.length) = true := decide_eq_true c1_
            obtain ⟨ad, e_, hx0, hx1⟩ := at_Rule (H1.out _ HPS.out.2.2.1) (i : Int) (by omega) (by omega)
            cases e_
            simp only [Int.toNat_natCast] at hx0 hx1
            have c1z : (i : Int) < (fit.length : Int) := by omega
            by_cases c2_ : 300 < o.length
            · rw [if_pos c2_] at H
              have c2b : decide ((300 : Int) < (o.length : Int)) = true := decide_eq_true (by omega)
              have c2c : decide (300 < o.length) = true := decide_eq_true c2_
              clear c2_
              have HR := Aside0.mk (Option.some.inj H)
              clear H
              obtain ⟨Aq, cq, eq_⟩ := Kd.S_slice HPS.out.1
              subst eq_
              go_wp2_with ((with_reducible refine gate_dst (N := 12) rfl ?_); refine box_event ?hg (N := 12) ?hd (cs := #[.int .i64 0, .int .i64 0]) (t := 54) ?hr ?_; (case hd => rfl); (case hg => rfl); (case hr => first | (go_simp; done) | (go_simp; rfl)); intro g12 hg w20 hbox hb; have BK := Aside0.mk hbox; have HBx0 := Aside0.mk hb; have HG := Aside0.mk (Nat.le_of_eq hg.symm); have hcz0 : w20.cell? ⟨g12, 0, none⟩ = some (.int .i64 0) := (blk_cell hbox 0).trans rfl; have hcz1 : w20.cell? ⟨g12, 1, none⟩ = some (.int .i64 0) := (blk_cell hbox 1).trans rfl; have hfz0 := blk_frozen hbox 0; have hfz1 := blk_frozen hbox 1; clear hbox hb hg)
              go_ret
              exact ⟨_, rfl, by rw [← HR.out]; exact PzPost.below HPS.out (below_set (below_set HBx0.out HG.out) HG.out)⟩
            · rw [if_neg c2_] at H
              have c2b : decide ((300 : Int) < (o.length : Int)) = false := decide_eq_false (by omega)
              have c2c : decide (300 < o.length) = false := decide_eq_false c2_
              clear c2_
              by_cases c3_ : rules.length < 8796093022207
              · rw [if_pos c3_] at H
                have HLB := Aside0.mk c3_
                clear c3_
                replace H := Option.bind_eq_some_iff.mp H
                obtain ⟨o2, A0_, H⟩ := H
                obtain ⟨fd, hfd⟩ : ∃ l_, l_ = fit.drop (i + 1) := ⟨_, rfl⟩
                rw [← hfd] at A0_
                have A_ := Aside0.mk A0_
                have H' := Aside0.mk H
                clear A0_ H
                have HV := Aside0.mk (Kd.S_lt HPS.out.1)
                obtain ⟨Aq, cq, eq_⟩ := Kd.S_slice HPS.out.1
                subst eq_
                have hfl : fit.length ≤ 9223372036854775807 := Kd.C_max (H1.out _ HPS.out.2.2.1)
                have hil : (i : Int) < (fit.length : Int) := of_decide_eq_true c1b
                have hw_ : (wrap64 ((i : Int) + 1)).toNat = i + 1 := by unfold wrap64; omega
                have hw0_ : 0 ≤ wrap64 ((i : Int) + 1) := by unfold wrap64; omega
                have hw1_ : wrap64 ((i : Int) + 1) ≤ (fit.length : Int) := by unfold wrap64; omega
                obtain ⟨A39, hA39⟩ : ∃ a_, a_ = (if c1 = i + 1 then some ad else (some ad : Option Addr).map (·.add ((i + 1) * 2))) := ⟨_, rfl⟩
                obtain ⟨c39, hc39⟩ : ∃ a_, a_ = c1 - (i + 1) := ⟨_, rfl⟩
                obtain ⟨i0_, hi0_, _, hsz_, _⟩ := info_parts infoE_Rule
                have hcut : ∀ W : World, (Instr.slice 33 (.slice (some ad) fit.length c1) (some (.int .i64 (wrap64 ((i : Int) + 1)))) none none).run Tryd.prog W = .ok (.slice A39 fd.length c39) W := by
                  intro W
                  have h := cut_from (P := Tryd.prog) 33 54 .i64 Tryd.underlying33 hi0_ 2 hsz_ (some ad) fit.length c1 (wrap64 ((i : Int) + 1)) hw0_ hw1_ W
                  rw [hw_] at h
                  rw [h, hA39, hc39, hfd, List.length_drop]
                have HF2 := Aside0.mk (show ∀ W' : World, Kd.C kRule W' (some ad) fit.length fit → Kd.C kRule W' A39 fd.length fd from fun W' h_ => by rw [hA39, hfd]; exact Kd.C_drop h_ (by omega) HC1.out)
                have HC39 := Aside0.mk (show fd.length ≤ c39 by rw [hc39, hfd, List.length_drop]; have := HC1.out; omega)
                clear hw_ hw0_ hw1_ hA39 hc39 hi0_ hsz_ hfd
                go_wp2_with ((with_reducible refine gate_dst (N := 12) rfl ?_); refine box_event ?hg (N := 12) ?hd (cs := #[.int .i64 0, .int .i64 0]) (t := 54) ?hr ?_; (case hd => rfl); (case hg => rfl); (case hr => first | (go_simp; done) | (go_simp; rfl)); intro g12 hg w20 hbox hb; have BK := Aside0.mk hbox; have HBx0 := Aside0.mk hb; have HG := Aside0.mk (Nat.le_of_eq hg.symm); have hcz0 : w20.cell? ⟨g12, 0, none⟩ = some (.int .i64 0) := (blk_cell hbox 0).trans rfl; have hcz1 : w20.cell? ⟨g12, 1, none⟩ = some (.int .i64 0) := (blk_cell hbox 1).trans rfl; have hfz0 := blk_frozen hbox 0; have hfz1 := blk_frozen hbox 1; clear hbox hb hg)
                have hk7_ := blk_put (blk_put BK.out 0 (.int .i64 (rd_Rule fit i).f0) rfl) 1 (.int .i64 (rd_Rule fit i).f1) rfl
                have HX0 := Aside0.mk (show (((w20.setCell ⟨g12, 0, none⟩ (.int .i64 (rd_Rule fit i).f0)).setCell ⟨g12, 1, none⟩ (.int .i64 (rd_Rule fit i).f1)).drew).cell? ⟨g12, 0, none⟩ = some (.int .i64 (rd_Rule fit i).f0) from (blk_cell (blk_drew hk7_) 0).trans rfl)
                have HX1 := Aside0.mk (show (((w20.setCell ⟨g12, 0, none⟩ (.int .i64 (rd_Rule fit i).f0)).setCell ⟨g12, 1, none⟩ (.int .i64 (rd_Rule fit i).f1)).drew).cell? ⟨g12, 1, none⟩ = some (.int .i64 (rd_Rule fit i).f1) from (blk_cell (blk_drew hk7_) 1).trans rfl)
                have HBx := Aside0.mk (show Below wr.heap.size wr ((w20.setCell ⟨g12, 0, none⟩ (.int .i64 (rd_Rule fit i).f0)).setCell ⟨g12, 1, none⟩ (.int .i64 (rd_Rule fit i).f1)).drew from below_drew1 (below_set (below_set HBx0.out HG.out) HG.out))
                clear hk7_ hcz0 hcz1 hfz0 hfz1 BK HBx0 HG
                refine start_ (n := 16) (S := fun w' => w'.cell? ⟨g12, 0, none⟩ = some (.int .i64 (rd_Rule fit i).f0) ∧ w'.cell? ⟨g12, 1, none⟩ = some (.int .i64 (rd_Rule fit i).f1)) (ds := [14]) #[false, false, false, false, false, false, false, false, false, false, false, false, false, false, false, false] (by kernel_rfl) rfl rfl ⟨HX0.out, HX1.out⟩ (fun hHeld => ?_)
                generalize ((w20.setCell ⟨g12, 0, none⟩ (.int .i64 (rd_Rule fit i).f0)).setCell ⟨g12, 1, none⟩ (.int .i64 (rd_Rule fit i).f1)).drew = wS at HX0 HX1 HBx hHeld ⊢
                have HBc := Aside0.mk (Below.refl wS.heap.size wS)
                refine pure_ (i := 0) (N := some 35) (v := ?_) (a' := ?_) #[true, false, false, false, false, false, false, false, false, false, false, false, false, false, false, false] rfl rfl (by kernel_rfl) (fun _ _ _ h => h) (Or.inl ⟨by rfl, ?_⟩) ?_ ?_
                rotate_left
                · intro w'
                  go_simp
                  with_reducible rfl
                rotate_left
                · simp only [Act.put, List.setIfInBounds_toArray, List.set_cons_zero, List.set_cons_succ, i64_w, i32_w]
                  rfl
                refine pure_ (i := 1) (N := some 36) (v := ?_) (a' := ?_) #[true, true, false, false, false, false, false, false, false, false, false, false, false, false, false, false] rfl rfl (by kernel_rfl) (fun _ _ _ h => h) (Or.inl ⟨by rfl, ?_⟩) ?_ ?_
                rotate_left
                · intro w'
                  go_simp
                  with_reducible rfl
                rotate_left
                · simp only [Act.put, List.setIfInBounds_toArray, List.set_cons_zero, List.set_cons_succ, i64_w, i32_w]
                  rfl
                refine pure_ (i := 2) (N := some 37) (v := ?_) (a' := ?_) #[true, true, true, false, false, false, false, false, false, false, false, false, false, false, false, false] rfl rfl (by kernel_rfl) (fun _ _ _ h => h) (Or.inl ⟨by rfl, ?_⟩) ?_ ?_
                rotate_left
                · intro w'
                  go_simp
                  with_reducible rfl
                rotate_left
                · simp only [Act.put, List.setIfInBounds_toArray, List.set_cons_zero, List.set_cons_succ, i64_w, i32_w]
                  rfl
                refine pure_ (i := 3) (N := some 38) (v := ?_) (a' := ?_) #[true, true, true, true, false, false, false, false, false, false, false, false, false, false, false, false] rfl rfl (by kernel_rfl) (fun _ _ _ h => h) (Or.inl ⟨by rfl, ?_⟩) ?_ ?_
                rotate_left
                · intro w'
                  go_simp
                  with_reducible rfl
                rotate_left
                · simp only [Act.put, List.setIfInBounds_toArray, List.set_cons_zero, List.set_cons_succ, i64_w, i32_w]
                  rfl
                refine pure_ (i := 4) (N := some 39) (v := ?_) (a' := ?_) #[true, true, true, true, true, false, false, false, false, false, false, false, false, false, false, false] rfl rfl (by kernel_rfl) (fun _ _ _ h => h) (Or.inl ⟨by rfl, ?_⟩) ?_ ?_
                rotate_left
                · intro w'
                  go_simp
                  with_reducible rfl
                rotate_left
                · simp only [Act.put, List.setIfInBounds_toArray, List.set_cons_zero, List.set_cons_succ, i64_w, i32_w]
                  rfl
                refine pure_ (i := 6) (N := some 41) (v := ?_) (a' := ?_) #[true, true, true, true, true, false, true, false, false, false, false, false, false, false, false, false] rfl rfl (by kernel_rfl) (fun _ _ _ h => h) (Or.inl ⟨by rfl, ?_⟩) ?_ ?_
                rotate_left
                · intro w'
                  go_simp
                  with_reducible rfl
                rotate_left
                · simp only [Act.put, List.setIfInBounds_toArray, List.set_cons_zero, List.set_cons_succ, i64_w, i32_w]
                  rfl
                refine pure_ (i := 11) (N := some 46) (v := ?_) (a' := ?_) #[true, true, true, true, true, false, true, false, false, false, false, true, false, false, false, false] rfl rfl (by kernel_rfl) (fun _ _ _ h => h) (Or.inl ⟨by rfl, ?_⟩) ?_ ?_
                rotate_left
                · intro w'
                  go_simp
                  with_reducible rfl
                rotate_left
                · simp only [Act.put, List.setIfInBounds_toArray, List.set_cons_zero, List.set_cons_succ, i64_w, i32_w]
                  rfl
                refine pure_ (i := 12) (N := some 47) (v := ?_) (a' := ?_) #[true, true, true, true, true, false, true, false, false, false, false, true, true, false, false, false] rfl rfl (by kernel_rfl) (fun _ _ _ h => h) (Or.inl ⟨by rfl, ?_⟩) ?_ ?_
                rotate_left
                · intro w'
                  go_simp
                  with_reducible rfl
                rotate_left
                · simp only [Act.put, List.setIfInBounds_toArray, List.set_cons_zero, List.set_cons_succ, i64_w, i32_w]
                  rfl
                refine pure_ (i := 13) (N := some 48) (v := ?_) (a' := ?_) #[true, true, true, true, true, false, true, false, false, false, false, true, true, true, false, false] rfl rfl (by kernel_rfl) (fun _ _ _ h => h) (Or.inl ⟨by rfl, ?_⟩) ?_ ?_
                rotate_left
                · intro w'
                  go_simp
                  with_reducible rfl
                rotate_left
                · simp only [Act.put, List.setIfInBounds_toArray, List.set_cons_zero, List.set_cons_succ, i64_w, i32_w]
                  rfl
                refine take_ (i := 8) (N := some 43) (v := ?_) (a' := ?_) #[true, true, true, true, true, false, true, false, true, false, false, true, true, true, false, false] rfl rfl (by kernel_rfl) (fun _ _ _ h => h) (Or.inl ⟨by rfl, ?_⟩) hHeld ?_ ?_
                rotate_left
                · rintro w' ⟨s0, s1⟩
                  go_simp
                  with_reducible rfl
                rotate_left
                · simp only [Act.put, List.setIfInBounds_toArray, List.set_cons_zero, List.set_cons_succ, i64_w, i32_w]
                  rfl
                refine join_ (σ := Value × Value × Value) 3 #[true, true, true, true, true, true, true, true, true, true, false, true, true, true, false, false] (fun s_ => [(40, s_.1), (42, s_.2.1), (44, s_.2.2)]) (fun s_ w' => Kd.R kRule 54 w' wS.heap.size (fun _ => True) s_.2.1 rules ∧ Kd.R kRule 54 w' wS.heap.size (fun _ => True) s_.2.2 [rd_Rule fit i] ∧ Below wS.heap.size wS w') ?_ ?_
                rotate_left
                · intro hCont
                  refine two_ (i := 5) (j := 9) (Ni := some 40) (Nj := some 44) #[true, true, true, true, true, true, true, false, true, false, false, true, true, true, false, false] #[true, true, true, true, true, false, true, false, true, true, false, true, true, true, false, false] rfl rfl rfl rfl (by kernel_rfl) (by decide) (by decide) (fun K hK => ?_) (fun K hK => ?_)
                  · skip
                    refine Kd.R_lit_step kRule _ 54 ?hg (N := 40) ?hd (xs := ([] : List SRule)) (inner := []) (ok := fun _ => True) (okp := fun _ => True) ?hr ?hp (fun _ hk => hk) trivial (Below.refl _ _) (Nat.le_refl _) (by simp) ?_
                    (case hd => rfl)
                    (case hg => rfl)
                    (case hr => first | (go_simp; done) | (go_simp; rfl))
                    (case hp => exact Reps.none _ _)
                    intro v40 w5_0 ho hb hg_ hnew_
                    clear hg_ hnew_
                    have HL0 := Aside0.mk (Kd.R_lower ho (below_size HBc.out))
                    clear ho
                    have n9_ := Aside0.mk (below_step HBc.out hb)
                    clear HBc hb
                    have HBc := n9_
                    clear n9_
                    refine hK.out _ _ ⟨(pw_cell_below HBc.out HX0.out), (pw_cell_below HBc.out HX1.out)⟩ (fun hHeld => ?_)
                    clear hK K
                    refine norm_ (a' := ?_) ?_ ?_
                    rotate_left
                    · show Act.put _ (some 40) _ = _
                      simp only [Act.put, List.setIfInBounds_toArray, List.set_cons_zero, List.set_cons_succ, i64_w, i32_w]
                      rfl
                    refine two_ (i := 7) (j := 9) (Ni := some 42) (Nj := some 44) #[true, true, true, true, true, true, true, true, true, false, false, true, true, true, false, false] #[true, true, true, true, true, true, true, false, true, true, false, true, true, true, false, false] rfl rfl rfl rfl (by kernel_rfl) (by decide) (by decide) (fun K hK => ?_) (fun K hK => ?_)
                    · skip
                      refine Kd.R_append_rows_step kRule (w0 := wS) wS.heap.size (by rfl) (.tmp 40) (.tmp 41) 33 54 (.agg #[(.int .i64 0), (.int .i64 0)]) 16 rfl Tryd.underlying33 infoE_Rule rfl (by decide) (by omega) v40 ([] : List SRule) rules _ _ _ (fun _ => True) (fun _ => False) rfl rfl HL0.out ?aR (fun _ _ h => h) (fun _ h => h.elim) (fun _ _ => trivial) HBc.out (below_size HBc.out) ?aL ?_
                      (case aR => exact H2.out _ (PzPost.below (PzPost.below HPS.out HBx.out) HBc.out).2.2.1)
                      (case aL => have h_ := HLB.out; simp only [List.length_nil]; omega)
                      intro v42 w7_1 ho hb hg hat_
                      simp only [List.nil_append] at ho
                      clear hg hat_ HL0 HBc
                      have HA := Aside0.mk ho
                      have HBc := Aside0.mk hb
                      clear ho hb
                      refine hK.out _ _ ⟨(pw_cell_below HBc.out HX0.out), (pw_cell_below HBc.out HX1.out)⟩ (fun hHeld => ?_)
                      clear hK K
                      refine norm_ (a' := ?_) ?_ ?_
                      rotate_left
                      · show Act.put _ (some 42) _ = _
                        simp only [Act.put, List.setIfInBounds_toArray, List.set_cons_zero, List.set_cons_succ, i64_w, i32_w]
                        rfl
                      refine one_ (i := 9) (N := some 44) #[true, true, true, true, true, true, true, true, true, true, false, true, true, true, false, false] rfl rfl (by kernel_rfl) (by decide) (fun K hK => ?_)
                      refine Kd.R_lit_step kRule _ 54 ?hg (N := 44) ?hd (xs := ([rd_Rule fit i] : List SRule)) (inner := [.int .i64 (rd_Rule fit i).f0, .int .i64 (rd_Rule fit i).f1]) (ok := fun _ => True) (okp := fun _ => True) ?hr ?hp (fun _ hk => hk) trivial (Below.refl _ _) (Nat.le_refl _) (by simp) ?_
                      (case hd => rfl)
                      (case hg => rfl)
                      (case hr => first | (go_simp; done) | (go_simp; rfl))
                      (case hp => exact Reps.front (kRule_mkM _ _ _ (rd_Rule fit i)) rfl (Reps.none _ _) rfl)
                      intro v44 w9_2 ho hb hg_ hnew_
                      clear hg_ hnew_
                      have n1_ := Aside0.mk (Kd.R_below HA.out hb)
                      clear HA
                      have HA := n1_
                      clear n1_
                      have HL1 := Aside0.mk (Kd.R_lower ho (below_size HBc.out))
                      clear ho
                      have n9_ := Aside0.mk (below_step HBc.out hb)
                      clear HBc hb
                      have HBc := n9_
                      clear n9_
                      refine hK.out _ _ ⟨(pw_cell_below HBc.out HX0.out), (pw_cell_below HBc.out HX1.out)⟩ (fun hHeld => ?_)
                      clear hK K
                      refine norm_ (a' := ?_) ?_ ?_
                      rotate_left
                      · show Act.put _ (some 44) _ = _
                        simp only [Act.put, List.setIfInBounds_toArray, List.set_cons_zero, List.set_cons_succ, i64_w, i32_w]
                        rfl
                      exact norm_ (by simp only [putAll, Act.put, List.setIfInBounds_toArray, List.set_cons_zero, List.set_cons_succ]) (hCont (v40, v42, v44) _ ⟨HA.out, Kd.R_mono HL1.out (fun _ _ => trivial), HBc.out⟩)
                    · skip
                      refine Kd.R_lit_step kRule _ 54 ?hg (N := 44) ?hd (xs := ([rd_Rule fit i] : List SRule)) (inner := [.int .i64 (rd_Rule fit i).f0, .int .i64 (rd_Rule fit i).f1]) (ok := fun _ => True) (okp := fun _ => True) ?hr ?hp (fun _ hk => hk) trivial (Below.refl _ _) (Nat.le_refl _) (by simp) ?_
                      (case hd => rfl)
                      (case hg => rfl)
                      (case hr => first | (go_simp; done) | (go_simp; rfl))
                      (case hp => exact Reps.front (kRule_mkM _ _ _ (rd_Rule fit i)) rfl (Reps.none _ _) rfl)
                      intro v44 w9_1 ho hb hg_ hnew_
                      clear hg_ hnew_
                      have HL1 := Aside0.mk (Kd.R_mono (Kd.R_lower (Kd.R_new' ho (Kd.R_lt HL0.out)) (below_size HBc.out)) (fun _ hk => hk.2))
                      have n1_ := Aside0.mk (Kd.R_below HL0.out hb)
                      clear HL0 ho
                      have HL0 := n1_
                      clear n1_
                      have n9_ := Aside0.mk (below_step HBc.out hb)
                      clear HBc hb
                      have HBc := n9_
                      clear n9_
                      refine hK.out _ _ ⟨(pw_cell_below HBc.out HX0.out), (pw_cell_below HBc.out HX1.out)⟩ (fun hHeld => ?_)
                      clear hK K
                      refine norm_ (a' := ?_) ?_ ?_
                      rotate_left
                      · show Act.put _ (some 44) _ = _
                        simp only [Act.put, List.setIfInBounds_toArray, List.set_cons_zero, List.set_cons_succ, i64_w, i32_w]
                        rfl
                      refine one_ (i := 7) (N := some 42) #[true, true, true, true, true, true, true, true, true, true, false, true, true, true, false, false] rfl rfl (by kernel_rfl) (by decide) (fun K hK => ?_)
                      refine Kd.R_append_rows_step kRule (w0 := wS) wS.heap.size (by rfl) (.tmp 40) (.tmp 41) 33 54 (.agg #[(.int .i64 0), (.int .i64 0)]) 16 rfl Tryd.underlying33 infoE_Rule rfl (by decide) (by omega) v40 ([] : List SRule) rules _ _ _ (fun _ => True) (fun _ => False) rfl rfl HL0.out ?aR (fun _ _ h => h) (fun _ h => h.elim) (fun _ _ => trivial) HBc.out (below_size HBc.out) ?aL ?_
                      (case aR => exact H2.out _ (PzPost.below (PzPost.below HPS.out HBx.out) HBc.out).2.2.1)
                      (case aL => have h_ := HLB.out; simp only [List.length_nil]; omega)
                      intro v42 w7_2 ho hb hg hat_
                      simp only [List.nil_append] at ho
                      have n1_ := Aside0.mk (Kd.R_grown HL1.out hg (fun _ hk => hk))
                      clear HL1
                      have HL1 := n1_
                      clear n1_
                      clear hg hat_ HL0 HBc
                      have HA := Aside0.mk ho
                      have HBc := Aside0.mk hb
                      clear ho hb
                      refine hK.out _ _ ⟨(pw_cell_below HBc.out HX0.out), (pw_cell_below HBc.out HX1.out)⟩ (fun hHeld => ?_)
                      clear hK K
                      refine norm_ (a' := ?_) ?_ ?_
                      rotate_left
                      · show Act.put _ (some 42) _ = _
                        simp only [Act.put, List.setIfInBounds_toArray, List.set_cons_zero, List.set_cons_succ, i64_w, i32_w]
                        rfl
                      exact norm_ (by simp only [putAll, Act.put, List.setIfInBounds_toArray, List.set_cons_zero, List.set_cons_succ]) (hCont (v40, v42, v44) _ ⟨HA.out, Kd.R_mono HL1.out (fun _ _ => trivial), HBc.out⟩)
                  · skip
                    refine Kd.R_lit_step kRule _ 54 ?hg (N := 44) ?hd (xs := ([rd_Rule fit i] : List SRule)) (inner := [.int .i64 (rd_Rule fit i).f0, .int .i64 (rd_Rule fit i).f1]) (ok := fun _ => True) (okp := fun _ => True) ?hr ?hp (fun _ hk => hk) trivial (Below.refl _ _) (Nat.le_refl _) (by simp) ?_
                    (case hd => rfl)
                    (case hg => rfl)
                    (case hr => first | (go_simp; done) | (go_simp; rfl))
                    (case hp => exact Reps.front (kRule_mkM _ _ _ (rd_Rule fit i)) rfl (Reps.none _ _) rfl)
                    intro v44 w9_0 ho hb hg_ hnew_
                    clear hg_ hnew_
                    have HL1 := Aside0.mk (Kd.R_lower ho (below_size HBc.out))
                    clear ho
                    have n9_ := Aside0.mk (below_step HBc.out hb)
                    clear HBc hb
                    have HBc := n9_
                    clear n9_
                    refine hK.out _ _ ⟨(pw_cell_below HBc.out HX0.out), (pw_cell_below HBc.out HX1.out)⟩ (fun hHeld => ?_)
                    clear hK K
                    refine norm_ (a' := ?_) ?_ ?_
                    rotate_left
                    · show Act.put _ (some 44) _ = _
                      simp only [Act.put, List.setIfInBounds_toArray, List.set_cons_zero, List.set_cons_succ, i64_w, i32_w]
                      rfl
                    refine one_ (i := 5) (N := some 40) #[true, true, true, true, true, true, true, false, true, true, false, true, true, true, false, false] rfl rfl (by kernel_rfl) (by decide) (fun K hK => ?_)
                    refine Kd.R_lit_step kRule _ 54 ?hg (N := 40) ?hd (xs := ([] : List SRule)) (inner := []) (ok := fun _ => True) (okp := fun _ => True) ?hr ?hp (fun _ hk => hk) trivial (Below.refl _ _) (Nat.le_refl _) (by simp) ?_
                    (case hd => rfl)
                    (case hg => rfl)
                    (case hr => first | (go_simp; done) | (go_simp; rfl))
                    (case hp => exact Reps.none _ _)
                    intro v40 w5_1 ho hb hg_ hnew_
                    clear hg_ hnew_
                    have n1_ := Aside0.mk (Kd.R_mono (Kd.R_elder' HL1.out (Kd.R_base ho) hb) (fun _ hk => hk.2))
                    clear HL1
                    have HL1 := n1_
                    clear n1_
                    have HL0 := Aside0.mk (Kd.R_lower ho (below_size HBc.out))
                    clear ho
                    have n9_ := Aside0.mk (below_step HBc.out hb)
                    clear HBc hb
                    have HBc := n9_
                    clear n9_
                    refine hK.out _ _ ⟨(pw_cell_below HBc.out HX0.out), (pw_cell_below HBc.out HX1.out)⟩ (fun hHeld => ?_)
                    clear hK K
                    refine norm_ (a' := ?_) ?_ ?_
                    rotate_left
                    · show Act.put _ (some 40) _ = _
                      simp only [Act.put, List.setIfInBounds_toArray, List.set_cons_zero, List.set_cons_succ, i64_w, i32_w]
                      rfl
                    refine one_ (i := 7) (N := some 42) #[true, true, true, true, true, true, true, true, true, true, false, true, true, true, false, false] rfl rfl (by kernel_rfl) (by decide) (fun K hK => ?_)
                    refine Kd.R_append_rows_step kRule (w0 := wS) wS.heap.size (by rfl) (.tmp 40) (.tmp 41) 33 54 (.agg #[(.int .i64 0), (.int .i64 0)]) 16 rfl Tryd.underlying33 infoE_Rule rfl (by decide) (by omega) v40 ([] : List SRule) rules _ _ _ (fun _ => True) (fun _ => False) rfl rfl HL0.out ?aR (fun _ _ h => h) (fun _ h => h.elim) (fun _ _ => trivial) HBc.out (below_size HBc.out) ?aL ?_
                    (case aR => exact H2.out _ (PzPost.below (PzPost.below HPS.out HBx.out) HBc.out).2.2.1)
                    (case aL => have h_ := HLB.out; simp only [List.length_nil]; omega)
                    intro v42 w7_2 ho hb hg hat_
                    simp only [List.nil_append] at ho
                    have n1_ := Aside0.mk (Kd.R_grown HL1.out hg (fun _ hk => hk))
                    clear HL1
                    have HL1 := n1_
                    clear n1_
                    clear hg hat_ HL0 HBc
                    have HA := Aside0.mk ho
                    have HBc := Aside0.mk hb
                    clear ho hb
                    refine hK.out _ _ ⟨(pw_cell_below HBc.out HX0.out), (pw_cell_below HBc.out HX1.out)⟩ (fun hHeld => ?_)
                    clear hK K
                    refine norm_ (a' := ?_) ?_ ?_
                    rotate_left
                    · show Act.put _ (some 42) _ = _
                      simp only [Act.put, List.setIfInBounds_toArray, List.set_cons_zero, List.set_cons_succ, i64_w, i32_w]
                      rfl
                    exact norm_ (by simp only [putAll, Act.put, List.setIfInBounds_toArray, List.set_cons_zero, List.set_cons_succ]) (hCont (v40, v42, v44) _ ⟨HA.out, Kd.R_mono HL1.out (fun _ _ => trivial), HBc.out⟩)
                rintro ⟨v40, v42, v44⟩ wJ ⟨ha_, hl_, hb_⟩
                clear HBc
                have HA := Aside0.mk ha_
                have HL1 := Aside0.mk hl_
                have HBc := Aside0.mk hb_
                clear ha_ hl_ hb_
                obtain ⟨A44, c44, e44⟩ := Kd.R_slice HL1.out
                dsimp only at e44
                subst e44
                refine norm_ (a' := ?_) ?_ ?_
                rotate_left
                · simp only [putAll, Act.put, List.setIfInBounds_toArray, List.set_cons_zero, List.set_cons_succ]
                  rfl
                refine one_ (i := 10) (N := some 45) #[true, true, true, true, true, true, true, true, true, true, true, true, true, true, false, false] rfl rfl (by kernel_rfl) (by decide) (fun K hK => ?_)
                refine Kd.R_append_rows_step kRule (w0 := wS) wS.heap.size (by rfl) (.tmp 42) (.tmp 44) 33 54 (.agg #[(.int .i64 0), (.int .i64 0)]) 16 rfl Tryd.underlying33 infoE_Rule rfl (by decide) (by omega) v42 rules [rd_Rule fit i] _ _ _ (fun _ => True) (fun _ => False) rfl rfl HA.out ?aR (fun _ _ h => h) (fun _ h => h.elim) (fun _ _ => trivial) HBc.out (below_size HBc.out) ?aL ?_
                (case aR => exact (Kd.R_reads' HL1.out).2.2)
                (case aL => have h_ := HLB.out; simp only [List.length_singleton]; omega)
                intro v45 wB ho hb hg hat_
                clear hg hat_ HA HL1 HBc
                have HA := Aside0.mk ho
                have HBc := Aside0.mk hb
                clear ho hb
                obtain ⟨A45, c45, e45⟩ := Kd.R_slice HA.out
                subst e45
                refine hK.out _ _ ⟨(pw_cell_below HBc.out HX0.out), (pw_cell_below HBc.out HX1.out)⟩ (fun hHeld => ?_)
                clear hK K
                refine norm_ (a' := ?_) ?_ ?_
                rotate_left
                · show Act.put _ (some 45) _ = _
                  simp only [Act.put, List.setIfInBounds_toArray, List.set_cons_zero, List.set_cons_succ, i64_w, i32_w]
                  rfl
                refine last_ (i := 14) (N := some 49) #[true, true, true, true, true, true, true, true, true, true, true, true, true, true, true, false] rfl rfl (by kernel_rfl) (by decide) (fun K hK => ?_)
                refine goes_ Tryd.func60 (by kernel_rfl) rfl #[.string p, .slice A39 fd.length c39, .slice A45 (rules ++ [rd_Rule fit i]).length c45, .int .i64 (wrap64 (left - 1)), .slice Aq o.length cq] (by rfl) rfl rfl (by (try simp only [List.map_toArray, List.map_cons, List.map_nil]); first | done | rfl) ?_
                have HPB := Aside0.mk (PzPost.below (PzPost.below HPS.out HBx.out) HBc.out)
                refine (IH.out k1 (by have := HK.out; omega) p fd (rules ++ [rd_Rule fit i]) (wrap64 (left - 1)) o o2 A39 c39 _ _ (.slice Aq o.length cq) w0 _ ?s1 ?s2 ?s3 ?s4 ?s5 ?s6 A_.out).mono ?_
                (case s1 => exact (fun W' hg' => HF2.out W' (H1.out _ (grown_trans HPB.out.2.2.1 hg' HPB.out.2.2.2))))
                (case s2 => exact HC39.out)
                (case s3 => exact (fun W' hg' => (Kd.R_reads' (Kd.R_grown (Kd.R_bound HA.out) hg' (fun k_ hk e_ => by have h1_ := HV.out k_ e_.symm; have h2_ := hk.2.1; have h3_ := HBx.out.size; omega))).2.2))
                (case s4 => exact (Kd.R_reads' HA.out).2.1)
                (case s5 => exact HPB.out.1)
                (case s6 => exact HPB.out.2.1)
                rintro e wC ⟨v49, rfl, hp⟩
                refine ⟨_, rfl, ?_⟩
                have HPN := Aside0.mk (PzPost.trans HPB.out hp)
                clear hp HPB
                refine hK.out _ _ ?_
                clear hK K
                refine norm_ (a' := ?_) ?_ ?_
                rotate_left
                · show Act.put _ (some 49) _ = _
                  simp only [Act.put, List.setIfInBounds_toArray, List.set_cons_zero, List.set_cons_succ, i64_w, i32_w]
                  rfl
                refine pure_ (i := 15) (N := some 4) (v := ?_) (a' := ?_) #[true, true, true, true, true, true, true, true, true, true, true, true, true, true, true, true] rfl rfl (by kernel_rfl) (fun _ _ _ h => h) (Or.inl ⟨by rfl, ?_⟩) ?_ ?_
                rotate_left
                · intro w'
                  go_simp
                  with_reducible rfl
                rotate_left
                · simp only [Act.put, List.setIfInBounds_toArray, List.set_cons_zero, List.set_cons_succ, i64_w, i32_w]
                  rfl
                refine done_ (by kernel_rfl) ?_
                go_wp2
                go_roundg k1
                case measure => have := HK.out; omega
                case rel => exact ⟨o2, i + 1, by go_num, H', ⟨by have := HK.out; omega⟩, HPN⟩
              · rw [if_neg c3_] at H
                exact absurd H (by simp)
          · rw [if_neg c1_] at H
            have c1b : decide ((i : Int) < (fit.length : Int)) = false := decide_eq_false (by omega)
            have c1c : decide (i < fit.length) = false := decide_eq_false c1_
            clear c1_
            have HR := Aside0.mk (Option.some.inj H)
            clear H
            go_wp2
            go_ret
            exact ⟨_, rfl, by rw [← HR.out]; exact HPS.out⟩
theorem spec_pzAll.calls (k : Nat) (a0 : ByteArray) (A1 : Option Addr) (c1 : Nat) (l1 : List SRule) (A2 : Option Addr) (c2 : Nat) (l2 : List SRule) (a3 : Int) (A4 : Option Addr) (c4 : Nat) (l4 : List (List SRule)) (r : List (List SRule)) (w : World)
    (hr1 : Kd.C kRule w A1 l1.length l1) (hc1 : l1.length ≤ c1) (hr2 : Kd.C kRule w A2 l2.length l2) (hc2 : l2.length ≤ c2) (hr4 : Kd.C (Kd.slice 54 kRule) w A4 l4.length l4) (hc4 : l4.length ≤ c4) (h : spec_pzAll.f k a0 l1 l2 a3 l4 = some r) (hnil : A4 = none ∧ c4 = 0 := by exact ⟨rfl, rfl⟩) :
    Calls Tryd.prog 60 #[.string a0, .slice A1 l1.length c1, .slice A2 l2.length c2, .int .i64 a3, .slice A4 l4.length c4] w fun e w' => ∃ v0_ : Value, e = .returned (v0_) ∧ Kd.S (Kd.slice 54 kRule) 33 w' w.heap.size (fun _ => True) v0_ r ∧ Below w.heap.size w w' := by
  obtain ⟨rfl, rfl⟩ := hnil
  obtain rfl : l4 = [] := List.eq_nil_of_length_eq_zero (by omega)
  have hb : ∀ W', w.grownBy W' (Value.slice none ([] : List (List SRule)).length 0).ownBlock → Below w.heap.size w W' := fun W' hg => ⟨hg.os, hg.tape, hg.output, hg.size, fun k hk => hg.block k hk (by simp [Value.ownBlock])⟩
  exact (spec_pzAll.own k a0 l1 l2 a3 [] r A1 c1 A2 c2 (.slice none 0 0) w w (fun W' hg => Kd.C_below hr1 (hb W' hg)) hc1 (fun W' hg => Kd.C_below hr2 (hb W' hg)) hc2 (Kd.S_nil _ _ _ _ _) (Below.refl _ _) h).mono fun e w' ⟨v1, he, hp⟩ => ⟨v1, he, hp.1, hp.2.1⟩
end Go.Proofs.YtkloiiojigofpaaDoor.P
namespace Go.Proofs.YtkloiiojigofpaaDoor.P
open Go.RowKit Go.Proofs.YtkloiiojigofpaaDoorW.PrintWords Go.Proofs.YtkloiiojigofpaaDoorW.PrintLast Go.Proofs.YtkloiiojigofpaaDoorW.PrintMore
attribute [local go_sem] max2_int min2_int max_two min_two max_three min_three max_four min_four
set_option linter.unusedVariables false
set_option linter.unusedSimpArgs false
mutual
def spec_pzFit.l0 : Nat → ByteArray → List (SRule) → Int → Option ((List (SRule)))
  | 0, _, _, _ => none
  | k + 1, x0, x3, x4 => if x4 ≤ 10 then (spec_pzFit.l1 k x0 x3 x4 0) else (some x3)
def spec_pzFit.l1 : Nat → ByteArray → List (SRule) → Int → Int → Option ((List (SRule)))
  | 0, _, _, _, _ => none
  | k + 1, x0, x3, x4, x5 => if x5 < x4 then ((spec_pzFits.f k x0 x4 x5).bind fun t102 => (if t102 = true then (if x3.length < 8796093022208 then (spec_pzFit.l1 k x0 (x3 ++ [(⟨x4, x5⟩ : SRule)]) x4 (wrap64 (x5 + 1))) else (none)) else (spec_pzFit.l1 k x0 x3 x4 (wrap64 (x5 + 1))))) else (spec_pzFit.l0 k x0 x3 (wrap64 (x4 + 1)))
end
def spec_pzFit.f (k : Nat) (a0 : ByteArray) : Option ((List (SRule))) := spec_pzFit.l0 k a0 ([] : List (SRule)) 2
set_option maxHeartbeats 8000000 in
set_option maxRecDepth 100000 in
theorem spec_pzFit.calls (k : Nat) (a0 : ByteArray) (r : List (SRule)) (w : World) (h : spec_pzFit.f k a0 = some r) :
    Calls Tryd.prog 61 #[.string a0] w fun e w' => ∃ v0_ : Value, e = .returned (v0_) ∧ Kd.R kRule 54 w' w.heap.size (fun _ => True) v0_ r ∧ Below w.heap.size w w' := by
  have hu54 := Tryd.underlying54
  have HB := Aside0.mk (Below.refl w.heap.size w)
  have H : (spec_pzFit.l0 k a0 ([] : List (SRule)) 2) = some r := h
  clear h
  have H' := Aside0.mk H
  clear H
  go_enter Tryd.func61, Tryd.ntmps61
  go_wp2
  go_loopg [3, 4] k (fun kq v3 v4 w' => ∃ (x3_1 : List (SRule)) (x4_1 : Int), v4 = .int .i64 x4_1 ∧ Aside0 (spec_pzFit.l0 kq a0 x3_1 x4_1 = some r) ∧ Aside0 (kq ≤ k) ∧ Aside0 (Kd.R kRule 54 w' w.heap.size (fun _ => True) v3 x3_1) ∧ Aside0 (Below w.heap.size w w'))
  case atStart => exact ⟨(([] : List (SRule))), (2), (by first | rfl | (simp; done) | (simp [*]; done)), H', ⟨Nat.le_refl _⟩, ⟨by first | exact Kd.R_nil _ _ _ _ _ | exact Kd.N_nil _ _ _ _ _ | exact Kd.V_nil _ _ _ _ _ | exact Kd.Q_nil _ _ _ _ _ | exact Kd.S_nil _ _ _ _ _⟩, ⟨by repeat (first | (with_reducible first | exact HB.out | apply below_alloc | apply pw_below_drewN | apply below_drew1) | exact HB.out)⟩⟩
  case round =>
    clear H'
    obtain ⟨x3_1, x4_1, rfl, HA, HK1, HO_3, HB⟩ := hrel
    cases gk with
    | zero => exact absurd HA.out (by simp [spec_pzFit.l0])
    | succ k1 =>
      have H := HA.out
      clear HA
      simp only [spec_pzFit.l0] at H
      by_cases c2 : x4_1 ≤ 10
      · rw [if_pos c2] at H
        have c2b0 : decide (x4_1 ≤ 10) = true := decide_eq_true c2
        clear c2
        have H' := Aside0.mk H
        clear H
        go_wp2
        go_loopg [3, 5] k1 (fun kq v3 v5 w' => ∃ (x3_2 : List (SRule)) (x5_2 : Int), v5 = .int .i64 x5_2 ∧ Aside0 (spec_pzFit.l1 kq a0 x3_2 x4_1 x5_2 = some r) ∧ Aside0 (kq ≤ k1) ∧ Aside0 (Kd.R kRule 54 w' w.heap.size (fun _ => True) v3 x3_2) ∧ Aside0 (Below w.heap.size w w'))
        case atStart => exact ⟨(x3_1), (0), (by first | rfl | (simp; done) | (simp [*]; done)), H', ⟨Nat.le_refl _⟩, ⟨by (with_reducible repeat (first | apply Kd.R_alloc | apply Kd.R_drewN | apply Kd.R_drew)); exact HO_3.out⟩, ⟨by repeat (first | (with_reducible first | exact HB.out | apply below_alloc | apply pw_below_drewN | apply below_drew1) | exact HB.out)⟩⟩
        case round =>
          clear H'
          try clear c2
          try clear c2b0
          try clear p2
          obtain ⟨x3_2, x5_2, rfl, HA, HK2, HO_3, HB⟩ := hrel
          cases gk with
          | zero => exact absurd HA.out (by simp [spec_pzFit.l1])
          | succ k2 =>
            have H := HA.out
            clear HA
            simp only [spec_pzFit.l1] at H
            by_cases c3 : x5_2 < x4_1
            · rw [if_pos c3] at H
              have c3b0 : decide (x5_2 < x4_1) = true := decide_eq_true c3
              clear c3
              replace H := Option.bind_eq_some_iff.mp H
              obtain ⟨t102, A40, H⟩ := H
              replace H : (if t102 = true then (if x3_2.length < 8796093022208 then (spec_pzFit.l1 k2 a0 (x3_2 ++ [(⟨x4_1, x5_2⟩ : SRule)]) x4_1 (wrap64 (x5_2 + 1))) else (none)) else (spec_pzFit.l1 k2 a0 x3_2 x4_1 (wrap64 (x5_2 + 1)))) = some r := H
              have A4 := Aside0.mk A40
              clear A40
              by_cases c5 : t102 = true
              · subst c5
                have H1 : (if x3_2.length < 8796093022208 then (spec_pzFit.l1 k2 a0 (x3_2 ++ [(⟨x4_1, x5_2⟩ : SRule)]) x4_1 (wrap64 (x5_2 + 1))) else (none)) = some r := by rw [if_pos rfl] at H; exact H
                clear H
                have H := H1
                clear H1
                by_cases c6 : x3_2.length < 8796093022208
                · rw [if_pos c6] at H
                  have LMc6 := Aside0.mk c6
                  clear c6
                  obtain ⟨y103, hy103⟩ : ∃ y_ : List (SRule), y_ = (x3_2 ++ [(⟨x4_1, x5_2⟩ : SRule)]) := ⟨_, rfl⟩
                  replace H : (spec_pzFit.l1 k2 a0 y103 x4_1 (wrap64 (x5_2 + 1))) = some r := by first | (rw [hy103]; with_reducible exact H) | (have H2_ := (Option.bind_some _ _).symm.trans H; rw [hy103]; with_reducible exact H2_) | (have H2_ := (Option.bind_some _ _).symm.trans H; with_reducible exact H2_) | with_reducible exact H | (rw [hy103]; exact H) | exact H
                  have Ny103 := Aside0.mk hy103
                  clear hy103
                  have H' := Aside0.mk H
                  clear H
                  go_wp2_with (first | ((with_reducible refine gate_dst (N := 6) rfl ?_); refine box_event ?hg (N := 6) ?hd (cs := #[.int .i64 0, .int .i64 0]) (t := 54) ?hr ?_; (case hd => rfl); (case hg => rfl); (case hr => first | (go_simp; done) | (go_simp; rfl)); intro gb101 hg w7 hbox hb; have n0_ := Aside0.mk (Kd.R_below (Kd.R_elderB (by (with_reducible repeat (first | apply Kd.R_alloc | apply Kd.R_drewN | apply Kd.R_drew)); exact HO_3.out) gb101 (Nat.le_of_eq hg.symm)) hb); have n1_ := Aside0.mk (below_step (by repeat (first | (with_reducible first | exact HB.out | apply below_alloc | apply pw_below_drewN | apply below_drew1) | exact HB.out)) hb); have n2_ := Aside0.mk (hbox); have n3_ := Aside0.mk ((by rw [hg]; exact (below_size (by repeat (first | (with_reducible first | exact HB.out | apply below_alloc | apply pw_below_drewN | apply below_drew1) | exact HB.out))) : w.heap.size ≤ gb101)); have n4_ := Aside0.mk ((by rw [hg]; exact (below_size (by repeat (first | (with_reducible first | exact HB.out | apply below_alloc | apply pw_below_drewN | apply below_drew1) | exact HB.out))) : w.heap.size ≤ gb101)); clear HO_3; clear HB; have HO_3 := n0_; have HB := n1_; have BK101 := n2_; have GW101 := n3_; have GE101 := n4_; clear n0_ n1_ n2_ n3_ n4_; clear hb hbox hg; have hcz8_0 : w7.cell? ⟨gb101, 0, none⟩ = some (.int .i64 0) := (blk_cell BK101.out 0).trans rfl; have hcz8_1 : w7.cell? ⟨gb101, 1, none⟩ = some (.int .i64 0) := (blk_cell BK101.out 1).trans rfl; have hfz8_0 := blk_frozen BK101.out 0; have hfz8_1 := blk_frozen BK101.out 1) | ((with_reducible refine gate_callee (f := 77) rfl ?_); refine goesL_ (some 21) rfl rfl Tryd.func77 (by kernel_rfl) rfl #[.string a0, .agg #[.int .i64 x4_1, .int .i64 x5_2]] rfl (by (try simp only [List.map_toArray, List.map_cons, List.map_nil]); first | done | rfl | (simp only [List.length_drop, List.length_take]; rfl)) ?_; (with_reducible refine (spec_pzFits.calls k2 a0 x4_1 x5_2 true _ A4.out).mono ?_); rintro e w9 ⟨rfl, hb⟩; refine ⟨_, rfl, ?_⟩; have n0_ := Aside0.mk (Kd.R_below (by (with_reducible repeat (first | apply Kd.R_alloc | apply Kd.R_drewN | apply Kd.R_drew)); exact (Kd.R_mono (Kd.R_far (p := ⟨gb101, 1, none⟩) (Kd.R_far (p := ⟨gb101, 0, none⟩) (Kd.R_mono HO_3.out (fun k_ hk => (⟨hk, hk.2⟩ : _ ∧ k_ ≠ gb101))) (fun _ hk => hk.2) (.int .i64 x4_1)) (fun _ hk => hk.2) (.int .i64 x5_2)) (fun _ h_ => h_.1))) hb); have n1_ := Aside0.mk (blk_below (g := gb101) (o := .cells #[.int .i64 x4_1, .int .i64 x5_2] 54 (0, 0)) (by (with_reducible repeat (first | refine blk_drewN ?_ _ | refine blk_drew ?_ | refine blk_alloc ?_ _)); refine blk_put (cs := #[.int .i64 x4_1, .int .i64 0]) ?_ 1 _ rfl; (with_reducible repeat (first | refine blk_drewN ?_ _ | refine blk_drew ?_ | refine blk_alloc ?_ _)); refine blk_put (cs := #[.int .i64 0, .int .i64 0]) ?_ 0 _ rfl; (with_reducible repeat (first | refine blk_drewN ?_ _ | refine blk_drew ?_ | refine blk_alloc ?_ _)); exact BK101.out) hb); have n2_ := Aside0.mk (below_step (by repeat (first | (with_reducible first | exact HB.out | apply below_alloc | apply pw_below_drewN | apply below_drew1 | refine below_set ?_ GE101.out) | exact HB.out)) hb); clear HO_3; clear BK101; clear HB; have HO_3 := n0_; have BK101 := n1_; have HB := n2_; clear n0_ n1_ n2_; (try clear hb); (try clear hb2); (try clear hk); (try clear hi); have hcz10_0 : w9.cell? ⟨gb101, 0, none⟩ = some (.int .i64 x4_1) := (blk_cell BK101.out 0).trans rfl; have hcz10_1 : w9.cell? ⟨gb101, 1, none⟩ = some (.int .i64 x5_2) := (blk_cell BK101.out 1).trans rfl; have hfz10_0 := blk_frozen BK101.out 0; have hfz10_1 := blk_frozen BK101.out 1) | ((with_reducible refine gate_builtin (b := .append) (xs := #[.tmp 22, .tmp 24]) rfl ?_); at_builtin; refine Kd.R_append kRule (w0 := w) w.heap.size rfl (.tmp 22) (.tmp 24) 33 54 (.agg #[(.int .i64 0), (.int .i64 0)]) 16 rfl Tryd.underlying33 info54 rfl (by decide) (by omega) u3 x3_2 (⟨x4_1, x5_2⟩ : SRule) [.int .i64 x4_1, .int .i64 x5_2] (fun k_ => k_ ≠ gb101) (fun _ => False) rfl rfl ?aP (fun _ hk => hk.elim) ?aF ?aO ?aB ?aS ?aL ?_; (case aP => exact kRule_mkM _ _ _ (⟨x4_1, x5_2⟩ : SRule)); (case aB => exact (by repeat (first | (with_reducible first | exact HB.out | apply below_alloc | apply pw_below_drewN | apply below_drew1 | refine below_set ?_ GE101.out) | exact HB.out))); (case aF => exact (fun k_ hk => Kd.freshB (g := gb101) (o := .cells #[.int .i64 x4_1, .int .i64 x5_2] 54 (0, 0)) (by (with_reducible repeat (first | refine blk_drewN ?_ _ | refine blk_drew ?_ | refine blk_alloc ?_ _)); exact BK101.out) k_ hk)); (case aO => exact (by (with_reducible repeat (first | apply Kd.R_alloc | apply Kd.R_drewN | apply Kd.R_drew)); exact Kd.R_mono HO_3.out (fun _ hk => hk.2))); (case aS => exact (below_size (by repeat (first | (with_reducible first | exact HB.out | apply below_alloc | apply pw_below_drewN | apply below_drew1 | refine below_set ?_ GE101.out) | exact HB.out)))); (case aL => have := LMc6.out; omega); intro v104 w11 ho hb hg hat; rw [← Ny103.out] at ho; have n0_ := Aside0.mk (blk_grown (g := gb101) (o := .cells #[.int .i64 x4_1, .int .i64 x5_2] 54 (0, 0)) (by (with_reducible repeat (first | refine blk_drewN ?_ _ | refine blk_drew ?_ | refine blk_alloc ?_ _)); exact BK101.out) hg (Kd.R_away HO_3.out (fun _ hk => hk.2))); have n1_ := Aside0.mk (hb); have n2_ := Aside0.mk (ho); clear BK101; clear HB; clear HO_3; have BK101 := n0_; have HB := n1_; have HO105 := n2_; clear n0_ n1_ n2_; clear ho hb hg hat))
                  go_roundg k2
                  case measure => have := HK1.out; have := HK2.out; omega
                  case rel => exact ⟨(y103), (wrap64 (x5_2 + 1)), (by first | rfl | (simp; done) | (simp [*]; done)), H', ⟨by have := HK1.out; have := HK2.out; omega⟩, ⟨by (with_reducible repeat (first | apply Kd.R_alloc | apply Kd.R_drewN | apply Kd.R_drew)); exact Kd.R_mono HO105.out (fun _ hk => trivial)⟩, ⟨by repeat (first | (with_reducible first | exact HB.out | apply below_alloc | apply pw_below_drewN | apply below_drew1 | refine below_set ?_ GE101.out) | exact HB.out)⟩⟩
                · rw [if_neg c6] at H
                  exact absurd H (by simp)
              · replace c5 := Bool.eq_false_iff.mpr c5
                subst c5
                have H1 : (spec_pzFit.l1 k2 a0 x3_2 x4_1 (wrap64 (x5_2 + 1))) = some r := by rw [if_neg (show ¬ (false = true) by decide)] at H; exact H
                clear H
                have H := H1
                clear H1
                have H' := Aside0.mk H
                clear H
                go_wp2_with (first | ((with_reducible refine gate_dst (N := 6) rfl ?_); refine box_event ?hg (N := 6) ?hd (cs := #[.int .i64 0, .int .i64 0]) (t := 54) ?hr ?_; (case hd => rfl); (case hg => rfl); (case hr => first | (go_simp; done) | (go_simp; rfl)); intro gb101 hg w12 hbox hb; have n0_ := Aside0.mk (Kd.R_below (Kd.R_elderB (by (with_reducible repeat (first | apply Kd.R_alloc | apply Kd.R_drewN | apply Kd.R_drew)); exact HO_3.out) gb101 (Nat.le_of_eq hg.symm)) hb); have n1_ := Aside0.mk (below_step (by repeat (first | (with_reducible first | exact HB.out | apply below_alloc | apply pw_below_drewN | apply below_drew1) | exact HB.out)) hb); have n2_ := Aside0.mk (hbox); have n3_ := Aside0.mk ((by rw [hg]; exact (below_size (by repeat (first | (with_reducible first | exact HB.out | apply below_alloc | apply pw_below_drewN | apply below_drew1) | exact HB.out))) : w.heap.size ≤ gb101)); have n4_ := Aside0.mk ((by rw [hg]; exact (below_size (by repeat (first | (with_reducible first | exact HB.out | apply below_alloc | apply pw_below_drewN | apply below_drew1) | exact HB.out))) : w.heap.size ≤ gb101)); clear HO_3; clear HB; have HO_3 := n0_; have HB := n1_; have BK101 := n2_; have GW101 := n3_; have GE101 := n4_; clear n0_ n1_ n2_ n3_ n4_; clear hb hbox hg; have hcz13_0 : w12.cell? ⟨gb101, 0, none⟩ = some (.int .i64 0) := (blk_cell BK101.out 0).trans rfl; have hcz13_1 : w12.cell? ⟨gb101, 1, none⟩ = some (.int .i64 0) := (blk_cell BK101.out 1).trans rfl; have hfz13_0 := blk_frozen BK101.out 0; have hfz13_1 := blk_frozen BK101.out 1) | ((with_reducible refine gate_callee (f := 77) rfl ?_); refine goesL_ (some 21) rfl rfl Tryd.func77 (by kernel_rfl) rfl #[.string a0, .agg #[.int .i64 x4_1, .int .i64 x5_2]] rfl (by (try simp only [List.map_toArray, List.map_cons, List.map_nil]); first | done | rfl | (simp only [List.length_drop, List.length_take]; rfl)) ?_; (with_reducible refine (spec_pzFits.calls k2 a0 x4_1 x5_2 false _ A4.out).mono ?_); rintro e w14 ⟨rfl, hb⟩; refine ⟨_, rfl, ?_⟩; have n0_ := Aside0.mk (Kd.R_below (by (with_reducible repeat (first | apply Kd.R_alloc | apply Kd.R_drewN | apply Kd.R_drew)); exact (Kd.R_mono (Kd.R_far (p := ⟨gb101, 1, none⟩) (Kd.R_far (p := ⟨gb101, 0, none⟩) (Kd.R_mono HO_3.out (fun k_ hk => (⟨hk, hk.2⟩ : _ ∧ k_ ≠ gb101))) (fun _ hk => hk.2) (.int .i64 x4_1)) (fun _ hk => hk.2) (.int .i64 x5_2)) (fun _ h_ => h_.1))) hb); have n1_ := Aside0.mk (blk_below (g := gb101) (o := .cells #[.int .i64 x4_1, .int .i64 x5_2] 54 (0, 0)) (by (with_reducible repeat (first | refine blk_drewN ?_ _ | refine blk_drew ?_ | refine blk_alloc ?_ _)); refine blk_put (cs := #[.int .i64 x4_1, .int .i64 0]) ?_ 1 _ rfl; (with_reducible repeat (first | refine blk_drewN ?_ _ | refine blk_drew ?_ | refine blk_alloc ?_ _)); refine blk_put (cs := #[.int .i64 0, .int .i64 0]) ?_ 0 _ rfl; (with_reducible repeat (first | refine blk_drewN ?_ _ | refine blk_drew ?_ | refine blk_alloc ?_ _)); exact BK101.out) hb); have n2_ := Aside0.mk (below_step (by repeat (first | (with_reducible first | exact HB.out | apply below_alloc | apply pw_below_drewN | apply below_drew1 | refine below_set ?_ GE101.out) | exact HB.out)) hb); clear HO_3; clear BK101; clear HB; have HO_3 := n0_; have BK101 := n1_; have HB := n2_; clear n0_ n1_ n2_; (try clear hb); (try clear hb2); (try clear hk); (try clear hi)))
                go_roundg k2
                case measure => have := HK1.out; have := HK2.out; omega
                case rel => exact ⟨(x3_2), (wrap64 (x5_2 + 1)), (by first | rfl | (simp; done) | (simp [*]; done)), H', ⟨by have := HK1.out; have := HK2.out; omega⟩, ⟨by (with_reducible repeat (first | apply Kd.R_alloc | apply Kd.R_drewN | apply Kd.R_drew)); exact Kd.R_mono HO_3.out (fun _ hk => trivial)⟩, ⟨by repeat (first | (with_reducible first | exact HB.out | apply below_alloc | apply pw_below_drewN | apply below_drew1 | refine below_set ?_ GE101.out) | exact HB.out)⟩⟩
            · rw [if_neg c3] at H
              have c3b0 : decide (x5_2 < x4_1) = false := decide_eq_false c3
              clear c3
              have H' := Aside0.mk H
              clear H
              go_wp2
              go_roundg k2
              case measure => have := HK1.out; have := HK2.out; omega
              case rel => exact ⟨(x3_2), (wrap64 (x4_1 + 1)), (by first | rfl | (simp; done) | (simp [*]; done)), H', ⟨by have := HK1.out; have := HK2.out; omega⟩, ⟨by (with_reducible repeat (first | apply Kd.R_alloc | apply Kd.R_drewN | apply Kd.R_drew)); exact HO_3.out⟩, ⟨by repeat (first | (with_reducible first | exact HB.out | apply below_alloc | apply pw_below_drewN | apply below_drew1) | exact HB.out)⟩⟩
      · rw [if_neg c2] at H
        have c2b0 : decide (x4_1 ≤ 10) = false := decide_eq_false c2
        clear c2
        obtain rfl := Option.some.inj H
        go_wp2
        go_ret
        exact ⟨_, by first | rfl | (simp [errW_none, errW_some] <;> rfl) | (simp [*, errW_none, errW_some] <;> rfl), by (with_reducible repeat (first | apply Kd.R_alloc | apply Kd.R_drewN | apply Kd.R_drew)); exact HO_3.out, by repeat (first | (with_reducible first | exact HB.out | apply below_alloc | apply pw_below_drewN | apply below_drew1) | exact HB.out)⟩
end Go.Proofs.YtkloiiojigofpaaDoor.P
namespace Go.Proofs.YtkloiiojigofpaaDoor.P
open Go.RowKit Go.Proofs.YtkloiiojigofpaaDoorW.PrintWords Go.Proofs.YtkloiiojigofpaaDoorW.PrintLast Go.Proofs.YtkloiiojigofpaaDoorW.PrintMore
attribute [local go_sem] max2_int min2_int max_two min_two max_three min_three max_four min_four
set_option linter.unusedVariables false
set_option linter.unusedSimpArgs false
def spec_pzAnswers.f (k : Nat) (a0_0 : ByteArray) (a0_1 : Int) : Option ((List (List (SRule))) × Bool) := (spec_pzGood.f k a0_0 a0_1).bind fun t102 => (if t102 = true then ((spec_pzFit.f k a0_0).bind fun t103 => ((spec_pzAll.f k a0_0 t103 ([] : List (SRule)) a0_1 ([] : List (List (SRule)))).bind fun t106 => (if (t106.length : Int) > 300 then (some (([] : List (List (SRule))), false)) else (some (t106, true))))) else (some (([] : List (List (SRule))), false)))
def spec_pzAnswers.T3 : Bool × List (List Nat × List Nat) := (true, [([], []), ([0], [0]), ([], []), ([2], [2]), ([3], [3]), ([], []), ([5], [5]), ([1, 4, 6, 4], [1, 4, 6]), ([7, 7, 0, 1, 2, 3, 4, 5, 6, 7], [7])])
def spec_pzAnswers.B3 : List Nat := [0, 1, 0, 4, 12, 0, 32, 127, 255]
theorem spec_pzAnswers.tab3 : rtab .any (opsOf Tryd.f37 3) = spec_pzAnswers.T3 := by kernel_rfl
theorem spec_pzAnswers.bits3 : waitsOk spec_pzAnswers.T3.2 spec_pzAnswers.B3 = true := by kernel_rfl
set_option maxHeartbeats 8000000 in
set_option maxRecDepth 100000 in
theorem spec_pzAnswers.calls (k : Nat) (a0_0 : ByteArray) (a0_1 : Int) (r1 : List (List (SRule))) (r2 : Bool) (w : World) (h : spec_pzAnswers.f k a0_0 a0_1 = some (r1, r2)) :
    Calls Tryd.prog 37 #[.agg #[.string a0_0, .int .i64 a0_1]] w fun e w' => ∃ v0_ : Value, e = .returned (.tuple #[v0_, .bool r2]) ∧ Kd.S (Kd.slice 54 kRule) 33 w' w.heap.size (fun _ => True) v0_ r1 ∧ Below w.heap.size w w' := by
  have hu28 := Tryd.underlying28
  have HB := Aside0.mk (Below.refl w.heap.size w)
  have H : ((spec_pzGood.f k a0_0 a0_1).bind fun t102 => (if t102 = true then ((spec_pzFit.f k a0_0).bind fun t103 => ((spec_pzAll.f k a0_0 t103 ([] : List (SRule)) a0_1 ([] : List (List (SRule)))).bind fun t106 => (if (t106.length : Int) > 300 then (some (([] : List (List (SRule))), false)) else (some (t106, true))))) else (some (([] : List (List (SRule))), false)))) = some (r1, r2) := h
  clear h
  replace H := Option.bind_eq_some_iff.mp H
  obtain ⟨t102, A20, H⟩ := H
  replace H : (if t102 = true then ((spec_pzFit.f k a0_0).bind fun t103 => ((spec_pzAll.f k a0_0 t103 ([] : List (SRule)) a0_1 ([] : List (List (SRule)))).bind fun t106 => (if (t106.length : Int) > 300 then (some (([] : List (List (SRule))), false)) else (some (t106, true))))) else (some (([] : List (List (SRule))), false))) = some (r1, r2) := H
  have A2 := Aside0.mk A20
  clear A20
  by_cases c3 : t102 = true
  · subst c3
    have H1 : ((spec_pzFit.f k a0_0).bind fun t103 => ((spec_pzAll.f k a0_0 t103 ([] : List (SRule)) a0_1 ([] : List (List (SRule)))).bind fun t106 => (if (t106.length : Int) > 300 then (some (([] : List (List (SRule))), false)) else (some (t106, true))))) = some (r1, r2) := by rw [if_pos rfl] at H; exact H
    clear H
    have H := H1
    clear H1
    replace H := Option.bind_eq_some_iff.mp H
    obtain ⟨t103, A40, H⟩ := H
    replace H : ((spec_pzAll.f k a0_0 t103 ([] : List (SRule)) a0_1 ([] : List (List (SRule)))).bind fun t106 => (if (t106.length : Int) > 300 then (some (([] : List (List (SRule))), false)) else (some (t106, true)))) = some (r1, r2) := H
    have A4 := Aside0.mk A40
    clear A40
    replace H := Option.bind_eq_some_iff.mp H
    obtain ⟨t106, A50, H⟩ := H
    replace H : (if (t106.length : Int) > 300 then (some (([] : List (List (SRule))), false)) else (some (t106, true))) = some (r1, r2) := H
    have A5 := Aside0.mk A50
    clear A50
    by_cases c6 : (t106.length : Int) > 300
    · rw [if_pos c6] at H
      have c6b0 : decide (300 < (t106.length : Int)) = true := decide_eq_true c6
      have c6b1 : decide (300 < t106.length) = true := decide_eq_true (by omega)
      clear c6
      simp only [Option.some.injEq, Prod.mk.injEq] at H
      obtain ⟨rfl, rfl⟩ := H
      go_enter Tryd.func37, Tryd.ntmps37
      try go_wp2_with (first | ((with_reducible refine gate_dst (N := 1) rfl ?_); refine box_event ?hg (N := 1) ?hd (cs := #[.string a0_0, .int .i64 a0_1]) (t := 28) ?hr ?_; (case hd => rfl); (case hg => rfl); (case hr => first | (go_simp; done) | (go_simp; rfl)); intro gb101 hg w7 hbox hb; have n0_ := Aside0.mk (below_step (by repeat (first | (with_reducible first | exact HB.out | apply below_alloc | apply pw_below_drewN | apply below_drew1) | exact HB.out)) hb); have n1_ := Aside0.mk (hbox); have n2_ := Aside0.mk ((by rw [hg]; exact (below_size (by repeat (first | (with_reducible first | exact HB.out | apply below_alloc | apply pw_below_drewN | apply below_drew1) | exact HB.out))) : w.heap.size ≤ gb101)); have n3_ := Aside0.mk ((by rw [hg]; exact (below_size (by repeat (first | (with_reducible first | exact HB.out | apply below_alloc | apply pw_below_drewN | apply below_drew1) | exact HB.out))) : w.heap.size ≤ gb101)); clear HB; have HB := n0_; have BK101 := n1_; have GW101 := n2_; have GE101 := n3_; clear n0_ n1_ n2_ n3_; clear hb hbox hg; have hcz8_0 : w7.cell? ⟨gb101, 0, none⟩ = some (.string a0_0) := (blk_cell BK101.out 0).trans rfl; have hcz8_1 : w7.cell? ⟨gb101, 1, none⟩ = some (.int .i64 a0_1) := (blk_cell BK101.out 1).trans rfl; have hfz8_0 := blk_frozen BK101.out 0; have hfz8_1 := blk_frozen BK101.out 1) | ((with_reducible refine gate_callee (f := 48) rfl ?_); refine goesL_ (some 6) rfl rfl Tryd.func48 (by kernel_rfl) rfl #[.agg #[.string a0_0, .int .i64 a0_1]] rfl (by (try simp only [List.map_toArray, List.map_cons, List.map_nil]); first | done | rfl | (simp only [List.length_drop, List.length_take]; rfl)) ?_; (with_reducible refine (spec_pzGood.calls k a0_0 a0_1 true _ A2.out).mono ?_); rintro e w9 ⟨rfl, hb⟩; refine ⟨_, rfl, ?_⟩; have n0_ := Aside0.mk (blk_below (g := gb101) (o := .cells #[.string a0_0, .int .i64 a0_1] 28 (0, 0)) (by (with_reducible repeat (first | refine blk_drewN ?_ _ | refine blk_drew ?_ | refine blk_alloc ?_ _)); exact BK101.out) hb); have n1_ := Aside0.mk (below_step (by repeat (first | (with_reducible first | exact HB.out | apply below_alloc | apply pw_below_drewN | apply below_drew1 | refine below_set ?_ GE101.out) | exact HB.out)) hb); clear BK101; clear HB; have BK101 := n0_; have HB := n1_; clear n0_ n1_; (try clear hb); (try clear hb2); (try clear hk); (try clear hi)))
      have n0_ := Aside0.mk (blk_drew BK101.out)
      have n1_ := Aside0.mk (below_drew1 HB.out)
      clear BK101
      clear HB
      have BK101 := n0_
      have HB := n1_
      clear n0_ n1_
      refine start_ (n := 9) (S := fun w' => w'.cell? ⟨gb101, 0, none⟩ = some (.string a0_0) ∧ w'.cell? ⟨gb101, 1, none⟩ = some (.int .i64 a0_1)) (ds := []) #[false, false, false, false, false, false, false, false, false] (by kernel_rfl) rfl rfl ⟨(blk_cell BK101.out 0).trans rfl, (blk_cell BK101.out 1).trans rfl⟩ (fun hHeld => ?_); refine with_tabW spec_pzAnswers.tab3 spec_pzAnswers.bits3 (fun HT_ HW_ => ?_)
      generalize w9.drew = w10 at BK101 HB hHeld ⊢
      refine pure_ (i := 0) (N := some 8) (v := ?_) (a' := ?_) #[true, false, false, false, false, false, false, false, false] rfl rfl (any_of HT_.out (by kernel_rfl)) (fun _ _ _ h => h) (Or.inl ⟨by rfl, ?_⟩) ?_ ?_
      rotate_left
      · intro w'
        go_simp
        with_reducible rfl
      rotate_left
      · simp only [Act.put, List.setIfInBounds_toArray, List.set_cons_zero, List.set_cons_succ, i64_w, i32_w]
        rfl
      refine pure_ (i := 2) (N := some 10) (v := ?_) (a' := ?_) #[true, false, true, false, false, false, false, false, false] rfl rfl (any_of HT_.out (by kernel_rfl)) (fun _ _ _ h => h) (Or.inl ⟨by rfl, ?_⟩) ?_ ?_
      rotate_left
      · intro w'
        go_simp
        with_reducible rfl
      rotate_left
      · simp only [Act.put, List.setIfInBounds_toArray, List.set_cons_zero, List.set_cons_succ, i64_w, i32_w]
        rfl
      refine pure_ (i := 5) (N := some 13) (v := ?_) (a' := ?_) #[true, false, true, false, false, true, false, false, false] rfl rfl (any_of HT_.out (by kernel_rfl)) (fun _ _ _ h => h) (Or.inl ⟨by rfl, ?_⟩) ?_ ?_
      rotate_left
      · intro w'
        go_simp
        with_reducible rfl
      rotate_left
      · simp only [Act.put, List.setIfInBounds_toArray, List.set_cons_zero, List.set_cons_succ, i64_w, i32_w]
        rfl
      refine take_ (i := 1) (N := some 9) (v := ?_) (a' := ?_) #[true, true, true, false, false, true, false, false, false] rfl rfl (take_ofW HT_.out HW_.out (by kernel_rfl)) (fun _ _ _ h => h) (Or.inl ⟨by rfl, ?_⟩) hHeld ?_ ?_
      rotate_left
      · rintro w' ⟨s0, s1⟩
        go_simp
        with_reducible rfl
      rotate_left
      · simp only [Act.put, List.setIfInBounds_toArray, List.set_cons_zero, List.set_cons_succ, i64_w, i32_w]
        rfl
      refine take_ (i := 3) (N := some 11) (v := ?_) (a' := ?_) #[true, true, true, true, false, true, false, false, false] rfl rfl (take_ofW HT_.out HW_.out (by kernel_rfl)) (fun _ _ _ h => h) (Or.inl ⟨by rfl, ?_⟩) hHeld ?_ ?_
      rotate_left
      · rintro w' ⟨s0, s1⟩
        go_simp
        with_reducible rfl
      rotate_left
      · simp only [Act.put, List.setIfInBounds_toArray, List.set_cons_zero, List.set_cons_succ, i64_w, i32_w]
        rfl
      refine take_ (i := 6) (N := some 14) (v := ?_) (a' := ?_) #[true, true, true, true, false, true, true, false, false] rfl rfl (take_ofW HT_.out HW_.out (by kernel_rfl)) (fun _ _ _ h => h) (Or.inl ⟨by rfl, ?_⟩) hHeld ?_ ?_
      rotate_left
      · rintro w' ⟨s0, s1⟩
        go_simp
        with_reducible rfl
      rotate_left
      · simp only [Act.put, List.setIfInBounds_toArray, List.set_cons_zero, List.set_cons_succ, i64_w, i32_w]
        rfl
      refine one_ (i := 4) (N := some 12) #[true, true, true, true, true, true, true, false, false] rfl rfl (one_of HT_.out (by kernel_rfl)) (by decide) (fun K hK => ?_)
      refine goes_ Tryd.func61 (by kernel_rfl) rfl #[.string a0_0] (by rfl) rfl rfl (by (try simp only [List.map_toArray, List.map_cons, List.map_nil]); first | done | rfl | (simp only [List.length_drop, List.length_take]; rfl)) ?_
      with_reducible refine (spec_pzFit.calls k a0_0 t103 _ A4.out).mono ?_
      rintro e w11 ⟨v104, rfl, ho0, hb⟩
      refine ⟨_, rfl, ?_⟩
      have n0_ := Aside0.mk (Kd.R_lower ho0 (below_size (by repeat (first | (with_reducible first | exact HB.out | apply below_alloc | apply pw_below_drewN | apply below_drew1 | refine below_set ?_ GE101.out) | exact HB.out))))
      have n1_ := Aside0.mk (blk_below (g := gb101) (o := .cells #[.string a0_0, .int .i64 a0_1] 28 (0, 0)) (by (with_reducible repeat (first | refine blk_drewN ?_ _ | refine blk_drew ?_ | refine blk_alloc ?_ _)); exact BK101.out) hb)
      have n2_ := Aside0.mk (below_step (by repeat (first | (with_reducible first | exact HB.out | apply below_alloc | apply pw_below_drewN | apply below_drew1 | refine below_set ?_ GE101.out) | exact HB.out)) hb)
      clear BK101
      clear HB
      have HO105 := n0_
      have BK101 := n1_
      have HB := n2_
      clear n0_ n1_ n2_
      (try clear hb)
      (try clear hb2)
      (try clear hk)
      (try clear hi)
      (try clear ho0)
      obtain ⟨Ao12, co12, eo12⟩ := Kd.R_slice HO105.out
      (first | subst eo12 | (injection eo12 with f1_ f2_ f3_; have f4_ := f1_.symm; have f5_ := f3_.symm; clear f1_ f2_ f3_; subst f4_; subst f5_))
      refine hK.out _ _ ⟨(blk_cell BK101.out 0).trans rfl, (blk_cell BK101.out 1).trans rfl⟩ (fun hHeld => ?_)
      clear hK K
      refine norm_ (a' := ?_) ?_ ?_
      rotate_left
      · show Act.put _ (some 12) _ = _
        simp only [Act.put, List.setIfInBounds_toArray, List.set_cons_zero, List.set_cons_succ, i64_w, i32_w]
        rfl
      refine one_ (i := 7) (N := some 15) #[true, true, true, true, true, true, true, true, false] rfl rfl (one_of HT_.out (by kernel_rfl)) (by decide) (fun K hK => ?_)
      refine goes_ Tryd.func60 (by kernel_rfl) rfl #[.string a0_0, .slice Ao12 t103.length co12, .slice none 0 0, .int .i64 a0_1, .slice none 0 0] (by rfl) rfl rfl (by (try simp only [List.map_toArray, List.map_cons, List.map_nil]); first | done | rfl | (simp only [List.length_drop, List.length_take]; rfl)) ?_
      refine (spec_pzAll.calls k a0_0 _ _ t103 _ _ ([] : List (SRule)) a0_1 _ _ ([] : List (List (SRule))) t106 _ ?side1 ?side2 ?side3 ?side4 ?side5 ?side6 A5.out).mono ?_
      (case side1 => repeat (first | exact (Kd.R_reads' HO105.out).2.2 | (with_reducible refine Kd.C_alloc ?_ _) | (with_reducible refine Kd.C_drewN ?_ _) | (with_reducible refine Kd.C_drew ?_)))
      (case side2 => exact (Kd.R_reads' HO105.out).2.1)
      (case side3 => exact Kd.C_nil _ _)
      (case side4 => exact Nat.le_refl _)
      (case side5 => exact Kd.C_nil _ _)
      (case side6 => exact Nat.le_refl _)
      rintro e w13 ⟨v107, rfl, ho0, hb⟩
      refine ⟨_, rfl, ?_⟩
      have n0_ := Aside0.mk (Kd.R_below (by (with_reducible repeat (first | apply Kd.R_alloc | apply Kd.R_drewN | apply Kd.R_drew)); exact HO105.out) hb)
      have n1_ := Aside0.mk (Kd.S_lower (Kd.S_new' ho0 (Kd.R_lt (by (with_reducible repeat (first | apply Kd.R_alloc | apply Kd.R_drewN | apply Kd.R_drew)); exact HO105.out))) (below_size (by repeat (first | (with_reducible first | exact HB.out | apply below_alloc | apply pw_below_drewN | apply below_drew1 | refine below_set ?_ GE101.out) | exact HB.out))))
      have n2_ := Aside0.mk (blk_below (g := gb101) (o := .cells #[.string a0_0, .int .i64 a0_1] 28 (0, 0)) (by (with_reducible repeat (first | refine blk_drewN ?_ _ | refine blk_drew ?_ | refine blk_alloc ?_ _)); exact BK101.out) hb)
      have n3_ := Aside0.mk (below_step (by repeat (first | (with_reducible first | exact HB.out | apply below_alloc | apply pw_below_drewN | apply below_drew1 | refine below_set ?_ GE101.out) | exact HB.out)) hb)
      clear HO105
      clear BK101
      clear HB
      have HO105 := n0_
      have HO108 := n1_
      have BK101 := n2_
      have HB := n3_
      clear n0_ n1_ n2_ n3_
      (try clear hb)
      (try clear hb2)
      (try clear hk)
      (try clear hi)
      (try clear ho0)
      refine hK.out _ _ ⟨(blk_cell BK101.out 0).trans rfl, (blk_cell BK101.out 1).trans rfl⟩ (fun hHeld => ?_)
      clear hK K
      refine norm_ (a' := ?_) ?_ ?_
      rotate_left
      · show Act.put _ (some 15) _ = _
        simp only [Act.put, List.setIfInBounds_toArray, List.set_cons_zero, List.set_cons_succ, i64_w, i32_w]
        rfl
      refine pure_ (i := 8) (N := some 4) (v := ?_) (a' := ?_) #[true, true, true, true, true, true, true, true, true] rfl rfl (any_of HT_.out (by kernel_rfl)) (fun _ _ _ h => h) (Or.inl ⟨by rfl, ?_⟩) ?_ ?_
      rotate_left
      · intro w'
        go_simp
        with_reducible rfl
      rotate_left
      · simp only [Act.put, List.setIfInBounds_toArray, List.set_cons_zero, List.set_cons_succ, i64_w, i32_w]
        rfl
      refine done_ (done_of HT_.out (by kernel_rfl)) ?_
      obtain ⟨Ao14, co14, eo14⟩ := Kd.S_slice HO108.out
      subst eo14
      try go_wp2
      go_ret2
      exact ⟨_, by first | rfl | (simp [errW_none, errW_some] <;> rfl) | (simp [*, errW_none, errW_some] <;> rfl), by first | exact Kd.S_nil _ _ _ _ _ | exact Kd.N_nil _ _ _ _ _ | exact Kd.V_nil _ _ _ _ _ | exact Kd.Q_nil _ _ _ _ _ | exact Kd.R_nil _ _ _ _ _, by repeat (first | (with_reducible first | exact HB.out | apply below_alloc | apply pw_below_drewN | apply below_drew1 | refine below_set ?_ GE101.out) | exact HB.out)⟩
    · rw [if_neg c6] at H
      have c6b0 : decide (300 < (t106.length : Int)) = false := decide_eq_false c6
      have c6b1 : decide (300 < t106.length) = false := decide_eq_false (by omega)
      clear c6
      simp only [Option.some.injEq, Prod.mk.injEq] at H
      obtain ⟨rfl, rfl⟩ := H
      go_enter Tryd.func37, Tryd.ntmps37
      try go_wp2_with (first | ((with_reducible refine gate_dst (N := 1) rfl ?_); refine box_event ?hg (N := 1) ?hd (cs := #[.string a0_0, .int .i64 a0_1]) (t := 28) ?hr ?_; (case hd => rfl); (case hg => rfl); (case hr => first | (go_simp; done) | (go_simp; rfl)); intro gb101 hg w15 hbox hb; have n0_ := Aside0.mk (below_step (by repeat (first | (with_reducible first | exact HB.out | apply below_alloc | apply pw_below_drewN | apply below_drew1) | exact HB.out)) hb); have n1_ := Aside0.mk (hbox); have n2_ := Aside0.mk ((by rw [hg]; exact (below_size (by repeat (first | (with_reducible first | exact HB.out | apply below_alloc | apply pw_below_drewN | apply below_drew1) | exact HB.out))) : w.heap.size ≤ gb101)); have n3_ := Aside0.mk ((by rw [hg]; exact (below_size (by repeat (first | (with_reducible first | exact HB.out | apply below_alloc | apply pw_below_drewN | apply below_drew1) | exact HB.out))) : w.heap.size ≤ gb101)); clear HB; have HB := n0_; have BK101 := n1_; have GW101 := n2_; have GE101 := n3_; clear n0_ n1_ n2_ n3_; clear hb hbox hg; have hcz16_0 : w15.cell? ⟨gb101, 0, none⟩ = some (.string a0_0) := (blk_cell BK101.out 0).trans rfl; have hcz16_1 : w15.cell? ⟨gb101, 1, none⟩ = some (.int .i64 a0_1) := (blk_cell BK101.out 1).trans rfl; have hfz16_0 := blk_frozen BK101.out 0; have hfz16_1 := blk_frozen BK101.out 1) | ((with_reducible refine gate_callee (f := 48) rfl ?_); refine goesL_ (some 6) rfl rfl Tryd.func48 (by kernel_rfl) rfl #[.agg #[.string a0_0, .int .i64 a0_1]] rfl (by (try simp only [List.map_toArray, List.map_cons, List.map_nil]); first | done | rfl | (simp only [List.length_drop, List.length_take]; rfl)) ?_; (with_reducible refine (spec_pzGood.calls k a0_0 a0_1 true _ A2.out).mono ?_); rintro e w17 ⟨rfl, hb⟩; refine ⟨_, rfl, ?_⟩; have n0_ := Aside0.mk (blk_below (g := gb101) (o := .cells #[.string a0_0, .int .i64 a0_1] 28 (0, 0)) (by (with_reducible repeat (first | refine blk_drewN ?_ _ | refine blk_drew ?_ | refine blk_alloc ?_ _)); exact BK101.out) hb); have n1_ := Aside0.mk (below_step (by repeat (first | (with_reducible first | exact HB.out | apply below_alloc | apply pw_below_drewN | apply below_drew1 | refine below_set ?_ GE101.out) | exact HB.out)) hb); clear BK101; clear HB; have BK101 := n0_; have HB := n1_; clear n0_ n1_; (try clear hb); (try clear hb2); (try clear hk); (try clear hi)))
      have n0_ := Aside0.mk (blk_drew BK101.out)
      have n1_ := Aside0.mk (below_drew1 HB.out)
      clear BK101
      clear HB
      have BK101 := n0_
      have HB := n1_
      clear n0_ n1_
      refine start_ (n := 9) (S := fun w' => w'.cell? ⟨gb101, 0, none⟩ = some (.string a0_0) ∧ w'.cell? ⟨gb101, 1, none⟩ = some (.int .i64 a0_1)) (ds := []) #[false, false, false, false, false, false, false, false, false] (by kernel_rfl) rfl rfl ⟨(blk_cell BK101.out 0).trans rfl, (blk_cell BK101.out 1).trans rfl⟩ (fun hHeld => ?_); refine with_tabW spec_pzAnswers.tab3 spec_pzAnswers.bits3 (fun HT_ HW_ => ?_)
      generalize w17.drew = w18 at BK101 HB hHeld ⊢
      refine pure_ (i := 0) (N := some 8) (v := ?_) (a' := ?_) #[true, false, false, false, false, false, false, false, false] rfl rfl (any_of HT_.out (by kernel_rfl)) (fun _ _ _ h => h) (Or.inl ⟨by rfl, ?_⟩) ?_ ?_
      rotate_left
      · intro w'
        go_simp
        with_reducible rfl
      rotate_left
      · simp only [Act.put, List.setIfInBounds_toArray, List.set_cons_zero, List.set_cons_succ, i64_w, i32_w]
        rfl
      refine pure_ (i := 2) (N := some 10) (v := ?_) (a' := ?_) #[true, false, true, false, false, false, false, false, false] rfl rfl (any_of HT_.out (by kernel_rfl)) (fun _ _ _ h => h) (Or.inl ⟨by rfl, ?_⟩) ?_ ?_
      rotate_left
      · intro w'
        go_simp
        with_reducible rfl
      rotate_left
      · simp only [Act.put, List.setIfInBounds_toArray, List.set_cons_zero, List.set_cons_succ, i64_w, i32_w]
        rfl
      refine pure_ (i := 5) (N := some 13) (v := ?_) (a' := ?_) #[true, false, true, false, false, true, false, false, false] rfl rfl (any_of HT_.out (by kernel_rfl)) (fun _ _ _ h => h) (Or.inl ⟨by rfl, ?_⟩) ?_ ?_
      rotate_left
      · intro w'
        go_simp
        with_reducible rfl
      rotate_left
      · simp only [Act.put, List.setIfInBounds_toArray, List.set_cons_zero, List.set_cons_succ, i64_w, i32_w]
        rfl
      refine take_ (i := 1) (N := some 9) (v := ?_) (a' := ?_) #[true, true, true, false, false, true, false, false, false] rfl rfl (take_ofW HT_.out HW_.out (by kernel_rfl)) (fun _ _ _ h => h) (Or.inl ⟨by rfl, ?_⟩) hHeld ?_ ?_
      rotate_left
      · rintro w' ⟨s0, s1⟩
        go_simp
        with_reducible rfl
      rotate_left
      · simp only [Act.put, List.setIfInBounds_toArray, List.set_cons_zero, List.set_cons_succ, i64_w, i32_w]
        rfl
      refine take_ (i := 3) (N := some 11) (v := ?_) (a' := ?_) #[true, true, true, true, false, true, false, false, false] rfl rfl (take_ofW HT_.out HW_.out (by kernel_rfl)) (fun _ _ _ h => h) (Or.inl ⟨by rfl, ?_⟩) hHeld ?_ ?_
      rotate_left
      · rintro w' ⟨s0, s1⟩
        go_simp
        with_reducible rfl
      rotate_left
      · simp only [Act.put, List.setIfInBounds_toArray, List.set_cons_zero, List.set_cons_succ, i64_w, i32_w]
        rfl
      refine take_ (i := 6) (N := some 14) (v := ?_) (a' := ?_) #[true, true, true, true, false, true, true, false, false] rfl rfl (take_ofW HT_.out HW_.out (by kernel_rfl)) (fun _ _ _ h => h) (Or.inl ⟨by rfl, ?_⟩) hHeld ?_ ?_
      rotate_left
      · rintro w' ⟨s0, s1⟩
        go_simp
        with_reducible rfl
      rotate_left
      · simp only [Act.put, List.setIfInBounds_toArray, List.set_cons_zero, List.set_cons_succ, i64_w, i32_w]
        rfl
      refine one_ (i := 4) (N := some 12) #[true, true, true, true, true, true, true, false, false] rfl rfl (one_of HT_.out (by kernel_rfl)) (by decide) (fun K hK => ?_)
      refine goes_ Tryd.func61 (by kernel_rfl) rfl #[.string a0_0] (by rfl) rfl rfl (by (try simp only [List.map_toArray, List.map_cons, List.map_nil]); first | done | rfl | (simp only [List.length_drop, List.length_take]; rfl)) ?_
      with_reducible refine (spec_pzFit.calls k a0_0 t103 _ A4.out).mono ?_
      rintro e w19 ⟨v104, rfl, ho0, hb⟩
      refine ⟨_, rfl, ?_⟩
      have n0_ := Aside0.mk (Kd.R_lower ho0 (below_size (by repeat (first | (with_reducible first | exact HB.out | apply below_alloc | apply pw_below_drewN | apply below_drew1 | refine below_set ?_ GE101.out) | exact HB.out))))
      have n1_ := Aside0.mk (blk_below (g := gb101) (o := .cells #[.string a0_0, .int .i64 a0_1] 28 (0, 0)) (by (with_reducible repeat (first | refine blk_drewN ?_ _ | refine blk_drew ?_ | refine blk_alloc ?_ _)); exact BK101.out) hb)
      have n2_ := Aside0.mk (below_step (by repeat (first | (with_reducible first | exact HB.out | apply below_alloc | apply pw_below_drewN | apply below_drew1 | refine below_set ?_ GE101.out) | exact HB.out)) hb)
      clear BK101
      clear HB
      have HO105 := n0_
      have BK101 := n1_
      have HB := n2_
      clear n0_ n1_ n2_
      (try clear hb)
      (try clear hb2)
      (try clear hk)
      (try clear hi)
      (try clear ho0)
      obtain ⟨Ao20, co20, eo20⟩ := Kd.R_slice HO105.out
      (first | subst eo20 | (injection eo20 with f1_ f2_ f3_; have f4_ := f1_.symm; have f5_ := f3_.symm; clear f1_ f2_ f3_; subst f4_; subst f5_))
      refine hK.out _ _ ⟨(blk_cell BK101.out 0).trans rfl, (blk_cell BK101.out 1).trans rfl⟩ (fun hHeld => ?_)
      clear hK K
      refine norm_ (a' := ?_) ?_ ?_
      rotate_left
      · show Act.put _ (some 12) _ = _
        simp only [Act.put, List.setIfInBounds_toArray, List.set_cons_zero, List.set_cons_succ, i64_w, i32_w]
        rfl
      refine one_ (i := 7) (N := some 15) #[true, true, true, true, true, true, true, true, false] rfl rfl (one_of HT_.out (by kernel_rfl)) (by decide) (fun K hK => ?_)
      refine goes_ Tryd.func60 (by kernel_rfl) rfl #[.string a0_0, .slice Ao20 t103.length co20, .slice none 0 0, .int .i64 a0_1, .slice none 0 0] (by rfl) rfl rfl (by (try simp only [List.map_toArray, List.map_cons, List.map_nil]); first | done | rfl | (simp only [List.length_drop, List.length_take]; rfl)) ?_
      refine (spec_pzAll.calls k a0_0 _ _ t103 _ _ ([] : List (SRule)) a0_1 _ _ ([] : List (List (SRule))) t106 _ ?side1 ?side2 ?side3 ?side4 ?side5 ?side6 A5.out).mono ?_
      (case side1 => repeat (first | exact (Kd.R_reads' HO105.out).2.2 | (with_reducible refine Kd.C_alloc ?_ _) | (with_reducible refine Kd.C_drewN ?_ _) | (with_reducible refine Kd.C_drew ?_)))
      (case side2 => exact (Kd.R_reads' HO105.out).2.1)
      (case side3 => exact Kd.C_nil _ _)
      (case side4 => exact Nat.le_refl _)
      (case side5 => exact Kd.C_nil _ _)
      (case side6 => exact Nat.le_refl _)
      rintro e w21 ⟨v107, rfl, ho0, hb⟩
      refine ⟨_, rfl, ?_⟩
      have n0_ := Aside0.mk (Kd.R_below (by (with_reducible repeat (first | apply Kd.R_alloc | apply Kd.R_drewN | apply Kd.R_drew)); exact HO105.out) hb)
      have n1_ := Aside0.mk (Kd.S_lower (Kd.S_new' ho0 (Kd.R_lt (by (with_reducible repeat (first | apply Kd.R_alloc | apply Kd.R_drewN | apply Kd.R_drew)); exact HO105.out))) (below_size (by repeat (first | (with_reducible first | exact HB.out | apply below_alloc | apply pw_below_drewN | apply below_drew1 | refine below_set ?_ GE101.out) | exact HB.out))))
      have n2_ := Aside0.mk (blk_below (g := gb101) (o := .cells #[.string a0_0, .int .i64 a0_1] 28 (0, 0)) (by (with_reducible repeat (first | refine blk_drewN ?_ _ | refine blk_drew ?_ | refine blk_alloc ?_ _)); exact BK101.out) hb)
      have n3_ := Aside0.mk (below_step (by repeat (first | (with_reducible first | exact HB.out | apply below_alloc | apply pw_below_drewN | apply below_drew1 | refine below_set ?_ GE101.out) | exact HB.out)) hb)
      clear HO105
      clear BK101
      clear HB
      have HO105 := n0_
      have HO108 := n1_
      have BK101 := n2_
      have HB := n3_
      clear n0_ n1_ n2_ n3_
      (try clear hb)
      (try clear hb2)
      (try clear hk)
      (try clear hi)
      (try clear ho0)
      refine hK.out _ _ ⟨(blk_cell BK101.out 0).trans rfl, (blk_cell BK101.out 1).trans rfl⟩ (fun hHeld => ?_)
      clear hK K
      refine norm_ (a' := ?_) ?_ ?_
      rotate_left
      · show Act.put _ (some 15) _ = _
        simp only [Act.put, List.setIfInBounds_toArray, List.set_cons_zero, List.set_cons_succ, i64_w, i32_w]
        rfl
      refine pure_ (i := 8) (N := some 4) (v := ?_) (a' := ?_) #[true, true, true, true, true, true, true, true, true] rfl rfl (any_of HT_.out (by kernel_rfl)) (fun _ _ _ h => h) (Or.inl ⟨by rfl, ?_⟩) ?_ ?_
      rotate_left
      · intro w'
        go_simp
        with_reducible rfl
      rotate_left
      · simp only [Act.put, List.setIfInBounds_toArray, List.set_cons_zero, List.set_cons_succ, i64_w, i32_w]
        rfl
      refine done_ (done_of HT_.out (by kernel_rfl)) ?_
      obtain ⟨Ao22, co22, eo22⟩ := Kd.S_slice HO108.out
      subst eo22
      try go_wp2
      go_ret2
      exact ⟨_, by first | rfl | (simp [errW_none, errW_some] <;> rfl) | (simp [*, errW_none, errW_some] <;> rfl), by (with_reducible repeat (first | apply Kd.S_alloc | apply Kd.S_drewN | apply Kd.S_drew)); exact Kd.S_mono HO108.out (fun _ hk => trivial), by repeat (first | (with_reducible first | exact HB.out | apply below_alloc | apply pw_below_drewN | apply below_drew1 | refine below_set ?_ GE101.out) | exact HB.out)⟩
  · replace c3 := Bool.eq_false_iff.mpr c3
    subst c3
    have H1 : (some (([] : List (List (SRule))), false)) = some (r1, r2) := by rw [if_neg (show ¬ (false = true) by decide)] at H; exact H
    clear H
    have H := H1
    clear H1
    simp only [Option.some.injEq, Prod.mk.injEq] at H
    obtain ⟨rfl, rfl⟩ := H
    go_enter Tryd.func37, Tryd.ntmps37
    go_wp2_with (first | ((with_reducible refine gate_dst (N := 1) rfl ?_); refine box_event ?hg (N := 1) ?hd (cs := #[.string a0_0, .int .i64 a0_1]) (t := 28) ?hr ?_; (case hd => rfl); (case hg => rfl); (case hr => first | (go_simp; done) | (go_simp; rfl)); intro gb101 hg w23 hbox hb; have n0_ := Aside0.mk (below_step (by repeat (first | (with_reducible first | exact HB.out | apply below_alloc | apply pw_below_drewN | apply below_drew1) | exact HB.out)) hb); have n1_ := Aside0.mk (hbox); have n2_ := Aside0.mk ((by rw [hg]; exact (below_size (by repeat (first | (with_reducible first | exact HB.out | apply below_alloc | apply pw_below_drewN | apply below_drew1) | exact HB.out))) : w.heap.size ≤ gb101)); have n3_ := Aside0.mk ((by rw [hg]; exact (below_size (by repeat (first | (with_reducible first | exact HB.out | apply below_alloc | apply pw_below_drewN | apply below_drew1) | exact HB.out))) : w.heap.size ≤ gb101)); clear HB; have HB := n0_; have BK101 := n1_; have GW101 := n2_; have GE101 := n3_; clear n0_ n1_ n2_ n3_; clear hb hbox hg; have hcz24_0 : w23.cell? ⟨gb101, 0, none⟩ = some (.string a0_0) := (blk_cell BK101.out 0).trans rfl; have hcz24_1 : w23.cell? ⟨gb101, 1, none⟩ = some (.int .i64 a0_1) := (blk_cell BK101.out 1).trans rfl; have hfz24_0 := blk_frozen BK101.out 0; have hfz24_1 := blk_frozen BK101.out 1) | ((with_reducible refine gate_callee (f := 48) rfl ?_); refine goesL_ (some 6) rfl rfl Tryd.func48 (by kernel_rfl) rfl #[.agg #[.string a0_0, .int .i64 a0_1]] rfl (by (try simp only [List.map_toArray, List.map_cons, List.map_nil]); first | done | rfl | (simp only [List.length_drop, List.length_take]; rfl)) ?_; (with_reducible refine (spec_pzGood.calls k a0_0 a0_1 false _ A2.out).mono ?_); rintro e w25 ⟨rfl, hb⟩; refine ⟨_, rfl, ?_⟩; have n0_ := Aside0.mk (blk_below (g := gb101) (o := .cells #[.string a0_0, .int .i64 a0_1] 28 (0, 0)) (by (with_reducible repeat (first | refine blk_drewN ?_ _ | refine blk_drew ?_ | refine blk_alloc ?_ _)); exact BK101.out) hb); have n1_ := Aside0.mk (below_step (by repeat (first | (with_reducible first | exact HB.out | apply below_alloc | apply pw_below_drewN | apply below_drew1 | refine below_set ?_ GE101.out) | exact HB.out)) hb); clear BK101; clear HB; have BK101 := n0_; have HB := n1_; clear n0_ n1_; (try clear hb); (try clear hb2); (try clear hk); (try clear hi)))
    go_ret2
    exact ⟨_, by first | rfl | (simp [errW_none, errW_some] <;> rfl) | (simp [*, errW_none, errW_some] <;> rfl), by first | exact Kd.S_nil _ _ _ _ _ | exact Kd.N_nil _ _ _ _ _ | exact Kd.V_nil _ _ _ _ _ | exact Kd.Q_nil _ _ _ _ _ | exact Kd.R_nil _ _ _ _ _, by repeat (first | (with_reducible first | exact HB.out | apply below_alloc | apply pw_below_drewN | apply below_drew1 | refine below_set ?_ GE101.out) | exact HB.out)⟩
end Go.Proofs.YtkloiiojigofpaaDoor.P
namespace Go.Proofs.YtkloiiojigofpaaDoor.P
open Go.RowKit Go.Proofs.YtkloiiojigofpaaDoorW.PrintWords Go.Proofs.YtkloiiojigofpaaDoorW.PrintLast Go.Proofs.YtkloiiojigofpaaDoorW.PrintMore
attribute [local go_sem] max2_int min2_int max_two min_two max_three min_three max_four min_four
set_option linter.unusedVariables false
set_option linter.unusedSimpArgs false
theorem eqA54 (d : Nat) (w : World) (x0 y0 : Int) (x1 y1 : Int) :
    (Op.equalIn (d + 2) 54 (.agg #[.int .i64 x0, .int .i64 x1]) (.agg #[.int .i64 y0, .int .i64 y1])).run Tryd.prog w = .ok (x0 == y0 && (x1 == y1)) w := by
  refine eqA_of Tryd.underlying54 (by kernel_rfl) ?_
  refine eqf_cons (by rfl) (by go_simp; rfl) (by go_simp; rfl) (by go_simp) ?_
  exact eqf_last (by rfl) (by go_simp; rfl) (by go_simp; rfl) (by go_simp)
end Go.Proofs.YtkloiiojigofpaaDoor.P
namespace Go.Proofs.YtkloiiojigofpaaDoor.P
open Go.RowKit Go.Proofs.YtkloiiojigofpaaDoorW.PrintWords Go.Proofs.YtkloiiojigofpaaDoorW.PrintLast Go.Proofs.YtkloiiojigofpaaDoorW.PrintMore
attribute [local go_sem] max2_int min2_int max_two min_two max_three min_three max_four min_four
set_option linter.unusedVariables false
set_option linter.unusedSimpArgs false
attribute [local go_sem high] eqA54
def spec_pzHas.l0 : Nat → List (SRule) → Int → Int → Int → Int → Option (Bool)
  | 0, _, _, _, _, _ => none
  | k + 1, x7, x8, x9, x102000, x102001 => if x9 < x8 then (if 0 ≤ x9 then (if x9 < (x7.length : Int) then (if (((rd_Rule x7 x9).f0) == x102000 && (((rd_Rule x7 x9).f1) == x102001)) = true then (some true) else (spec_pzHas.l0 k x7 x8 (wrap64 (x9 + 1)) x102000 x102001)) else (none)) else (none)) else (some false)
def spec_pzHas.f (k : Nat) (l0 : List (SRule)) (a1_0 : Int) (a1_1 : Int) : Option (Bool) := spec_pzHas.l0 k l0 (l0.length : Int) 0 a1_0 a1_1
set_option maxHeartbeats 8000000 in
set_option maxRecDepth 100000 in
theorem spec_pzHas.calls (k : Nat) (A0 : Option Addr) (c0 : Nat) (l0 : List (SRule)) (a1_0 : Int) (a1_1 : Int) (r : Bool) (w : World) (hr0 : Kd.C kRule w A0 l0.length l0) (hc0 : l0.length ≤ c0) (h : spec_pzHas.f k l0 a1_0 a1_1 = some r) :
    Calls Tryd.prog 39 #[.slice A0 l0.length c0, .agg #[.int .i64 a1_0, .int .i64 a1_1]] w fun e w' => e = .returned (.bool r) ∧ Below w.heap.size w w' := by
  have hu54 := Tryd.underlying54
  have HR0 := Aside0.mk hr0
  have HC0 := Aside0.mk hc0
  clear hr0 hc0
  have HB := Aside0.mk (Below.refl w.heap.size w)
  have H : (spec_pzHas.l0 k l0 (l0.length : Int) 0 a1_0 a1_1) = some r := h
  clear h
  have H' := Aside0.mk H
  clear H
  go_enter Tryd.func39, Tryd.ntmps39
  go_wp2_with (first | ((with_reducible refine gate_dst (N := 3) rfl ?_); refine box_event ?hg (N := 3) ?hd (cs := #[.int .i64 a1_0, .int .i64 a1_1]) (t := 54) ?hr ?_; (case hd => rfl); (case hg => rfl); (case hr => first | (go_simp; done) | (go_simp; rfl)); intro gb101 hg w3 hbox hb; have n0_ := Aside0.mk (below_step (by repeat (first | (with_reducible first | exact HB.out | apply below_alloc | apply pw_below_drewN | apply below_drew1) | exact HB.out)) hb); have n1_ := Aside0.mk (hbox); have n2_ := Aside0.mk ((by rw [hg]; exact (below_size (by repeat (first | (with_reducible first | exact HB.out | apply below_alloc | apply pw_below_drewN | apply below_drew1) | exact HB.out))) : w.heap.size ≤ gb101)); have n3_ := Aside0.mk ((by rw [hg]; exact (below_size (by repeat (first | (with_reducible first | exact HB.out | apply below_alloc | apply pw_below_drewN | apply below_drew1) | exact HB.out))) : w.heap.size ≤ gb101)); clear HB; have HB := n0_; have BK101 := n1_; have GW101 := n2_; have GE101 := n3_; clear n0_ n1_ n2_ n3_; clear hb hbox hg))
  go_loopg [9] k (fun kq v9 w' => ∃ (x9_1 : Int), v9 = .int .i64 x9_1 ∧ Aside0 (spec_pzHas.l0 kq l0 (l0.length : Int) x9_1 a1_0 a1_1 = some r) ∧ Aside0 (kq ≤ k) ∧ Aside0 (w'.heap[gb101]? = some (.cells #[.int .i64 a1_0, .int .i64 a1_1] 54 (0, 0))) ∧ Aside0 (Below w.heap.size w w'))
  case atStart => exact ⟨(0), (by first | rfl | (simp; done) | (simp [*]; done)), H', ⟨Nat.le_refl _⟩, ⟨by (with_reducible repeat (first | refine blk_drewN ?_ _ | refine blk_drew ?_ | refine blk_alloc ?_ _)); exact BK101.out⟩, ⟨by repeat (first | (with_reducible first | exact HB.out | apply below_alloc | apply pw_below_drewN | apply below_drew1 | refine below_set ?_ GE101.out) | exact HB.out)⟩⟩
  case round =>
    clear H'
    try clear p2
    try clear c3
    obtain ⟨x9_1, rfl, HA, HK1, BK101, HB⟩ := hrel
    cases gk with
    | zero => exact absurd HA.out (by simp [spec_pzHas.l0])
    | succ k1 =>
      have H := HA.out
      clear HA
      simp only [spec_pzHas.l0] at H
      by_cases c4 : x9_1 < (l0.length : Int)
      · rw [if_pos c4] at H
        have c4b0 : decide (x9_1 < (l0.length : Int)) = true := decide_eq_true c4
        clear c4
        by_cases c5 : 0 ≤ x9_1
        · rw [if_pos c5] at H
          have c5b0 : decide (0 ≤ x9_1) = true := decide_eq_true c5
          clear c5
          by_cases c6 : x9_1 < (l0.length : Int)
          · rw [if_pos c6] at H
            have c6b0 : decide (x9_1 < (l0.length : Int)) = true := decide_eq_true c6
            clear c6
            by_cases c7 : (((rd_Rule l0 x9_1).f0) == a1_0 && (((rd_Rule l0 x9_1).f1) == a1_1)) = true
            · rw [if_pos c7] at H
              have c7b0 : (((rd_Rule l0 x9_1).f0) == a1_0 && (((rd_Rule l0 x9_1).f1) == a1_1)) = true := c7
              (try (have c7b1 : decide (((rd_Rule l0 x9_1).f0) = a1_0 && (((rd_Rule l0 x9_1).f1) == a1_1)) = true := by simpa using c7))
              (try (have c7b2 : (((rd_Rule l0 x9_1).f0) == a1_0 && (((rd_Rule l0 x9_1).f1) == a1_1)) = true := by simpa using c7))
              clear c7
              obtain rfl := Option.some.inj H
              have p102 : 0 ≤ (x9_1 : Int) := of_decide_eq_true (by first | (with_reducible assumption) | assumption)
              have q102 : x9_1 < (l0.length : Int) := of_decide_eq_true (by first | (with_reducible assumption) | assumption)
              obtain ⟨ad102, e102, hx102_0, hx102_1⟩ := at_Rule HR0.out x9_1 p102 q102
              cases e102
              replace hx102_0 := (HB.out.cell (World.block_lt_of_cell? w _ hx102_0)).trans hx102_0
              replace hx102_1 := (HB.out.cell (World.block_lt_of_cell? w _ hx102_1)).trans hx102_1
              replace p102 := eq_true p102
              replace q102 := eq_true q102
              go_wp2_with (first | ((with_reducible refine gate_dst (N := 6) rfl ?_); refine box_event ?hg (N := 6) ?hd (cs := #[.int .i64 0, .int .i64 0]) (t := 54) ?hr ?_; (case hd => rfl); (case hg => rfl); (case hr => first | (go_simp; done) | (go_simp; rfl)); intro gb103 hg w8 hbox hb; have n0_ := Aside0.mk (blk_below (g := gb101) (o := .cells #[.int .i64 a1_0, .int .i64 a1_1] 54 (0, 0)) (by (with_reducible repeat (first | refine blk_drewN ?_ _ | refine blk_drew ?_ | refine blk_alloc ?_ _)); exact BK101.out) hb); have n1_ := Aside0.mk (below_step (by repeat (first | (with_reducible first | exact HB.out | apply below_alloc | apply pw_below_drewN | apply below_drew1 | refine below_set ?_ GE101.out) | exact HB.out)) hb); have n2_ := Aside0.mk (hbox); have n3_ := Aside0.mk ((by rw [hg]; exact (below_size (by repeat (first | (with_reducible first | exact HB.out | apply below_alloc | apply pw_below_drewN | apply below_drew1 | refine below_set ?_ GE101.out) | exact HB.out))) : w.heap.size ≤ gb103)); have n4_ := Aside0.mk ((by rw [hg]; exact (below_size (by repeat (first | (with_reducible first | exact HB.out | apply below_alloc | apply pw_below_drewN | apply below_drew1 | refine below_set ?_ GE101.out) | exact HB.out))) : w.heap.size ≤ gb103)); have n5_ := Aside0.mk ((by rw [hg]; exact Nat.ne_of_lt (blk_lt (g := gb101) (o := .cells #[.int .i64 a1_0, .int .i64 a1_1] 54 (0, 0)) (by (with_reducible repeat (first | refine blk_drewN ?_ _ | refine blk_drew ?_ | refine blk_alloc ?_ _)); exact BK101.out)) : gb101 ≠ gb103)); have n6_ := Aside0.mk ((by rw [hg]; exact Nat.ne_of_gt (blk_lt (g := gb101) (o := .cells #[.int .i64 a1_0, .int .i64 a1_1] 54 (0, 0)) (by (with_reducible repeat (first | refine blk_drewN ?_ _ | refine blk_drew ?_ | refine blk_alloc ?_ _)); exact BK101.out)) : gb103 ≠ gb101)); clear BK101; clear HB; have BK101 := n0_; have HB := n1_; have BK103 := n2_; have GW103 := n3_; have GE103 := n4_; have NB101_103 := n5_; have NB103_101 := n6_; clear n0_ n1_ n2_ n3_ n4_ n5_ n6_; clear hb hbox hg; have hnb9 := NB103_101.out; have hnc9 := NB101_103.out; have hcz10_0 : w8.cell? ⟨gb103, 0, none⟩ = some (.int .i64 0) := (blk_cell BK103.out 0).trans rfl; have hcz10_1 : w8.cell? ⟨gb103, 1, none⟩ = some (.int .i64 0) := (blk_cell BK103.out 1).trans rfl; have hfz10_0 := blk_frozen BK103.out 0; have hfz10_1 := blk_frozen BK103.out 1; have hcz11_0 : w8.cell? ⟨gb101, 0, none⟩ = some (.int .i64 a1_0) := (blk_cell BK101.out 0).trans rfl; have hcz11_1 : w8.cell? ⟨gb101, 1, none⟩ = some (.int .i64 a1_1) := (blk_cell BK101.out 1).trans rfl; have hfz11_0 := blk_frozen BK101.out 0; have hfz11_1 := blk_frozen BK101.out 1))
              go_ret
              exact ⟨by first | rfl | (simp [errW_none, errW_some] <;> rfl) | (simp [*, errW_none, errW_some] <;> rfl), by repeat (first | (with_reducible first | exact HB.out | apply below_alloc | apply pw_below_drewN | apply below_drew1 | refine below_set ?_ GE101.out | refine below_set ?_ GE103.out) | exact HB.out)⟩
            · rw [if_neg c7] at H
              have c7b0 : (((rd_Rule l0 x9_1).f0) == a1_0 && (((rd_Rule l0 x9_1).f1) == a1_1)) = false := by simpa using c7
              (try (have c7b1 : decide (((rd_Rule l0 x9_1).f0) = a1_0 && (((rd_Rule l0 x9_1).f1) == a1_1)) = false := by simpa using c7))
              (try (have c7b2 : (((rd_Rule l0 x9_1).f0) == a1_0 && (((rd_Rule l0 x9_1).f1) == a1_1)) = false := by simpa using c7))
              (try (have c7b3 : ¬ (((rd_Rule l0 x9_1).f0) = a1_0 && (((rd_Rule l0 x9_1).f1) == a1_1)) := by simpa using c7))
              clear c7
              have H' := Aside0.mk H
              clear H
              have p102 : 0 ≤ (x9_1 : Int) := of_decide_eq_true (by first | (with_reducible assumption) | assumption)
              have q102 : x9_1 < (l0.length : Int) := of_decide_eq_true (by first | (with_reducible assumption) | assumption)
              obtain ⟨ad102, e102, hx102_0, hx102_1⟩ := at_Rule HR0.out x9_1 p102 q102
              cases e102
              replace hx102_0 := (HB.out.cell (World.block_lt_of_cell? w _ hx102_0)).trans hx102_0
              replace hx102_1 := (HB.out.cell (World.block_lt_of_cell? w _ hx102_1)).trans hx102_1
              replace p102 := eq_true p102
              replace q102 := eq_true q102
              go_wp2_with (first | ((with_reducible refine gate_dst (N := 6) rfl ?_); refine box_event ?hg (N := 6) ?hd (cs := #[.int .i64 0, .int .i64 0]) (t := 54) ?hr ?_; (case hd => rfl); (case hg => rfl); (case hr => first | (go_simp; done) | (go_simp; rfl)); intro gb103 hg w12 hbox hb; have n0_ := Aside0.mk (blk_below (g := gb101) (o := .cells #[.int .i64 a1_0, .int .i64 a1_1] 54 (0, 0)) (by (with_reducible repeat (first | refine blk_drewN ?_ _ | refine blk_drew ?_ | refine blk_alloc ?_ _)); exact BK101.out) hb); have n1_ := Aside0.mk (below_step (by repeat (first | (with_reducible first | exact HB.out | apply below_alloc | apply pw_below_drewN | apply below_drew1 | refine below_set ?_ GE101.out) | exact HB.out)) hb); have n2_ := Aside0.mk (hbox); have n3_ := Aside0.mk ((by rw [hg]; exact (below_size (by repeat (first | (with_reducible first | exact HB.out | apply below_alloc | apply pw_below_drewN | apply below_drew1 | refine below_set ?_ GE101.out) | exact HB.out))) : w.heap.size ≤ gb103)); have n4_ := Aside0.mk ((by rw [hg]; exact (below_size (by repeat (first | (with_reducible first | exact HB.out | apply below_alloc | apply pw_below_drewN | apply below_drew1 | refine below_set ?_ GE101.out) | exact HB.out))) : w.heap.size ≤ gb103)); have n5_ := Aside0.mk ((by rw [hg]; exact Nat.ne_of_lt (blk_lt (g := gb101) (o := .cells #[.int .i64 a1_0, .int .i64 a1_1] 54 (0, 0)) (by (with_reducible repeat (first | refine blk_drewN ?_ _ | refine blk_drew ?_ | refine blk_alloc ?_ _)); exact BK101.out)) : gb101 ≠ gb103)); have n6_ := Aside0.mk ((by rw [hg]; exact Nat.ne_of_gt (blk_lt (g := gb101) (o := .cells #[.int .i64 a1_0, .int .i64 a1_1] 54 (0, 0)) (by (with_reducible repeat (first | refine blk_drewN ?_ _ | refine blk_drew ?_ | refine blk_alloc ?_ _)); exact BK101.out)) : gb103 ≠ gb101)); clear BK101; clear HB; have BK101 := n0_; have HB := n1_; have BK103 := n2_; have GW103 := n3_; have GE103 := n4_; have NB101_103 := n5_; have NB103_101 := n6_; clear n0_ n1_ n2_ n3_ n4_ n5_ n6_; clear hb hbox hg; have hnb13 := NB103_101.out; have hnc13 := NB101_103.out; have hcz14_0 : w12.cell? ⟨gb103, 0, none⟩ = some (.int .i64 0) := (blk_cell BK103.out 0).trans rfl; have hcz14_1 : w12.cell? ⟨gb103, 1, none⟩ = some (.int .i64 0) := (blk_cell BK103.out 1).trans rfl; have hfz14_0 := blk_frozen BK103.out 0; have hfz14_1 := blk_frozen BK103.out 1; have hcz15_0 : w12.cell? ⟨gb101, 0, none⟩ = some (.int .i64 a1_0) := (blk_cell BK101.out 0).trans rfl; have hcz15_1 : w12.cell? ⟨gb101, 1, none⟩ = some (.int .i64 a1_1) := (blk_cell BK101.out 1).trans rfl; have hfz15_0 := blk_frozen BK101.out 0; have hfz15_1 := blk_frozen BK101.out 1))
              go_roundg k1
              case measure => have := HK1.out; omega
              case rel => exact ⟨(wrap64 (x9_1 + 1)), (by first | rfl | (simp; done) | (simp [*]; done)), H', ⟨by have := HK1.out; omega⟩, ⟨by (with_reducible repeat (first | refine blk_drewN ?_ _ | refine blk_drew ?_ | refine blk_alloc ?_ _)); refine blk_far ?_ NB101_103.out _; (with_reducible repeat (first | refine blk_drewN ?_ _ | refine blk_drew ?_ | refine blk_alloc ?_ _)); refine blk_far ?_ NB101_103.out _; (with_reducible repeat (first | refine blk_drewN ?_ _ | refine blk_drew ?_ | refine blk_alloc ?_ _)); exact BK101.out⟩, ⟨by repeat (first | (with_reducible first | exact HB.out | apply below_alloc | apply pw_below_drewN | apply below_drew1 | refine below_set ?_ GE101.out | refine below_set ?_ GE103.out) | exact HB.out)⟩⟩
          · rw [if_neg c6] at H
            exact absurd H (by simp)
        · rw [if_neg c5] at H
          exact absurd H (by simp)
      · rw [if_neg c4] at H
        have c4b0 : decide (x9_1 < (l0.length : Int)) = false := decide_eq_false c4
        clear c4
        obtain rfl := Option.some.inj H
        go_wp2
        go_ret
        exact ⟨by first | rfl | (simp [errW_none, errW_some] <;> rfl) | (simp [*, errW_none, errW_some] <;> rfl), by repeat (first | (with_reducible first | exact HB.out | apply below_alloc | apply pw_below_drewN | apply below_drew1 | refine below_set ?_ GE101.out) | exact HB.out)⟩
end Go.Proofs.YtkloiiojigofpaaDoor.P
namespace Go.Proofs.YtkloiiojigofpaaDoor.P
open Go.RowKit Go.Proofs.YtkloiiojigofpaaDoorW.PrintWords Go.Proofs.YtkloiiojigofpaaDoorW.PrintLast Go.Proofs.YtkloiiojigofpaaDoorW.PrintMore
attribute [local go_sem] max2_int min2_int max_two min_two max_three min_three max_four min_four
set_option linter.unusedVariables false
set_option linter.unusedSimpArgs false
def sureHas (k : Nat) (x : SRule) (a : List SRule) : Bool := spec_pzHas.f k a x.f0 x.f1 == some true
def spec_SureRules.f (k : Nat) (a0_0 : ByteArray) (a0_1 : Int) : Option (List SRule × Bool) := (spec_pzAnswers.f k a0_0 a0_1).bind fun b => if b.2 = true then (if b.1.length = 0 then some ([], false) else (if (rd_Rules b.1 0).length < 8796093022207 ∧ ((rd_Rules b.1 0).all fun x => b.1.all fun a => (spec_pzHas.f k a x.f0 x.f1).isSome) = true then some ((rd_Rules b.1 0).filter (fun x => b.1.all (sureHas k x)), true) else none)) else some ([], false)
theorem sure_take (l : List SRule) (p : SRule → Bool) (j : Nat) (h : j < l.length) : (l.take (j + 1)).filter p = (l.take j).filter p ++ (if p (rd_Rule l (j : Int)) = true then [rd_Rule l (j : Int)] else []) := by
  rw [List.take_succ_eq_append_getElem h, List.filter_append]
  congr 1
  have e_ : rd_Rule l (j : Int) = l[j] := by simp [rd_Rule, List.getD, h]
  rw [e_]
  by_cases c : p l[j] = true
  · rw [if_pos c, List.filter_cons, if_pos c, List.filter_nil]
  · rw [if_neg c, List.filter_cons, if_neg c, List.filter_nil]
theorem sure_all (L : List (List SRule)) (p : List SRule → Bool) (j : Nat) (h : j < L.length) : (L.take (j + 1)).all p = ((L.take j).all p && p (rd_Rules L (j : Int))) := by
  rw [List.take_succ_eq_append_getElem h, List.all_append, show rd_Rules L (j : Int) = L[j] by simp [rd_Rules, List.getD, h]]
  simp
set_option maxHeartbeats 8000000 in
set_option maxRecDepth 100000 in
theorem spec_SureRules.calls (k : Nat) (a0_0 : ByteArray) (a0_1 : Int) (r1 : List SRule) (r2 : Bool) (w : World) (h : spec_SureRules.f k a0_0 a0_1 = some (r1, r2)) :
    Calls Tryd.prog 14 #[.agg #[.string a0_0, .int .i64 a0_1]] w fun e w' => ∃ v0_ : Value, e = .returned (.tuple #[v0_, .bool r2]) ∧ Kd.R kRule 54 w' w.heap.size (fun _ => True) v0_ r1 ∧ Below w.heap.size w w' := by
  have hu := Tryd.underlying28
  have hu2 := Tryd.underlying54
  unfold spec_SureRules.f at h
  replace h := Option.bind_eq_some_iff.mp h
  obtain ⟨⟨L, t⟩, A0_, h⟩ := h
  have A1 := Aside0.mk A0_
  clear A0_
  replace h : (if t = true then (if L.length = 0 then some ([], false) else (if (rd_Rules L 0).length < 8796093022207 ∧ ((rd_Rules L 0).all fun x => L.all fun a => (spec_pzHas.f k a x.f0 x.f1).isSome) = true then some ((rd_Rules L 0).filter (fun x => L.all (sureHas k x)), true) else none)) else some ([], false)) = some (r1, r2) := h
  cases t with
  | false =>
    rw [if_neg (by decide)] at h
    simp only [Option.some.injEq, Prod.mk.injEq] at h
    obtain ⟨rfl, rfl⟩ := h
    go_enter Tryd.func14, Tryd.ntmps14
    go_wp2_with (first | ((with_reducible refine gate_dst (N := 1) rfl ?_); (try (refine gate_guard (by rfl) ?_; dsimp only)); refine box_event ?hg (N := 1) ?hd (cs := #[.string a0_0, .int .i64 a0_1]) (t := 28) ?hr ?_; (case hd => rfl); (case hg => rfl); (case hr => first | (go_simp; done) | (go_simp; rfl)); intro gP hg w1 hbox hb; have BP1 := Aside0.mk hbox; have HB1 := Aside0.mk hb; have hcp0 : w1.cell? ⟨gP, 0, none⟩ = some (.string a0_0) := (blk_cell hbox 0).trans rfl; have hcp1 : w1.cell? ⟨gP, 1, none⟩ = some (.int .i64 a0_1) := (blk_cell hbox 1).trans rfl; clear hbox hb hg) | ((with_reducible refine gate_callee (f := 37) rfl ?_); refine goesL_ (some 14) rfl rfl Tryd.func37 (by kernel_rfl) rfl #[.agg #[.string a0_0, .int .i64 a0_1]] rfl (by (try simp only [List.map_toArray, List.map_cons, List.map_nil]); first | done | rfl) ?_; (with_reducible refine (spec_pzAnswers.calls k a0_0 a0_1 L false _ A1.out).mono ?_); rintro e wA ⟨v8, rfl, ho, hb⟩; refine ⟨_, rfl, ?_⟩; have HBA := Aside0.mk (below_step HB1.out hb); obtain ⟨AL, cL, eL⟩ := Kd.S_slice ho; subst eL; have HSA := Aside0.mk ho; clear ho hb hcp0 hcp1 BP1 HB1))
    go_ret2
    exact ⟨_, rfl, Kd.R_nil _ _ _ _ _, HBA.out⟩
  | true =>
    rw [if_pos rfl] at h
    by_cases c1_ : L.length = 0
    · rw [if_pos c1_] at h
      simp only [Option.some.injEq, Prod.mk.injEq] at h
      obtain ⟨rfl, rfl⟩ := h
      have c1b : ((L.length : Int) == 0) = true := beq_iff_eq.2 (by omega)
      clear c1_
      go_enter Tryd.func14, Tryd.ntmps14
      go_wp2_with (first | ((with_reducible refine gate_dst (N := 1) rfl ?_); (try (refine gate_guard (by rfl) ?_; dsimp only)); refine box_event ?hg (N := 1) ?hd (cs := #[.string a0_0, .int .i64 a0_1]) (t := 28) ?hr ?_; (case hd => rfl); (case hg => rfl); (case hr => first | (go_simp; done) | (go_simp; rfl)); intro gP hg w1 hbox hb; have BP1 := Aside0.mk hbox; have HB1 := Aside0.mk hb; have hcp0 : w1.cell? ⟨gP, 0, none⟩ = some (.string a0_0) := (blk_cell hbox 0).trans rfl; have hcp1 : w1.cell? ⟨gP, 1, none⟩ = some (.int .i64 a0_1) := (blk_cell hbox 1).trans rfl; clear hbox hb hg) | ((with_reducible refine gate_callee (f := 37) rfl ?_); refine goesL_ (some 14) rfl rfl Tryd.func37 (by kernel_rfl) rfl #[.agg #[.string a0_0, .int .i64 a0_1]] rfl (by (try simp only [List.map_toArray, List.map_cons, List.map_nil]); first | done | rfl) ?_; (with_reducible refine (spec_pzAnswers.calls k a0_0 a0_1 L true _ A1.out).mono ?_); rintro e wA ⟨v8, rfl, ho, hb⟩; refine ⟨_, rfl, ?_⟩; have HBA := Aside0.mk (below_step HB1.out hb); obtain ⟨AL, cL, eL⟩ := Kd.S_slice ho; subst eL; have HSA := Aside0.mk ho; clear ho hb hcp0 hcp1 BP1 HB1))
      go_ret2
      exact ⟨_, rfl, Kd.R_nil _ _ _ _ _, HBA.out⟩
    · rw [if_neg c1_] at h
      have c1b : ((L.length : Int) == 0) = false := beq_eq_false_iff_ne.2 (by omega)
      have HL0 := Aside0.mk (Nat.pos_of_ne_zero c1_)
      by_cases c2_ : (rd_Rules L 0).length < 8796093022207 ∧ ((rd_Rules L 0).all fun x => L.all fun a => (spec_pzHas.f k a x.f0 x.f1).isSome) = true
      · rw [if_pos c2_] at h
        obtain ⟨row, hrow⟩ : ∃ l_, l_ = rd_Rules L 0 := ⟨_, rfl⟩
        rw [← hrow] at h c2_
        have HLB := Aside0.mk c2_.1
        have HSO := Aside0.mk c2_.2
        have HROW := Aside0.mk hrow
        have HFIN := Aside0.mk h
        clear h c2_ c1_ hrow
        go_enter Tryd.func14, Tryd.ntmps14
        go_wp2_with (first | ((with_reducible refine gate_dst (N := 1) rfl ?_); (try (refine gate_guard (by rfl) ?_; dsimp only)); refine box_event ?hg (N := 1) ?hd (cs := #[.string a0_0, .int .i64 a0_1]) (t := 28) ?hr ?_; (case hd => rfl); (case hg => rfl); (case hr => first | (go_simp; done) | (go_simp; rfl)); intro gP hg w1 hbox hb; have BP1 := Aside0.mk hbox; have HB1 := Aside0.mk hb; have hcp0 : w1.cell? ⟨gP, 0, none⟩ = some (.string a0_0) := (blk_cell hbox 0).trans rfl; have hcp1 : w1.cell? ⟨gP, 1, none⟩ = some (.int .i64 a0_1) := (blk_cell hbox 1).trans rfl; clear hbox hb hg) | ((with_reducible refine gate_callee (f := 37) rfl ?_); refine goesL_ (some 14) rfl rfl Tryd.func37 (by kernel_rfl) rfl #[.agg #[.string a0_0, .int .i64 a0_1]] rfl (by (try simp only [List.map_toArray, List.map_cons, List.map_nil]); first | done | rfl) ?_; (with_reducible refine (spec_pzAnswers.calls k a0_0 a0_1 L true _ A1.out).mono ?_); rintro e wA ⟨v8, rfl, ho, hb⟩; refine ⟨_, rfl, ?_⟩; have HBA := Aside0.mk (below_step HB1.out hb); obtain ⟨AL, cL, eL⟩ := Kd.S_slice ho; subst eL; have HSA := Aside0.mk ho; clear ho hb hcp0 hcp1 BP1 HB1; have HLL := Aside0.mk (show L.length ≤ 9223372036854775807 from Kd.C_max (Kd.S_reads' HSA.out).2.2); obtain ⟨ad, AR, cR, eR, hxR, hlR, hiR⟩ := at_Rules (Kd.S_reads' HSA.out).2.2 0 (by omega) (by have := HL0.out; omega); cases eR; (try rw [show ((0 : Int)).toNat = 0 from rfl] at hxR); (try rw [Addr.add_zero'] at hxR); rw [← HROW.out] at hxR hlR hiR; have HIR := Aside0.mk hiR; have qL_ : (0 < L.length) = True := eq_true HL0.out; have qLz_ : ((0 : Int) < (L.length : Int)) = True := eq_true (by have := HL0.out; omega); clear hiR hlR))
        go_loopg [6, 28] row.length (fun gg v6 v28 wx => ∃ i : Nat, v28 = .int .i64 i ∧ i ≤ row.length ∧ row.length - i ≤ gg ∧ Aside0 (Kd.R kRule 54 wx wA.heap.size (fun _ => True) v6 ((row.take i).filter (fun x => L.all (sureHas k x)))) ∧ Aside0 (Below wA.heap.size wA wx))
        case atStart => exact ⟨0, rfl, Nat.zero_le _, Nat.le_refl _, ⟨Kd.R_nil _ _ _ _ _⟩, ⟨Below.refl _ _⟩⟩
        case round =>
          clear hxR
          obtain ⟨i, rfl, hi, hgg, HO, HW⟩ := hrel
          have hjb : row.length < 8796093022207 := HLB.out
          by_cases hlt : i < row.length
          · have c1z : (i : Int) < (row.length : Int) := by omega
            have c1y : decide ((i : Int) < (row.length : Int)) = true := decide_eq_true c1z
            have c1c : decide (i < row.length) = true := decide_eq_true hlt
            obtain ⟨ad2, e_, hx0, hx1⟩ := at_Rule (Kd.C_below HIR.out HW.out) (i : Int) (by omega) (by omega)
            cases e_
            simp only [Int.toNat_natCast] at hx0 hx1
            have HT := Aside0.mk (sure_take row (fun x => L.all (sureHas k x)) i hlt)
            have HXM := Aside0.mk (show ∀ a ∈ L, (spec_pzHas.f k a (rd_Rule row (i : Int)).f0 (rd_Rule row (i : Int)).f1).isSome = true from fun a ha => List.all_eq_true.1 (List.all_eq_true.1 HSO.out (rd_Rule row (i : Int)) (by rw [show rd_Rule row (i : Int) = row[i] by simp [rd_Rule, List.getD, hlt]]; exact List.getElem_mem hlt)) a ha)
            obtain ⟨x, hx_⟩ : ∃ x_, x_ = rd_Rule row (i : Int) := ⟨_, rfl⟩
            rw [← hx_] at hx0 hx1 HT HXM
            clear hx_
            obtain ⟨Y, hY⟩ : ∃ l_, l_ = (row.take i).filter (fun x => L.all (sureHas k x)) := ⟨_, rfl⟩
            have HYL := Aside0.mk (show Y.length ≤ row.length by rw [hY]; exact Nat.le_trans (List.length_filter_le _ _) (by rw [List.length_take]; omega))
            have HO1 := Aside0.mk (show Kd.R kRule 54 wr wA.heap.size (fun _ => True) u6 Y by rw [hY]; exact HO.out)
            have HY := Aside0.mk hY
            clear hY HO
            go_wp2_with (first | ((with_reducible refine gate_dst (N := 8) rfl ?_); (try (refine gate_guard (by rfl) ?_; dsimp only)); refine box_event ?hg (N := 8) ?hd (cs := #[.int .i64 0, .int .i64 0]) (t := 54) ?hr ?_; (case hd => rfl); (case hg => rfl); (case hr => first | (go_simp; done) | (go_simp; rfl)); intro g8 hg w20 hbox hb; have BK := Aside0.mk hbox; have HB0 := Aside0.mk hb; have G8 := Aside0.mk hg; have hcz0 : w20.cell? ⟨g8, 0, none⟩ = some (.int .i64 0) := (blk_cell hbox 0).trans rfl; have hcz1 : w20.cell? ⟨g8, 1, none⟩ = some (.int .i64 0) := (blk_cell hbox 1).trans rfl; have hfz0 := blk_frozen hbox 0; have hfz1 := blk_frozen hbox 1; clear hbox hb hg))
            have BK8 := Aside0.mk (show ((w20.setCell ⟨g8, 0, none⟩ (.int .i64 x.f0)).setCell ⟨g8, 1, none⟩ (.int .i64 x.f1)).heap[g8]? = _ from blk_put (cs' := #[.int .i64 x.f0, .int .i64 x.f1]) (blk_put (cs' := #[.int .i64 x.f0, .int .i64 0]) BK.out 0 _ rfl) 1 _ rfl)
            have HBr8 := Aside0.mk (show Below wr.heap.size wr ((w20.setCell ⟨g8, 0, none⟩ (.int .i64 x.f0)).setCell ⟨g8, 1, none⟩ (.int .i64 x.f1)) from below_set (below_set HB0.out (Nat.le_of_eq G8.out.symm)) (Nat.le_of_eq G8.out.symm))
            clear hcz0 hcz1 hfz0 hfz1 BK HB0
            generalize ((w20.setCell ⟨g8, 0, none⟩ (.int .i64 x.f0)).setCell ⟨g8, 1, none⟩ (.int .i64 x.f1)) = w8 at BK8 HBr8 ⊢
            have hcA : w8.cell? ⟨g8, 0, none⟩ = some (.int .i64 x.f0) := (blk_cell BK8.out 0).trans rfl
            have hcB : w8.cell? ⟨g8, 1, none⟩ = some (.int .i64 x.f1) := (blk_cell BK8.out 1).trans rfl
            have HO8 := Aside0.mk (Kd.R_below (Kd.R_elderB HO1.out g8 (Nat.le_of_eq G8.out.symm)) HBr8.out)
            have HB8 := Aside0.mk (below_step HW.out HBr8.out)
            clear HO1
            go_loopg [9, 34] L.length (fun gb v9 v34 wx => ∃ j : Nat, v34 = .int .i64 j ∧ v9 = .bool ((L.take j).all (sureHas k x)) ∧ j ≤ L.length ∧ L.length - j ≤ gb ∧ Aside0 (Below w8.heap.size w8 wx))
            case atStart => exact ⟨0, rfl, rfl, Nat.zero_le _, Nat.le_refl _, ⟨Below.refl _ _⟩⟩
            case round =>
              clear hcA hcB
              obtain ⟨j, rfl, rfl, hj, hgb, HW2⟩ := hrel
              have BKr := Aside0.mk (blk_below BK8.out HW2.out)
              have hcA : wr.cell? ⟨g8, 0, none⟩ = some (.int .i64 x.f0) := (blk_cell BKr.out 0).trans rfl
              have hcB : wr.cell? ⟨g8, 1, none⟩ = some (.int .i64 x.f1) := (blk_cell BKr.out 1).trans rfl
              have hLb : L.length ≤ 9223372036854775807 := HLL.out
              by_cases hlt2 : j < L.length
              · have c2z : (j : Int) < (L.length : Int) := by omega
                have c2y : decide ((j : Int) < (L.length : Int)) = true := decide_eq_true c2z
                have c2c : decide (j < L.length) = true := decide_eq_true hlt2
                obtain ⟨ad3, A3, c3, e3_, hx3, hl3, hi3⟩ := at_Rules (Kd.S_reads' (Kd.S_below HSA.out (below_step HB8.out HW2.out))).2.2 (j : Int) (by omega) (by omega)
                cases e3_
                simp only [Int.toNat_natCast] at hx3
                have HC3 := Aside0.mk hi3
                have HL3 := Aside0.mk hl3
                obtain ⟨b, hb_⟩ : ∃ b, spec_pzHas.f k (rd_Rules L (j : Int)) x.f0 x.f1 = some b := Option.isSome_iff_exists.1 (HXM.out _ (by rw [show rd_Rules L (j : Int) = L[j] by simp [rd_Rules, List.getD, hlt2]]; exact List.getElem_mem hlt2))
                have HA3 := Aside0.mk hb_
                have HS3 := Aside0.mk (sure_all L (sureHas k x) j hlt2)
                have HP3 := Aside0.mk (show sureHas k x (rd_Rules L (j : Int)) = b by unfold sureHas; rw [hb_]; cases b <;> rfl)
                clear hi3 hl3 hb_
                obtain ⟨row3, hrow3⟩ : ∃ l_, l_ = rd_Rules L (j : Int) := ⟨_, rfl⟩
                rw [← hrow3] at HC3 HL3 HA3 HS3 HP3 hx3
                clear hrow3
                cases hsure : (L.take j).all (sureHas k x) with
                | true =>
                  have HSU := Aside0.mk hsure
                  clear hsure
                  go_wp2_with (first | ((with_reducible refine gate_callee (f := 39) rfl ?_); (try (refine gate_guard (by rfl) ?_; dsimp only)); refine goesL_ (some 42) rfl rfl Tryd.func39 (by kernel_rfl) rfl #[.slice A3 row3.length c3, .agg #[.int .i64 x.f0, .int .i64 x.f1]] rfl (by (try simp only [List.map_toArray, List.map_cons, List.map_nil]); first | done | rfl) ?_; (with_reducible refine (spec_pzHas.calls k _ _ row3 x.f0 x.f1 b _ ?side1 ?side2 HA3.out).mono ?_); (case side1 => exact HC3.out); (case side2 => exact HL3.out); rintro e wH ⟨rfl, hbH⟩; refine ⟨_, rfl, ?_⟩; have HBH := Aside0.mk hbH; clear hbH))
                  go_roundg (L.length - (j + 1))
                  case measure => omega
                  case rel => exact ⟨j + 1, by go_num, by rw [HS3.out, HSU.out, HP3.out]; rfl, by omega, Nat.le_refl _, ⟨below_step HW2.out HBH.out⟩⟩
                | false =>
                  have HSU := Aside0.mk hsure
                  clear hsure
                  go_wp2
                  go_roundg (L.length - (j + 1))
                  case measure => omega
                  case rel => exact ⟨j + 1, by go_num, by rw [HS3.out, HSU.out]; rfl, by omega, Nat.le_refl _, HW2⟩
              · obtain rfl : j = L.length := by omega
                have c2y : decide ((L.length : Int) < (L.length : Int)) = false := decide_eq_false (by omega)
                have c2c : decide (L.length < L.length) = false := decide_eq_false (by omega)
                rw [List.take_length]
                have HO9 := Aside0.mk (Kd.R_below HO8.out HW2.out)
                have HB9 := Aside0.mk (below_step HB8.out HW2.out)
                cases hsure : L.all (sureHas k x) with
                | true =>
                  have HSU := Aside0.mk hsure
                  clear hsure
                  go_wp2_with (first | ((with_reducible refine gate_builtin (b := .append) (xs := #[.tmp 46, .tmp 48]) rfl ?_); at_builtin; refine Kd.R_append kRule (w0 := wA) wA.heap.size rfl (.tmp 46) (.tmp 48) 33 54 (.agg #[(.int .i64 0), (.int .i64 0)]) 16 rfl Tryd.underlying33 infoE_Rule rfl (by decide) (by omega) u6 Y x [.int .i64 x.f0, .int .i64 x.f1] (fun k_ => k_ ≠ g8) (fun _ => False) rfl rfl ?aP (fun _ hk => hk.elim) ?aF ?aO ?aB ?aS ?aL ?_; (case aP => exact kRule_mkM _ _ _ x); (case aB => exact (by repeat (first | (with_reducible first | exact HB9.out | apply below_alloc | apply pw_below_drewN | apply below_drew1) | exact HB9.out))); (case aF => exact (fun k_ hk => Kd.freshB (g := g8) (by (with_reducible repeat (first | refine blk_drewN ?_ _ | refine blk_drew ?_ | refine blk_alloc ?_ _)); exact BKr.out) k_ hk)); (case aO => exact (by (with_reducible repeat (first | apply Kd.R_alloc | apply Kd.R_drewN | apply Kd.R_drew)); exact Kd.R_mono HO9.out (fun _ hk => hk.2))); (case aS => exact (below_size (by repeat (first | (with_reducible first | exact HB9.out | apply below_alloc | apply pw_below_drewN | apply below_drew1) | exact HB9.out)))); (case aL => have h_ := HLB.out; have h2_ := HYL.out; omega); intro v45 w11 ho hb hg hat; have HOB := Aside0.mk ho; have HBN := Aside0.mk hb; clear ho hb hg hat))
                  go_roundg (row.length - (i + 1))
                  case measure => omega
                  case rel => exact ⟨i + 1, by go_num, by omega, Nat.le_refl _, ⟨by rw [HT.out, if_pos HSU.out, ← HY.out]; exact Kd.R_mono HOB.out (fun _ _ => trivial)⟩, HBN⟩
                | false =>
                  have HSU := Aside0.mk hsure
                  clear hsure
                  go_wp2
                  go_roundg (row.length - (i + 1))
                  case measure => omega
                  case rel => exact ⟨i + 1, by go_num, by omega, Nat.le_refl _, ⟨by rw [HT.out, if_neg (by rw [HSU.out]; decide), List.append_nil, ← HY.out]; exact Kd.R_mono HO9.out (fun _ _ => trivial)⟩, HB9⟩
          · obtain rfl : i = row.length := by omega
            have c1y : decide ((row.length : Int) < (row.length : Int)) = false := decide_eq_false (by omega)
            have c1c : decide (row.length < row.length) = false := decide_eq_false (by omega)
            have h_ := HFIN.out
            simp only [Option.some.injEq, Prod.mk.injEq] at h_
            obtain ⟨rfl, rfl⟩ := h_
            have HR := Aside0.mk (show Kd.R kRule 54 wr wA.heap.size (fun _ => True) u6 (row.filter (fun x => L.all (sureHas k x))) by have h2_ := HO.out; rw [List.take_length] at h2_; exact h2_)
            go_wp2
            go_ret2
            exact ⟨_, rfl, Kd.R_lower HR.out HBA.out.size, below_step HBA.out HW.out⟩
      · rw [if_neg c2_] at h
        exact absurd h (by simp)
end Go.Proofs.YtkloiiojigofpaaDoor.P
namespace Go.Proofs.YtkloiiojigofpaaDoor.P
open Go.RowKit Go.Proofs.YtkloiiojigofpaaDoorW.PrintWords Go.Proofs.YtkloiiojigofpaaDoorW.PrintLast Go.Proofs.YtkloiiojigofpaaDoorW.PrintMore
attribute [local go_sem] max2_int min2_int max_two min_two max_three min_three max_four min_four
set_option linter.unusedVariables false
set_option linter.unusedSimpArgs false
def lays160_ren : Go.Shelf.Ren := ⟨fun | 160 => 72 | 232 => 89 | 231 => 88 | 227 => 90 | 234 => 92 | 233 => 91 | 236 => 94 | 235 => 93 | 228 => 105 | 271 => 108 | 151 => 107 | 197 => 106 | 120 => 119 | 152 => 118 | 260 => 117 | 137 => 128 | 119 => 129 | 224 => 111 | 225 => 110 | 217 => 109 | 266 => 120 | n => n, fun | 9 => 9 | 4 => 4 | 3 => 3 | 5 => 5 | 117 => 92 | 116 => 91 | 0 => 0 | 124 => 95 | 21 => 21 | 105 => 106 | 46 => 111 | 119 => 134 | 139 => 137 | 138 => 136 | n => n, fun | 3 => 3 | 4 => 4 | n => n⟩
theorem lays160 : Go.Proofs.Lays.n160 Tryd.prog lays160_ren := {
  mixed := by kernel_rfl
  f119 := Tryd.func129.trans (congrArg some (by kernel_rfl))
  f120 := Tryd.func119.trans (congrArg some (by kernel_rfl))
  f137 := Tryd.func128.trans (congrArg some (by kernel_rfl))
  f151 := Tryd.func107.trans (congrArg some (by kernel_rfl))
  f152 := Tryd.func118.trans (congrArg some (by kernel_rfl))
  f160 := Tryd.func72.trans (congrArg some (by kernel_rfl))
  f197 := Tryd.func106.trans (congrArg some (by kernel_rfl))
  f217 := Tryd.func109.trans (congrArg some (by kernel_rfl))
  f224 := Tryd.func111.trans (congrArg some (by kernel_rfl))
  f225 := Tryd.func110.trans (congrArg some (by kernel_rfl))
  f227 := Tryd.func90.trans (congrArg some (by kernel_rfl))
  f228 := Tryd.func105.trans (congrArg some (by kernel_rfl))
  f231 := Tryd.func88.trans (congrArg some (by kernel_rfl))
  f232 := Tryd.func89.trans (congrArg some (by kernel_rfl))
  f233 := Tryd.func91.trans (congrArg some (by kernel_rfl))
  f234 := Tryd.func92.trans (congrArg some (by kernel_rfl))
  f235 := Tryd.func93.trans (congrArg some (by kernel_rfl))
  f236 := Tryd.func94.trans (congrArg some (by kernel_rfl))
  f260 := Tryd.func117.trans (congrArg some (by kernel_rfl))
  f266 := Tryd.func120.trans (congrArg some (by kernel_rfl))
  f271 := Tryd.func108.trans (congrArg some (by kernel_rfl))
  t0 := Tryd.underlying0
  a0 := Tryd.isAgg0
  z0 := Tryd.sizeOf0
  v0 := Tryd.zeroValue0
  t3 := Tryd.underlying3
  a3 := Tryd.isAgg3
  z3 := Tryd.sizeOf3
  v3 := Tryd.zeroValue3
  t4 := Tryd.underlying4
  a4 := Tryd.isAgg4
  z4 := Tryd.sizeOf4
  v4 := Tryd.zeroValue4
  t5 := Tryd.underlying5
  a5 := Tryd.isAgg5
  z5 := Tryd.sizeOf5
  v5 := Tryd.zeroValue5
  t9 := Tryd.underlying9
  a9 := Tryd.isAgg9
  z9 := Tryd.sizeOf9
  v9 := Tryd.zeroValue9
  t21 := Tryd.underlying21
  a21 := Tryd.isAgg21
  z21 := Tryd.sizeOf21
  v21 := Tryd.zeroValue21
  t46 := Tryd.underlying111
  a46 := Tryd.isAgg111
  z46 := Tryd.sizeOf111
  v46 := Tryd.zeroValue111
  t105 := Tryd.underlying106
  a105 := Tryd.isAgg106
  z105 := Tryd.sizeOf106
  v105 := Tryd.zeroValue106
  t116 := Tryd.underlying91
  a116 := Tryd.isAgg91
  z116 := Tryd.sizeOf91
  t117 := Tryd.underlying92
  a117 := Tryd.isAgg92
  z117 := Tryd.sizeOf92
  v117 := Tryd.zeroValue92
  t119 := Tryd.underlying134
  a119 := Tryd.isAgg134
  z119 := Tryd.sizeOf134
  t124 := Tryd.underlying95
  a124 := Tryd.isAgg95
  z124 := Tryd.sizeOf95
  v124 := Tryd.zeroValue95
  t138 := Tryd.underlying136
  a138 := Tryd.isAgg136
  z138 := Tryd.sizeOf136
  v138 := Tryd.zeroValue136
  t139 := Tryd.underlying137
  a139 := Tryd.isAgg137
  z139 := Tryd.sizeOf137
  v139 := Tryd.zeroValue137
  g3 := by kernel_rfl
  g4 := by kernel_rfl }
def strings_Trim.f (a0 a1 : ByteArray) : Option ByteArray := if a0.size ≤ 9223372036854775807 ∧ a1 = (⟨#[111, 120, 63]⟩ : ByteArray) then some ⟨(Lib.trimS a0.data.toList [111, 120, 63]).toArray⟩ else none
theorem strings_Trim.calls (a0 : ByteArray) (a1 : ByteArray) (r : ByteArray) (w : World) (h : strings_Trim.f a0 a1 = some r) :
    Calls Tryd.prog 72 #[.string a0, .string a1] w fun e w' => e = .returned (.string r) ∧ Below w.heap.size w w' := by
  unfold strings_Trim.f at h
  by_cases hc : a0.size ≤ 9223372036854775807 ∧ a1 = (⟨#[111, 120, 63]⟩ : ByteArray)
  · rw [if_pos hc] at h
    obtain rfl := Option.some.inj h
    obtain ⟨hs, rfl⟩ := hc
    exact Any.strings_Trim_laid lays160 (by kernel_rfl) a0 ⟨#[111, 120, 63]⟩ w hs (by decide) (ascii_of_all (by decide))
  · rw [if_neg hc] at h
    exact absurd h (by simp)
end Go.Proofs.YtkloiiojigofpaaDoor.P
namespace Go.Proofs.YtkloiiojigofpaaDoor.P
open Go.RowKit Go.Proofs.YtkloiiojigofpaaDoorW.PrintWords Go.Proofs.YtkloiiojigofpaaDoorW.PrintLast Go.Proofs.YtkloiiojigofpaaDoorW.PrintMore
attribute [local go_sem] max2_int min2_int max_two min_two max_three min_three max_four min_four
set_option linter.unusedVariables false
set_option linter.unusedSimpArgs false
def impl_isPuzzle.f (a0_0 : ByteArray) (a0_1 : Int) : Option (Bool) := if (a0_0.size : Int) ≥ 1 then (if (a0_0.size : Int) ≤ 48 then ((strings_Trim.f a0_0 (⟨#[111, 120, 63]⟩ : ByteArray)).bind fun t102 => (if t102.toList = ([] : List UInt8) then (if a0_1 ≥ 0 then (some (decide (a0_1 ≤ 3))) else (some false)) else (some false))) else (some false)) else (some false)
set_option maxHeartbeats 8000000 in
set_option maxRecDepth 100000 in
theorem impl_isPuzzle.calls (a0_0 : ByteArray) (a0_1 : Int) (r : Bool) (w : World) (h : impl_isPuzzle.f a0_0 a0_1 = some r) :
    Calls Tryd.prog 53 #[.agg #[.string a0_0, .int .i64 a0_1]] w fun e w' => e = .returned (.bool r) ∧ Below w.heap.size w w' := by
  have hu28 := Tryd.underlying28
  have HB := Aside0.mk (Below.refl w.heap.size w)
  have H : (if (a0_0.size : Int) ≥ 1 then (if (a0_0.size : Int) ≤ 48 then ((strings_Trim.f a0_0 (⟨#[111, 120, 63]⟩ : ByteArray)).bind fun t102 => (if t102.toList = ([] : List UInt8) then (if a0_1 ≥ 0 then (some (decide (a0_1 ≤ 3))) else (some false)) else (some false))) else (some false)) else (some false)) = some r := h
  clear h
  by_cases c2 : (a0_0.size : Int) ≥ 1
  · rw [if_pos c2] at H
    have c2b0 : decide (1 ≤ (a0_0.size : Int)) = true := decide_eq_true c2
    have c2b1 : decide (1 ≤ a0_0.size) = true := decide_eq_true (by omega)
    clear c2
    by_cases c3 : (a0_0.size : Int) ≤ 48
    · rw [if_pos c3] at H
      have c3b0 : decide ((a0_0.size : Int) ≤ 48) = true := decide_eq_true c3
      have c3b1 : decide (a0_0.size ≤ 48) = true := decide_eq_true (by omega)
      clear c3
      replace H := Option.bind_eq_some_iff.mp H
      obtain ⟨t102, A40, H⟩ := H
      replace H : (if t102.toList = ([] : List UInt8) then (if a0_1 ≥ 0 then (some (decide (a0_1 ≤ 3))) else (some false)) else (some false)) = some r := H
      have A4 := Aside0.mk A40
      clear A40
      by_cases c5 : t102.toList = ([] : List UInt8)
      · rw [if_pos c5] at H
        have c5b0 : (t102.toList == ([] : List UInt8)) = true := beq_iff_eq.mpr c5
        have c5b1 : (t102.toList != ([] : List UInt8)) = false := bne_eq_false_iff_eq.mpr c5
        clear c5
        by_cases c6 : a0_1 ≥ 0
        · rw [if_pos c6] at H
          have c6b0 : decide (0 ≤ a0_1) = true := decide_eq_true c6
          clear c6
          obtain rfl := Option.some.inj H
          go_enter Tryd.func53, Tryd.ntmps53
          go_wp2_with (first | ((with_reducible refine gate_dst (N := 1) rfl ?_); (try (refine gate_guard (by rfl) ?_; dsimp only)); refine box_event ?hg (N := 1) ?hd (cs := #[.string a0_0, .int .i64 a0_1]) (t := 28) ?hr ?_; (case hd => rfl); (case hg => rfl); (case hr => first | (go_simp; done) | (go_simp; rfl)); intro gb101 hg w7 hbox hb; have n0_ := Aside0.mk (below_step (by repeat (first | (with_reducible first | exact HB.out | apply below_alloc | apply pw_below_drewN | apply below_drew1) | exact HB.out)) hb); have n1_ := Aside0.mk (hbox); have n2_ := Aside0.mk ((by rw [hg]; exact (below_size (by repeat (first | (with_reducible first | exact HB.out | apply below_alloc | apply pw_below_drewN | apply below_drew1) | exact HB.out))) : w.heap.size ≤ gb101)); have n3_ := Aside0.mk ((by rw [hg]; exact (below_size (by repeat (first | (with_reducible first | exact HB.out | apply below_alloc | apply pw_below_drewN | apply below_drew1) | exact HB.out))) : w.heap.size ≤ gb101)); clear HB; have HB := n0_; have BK101 := n1_; have GW101 := n2_; have GE101 := n3_; clear n0_ n1_ n2_ n3_; clear hb hbox hg; have hcz8_0 : w7.cell? ⟨gb101, 0, none⟩ = some (.string a0_0) := (blk_cell BK101.out 0).trans rfl; have hcz8_1 : w7.cell? ⟨gb101, 1, none⟩ = some (.int .i64 a0_1) := (blk_cell BK101.out 1).trans rfl; have hfz8_0 := blk_frozen BK101.out 0; have hfz8_1 := blk_frozen BK101.out 1) | (go_at_call 72; (with_reducible refine (strings_Trim.calls a0_0 (⟨#[111, 120, 63]⟩ : ByteArray) t102 _ A4.out).mono ?_); rintro e w9 ⟨rfl, hb⟩; have n0_ := Aside0.mk (blk_below (g := gb101) (o := .cells #[.string a0_0, .int .i64 a0_1] 28 (0, 0)) (by (with_reducible repeat (first | refine blk_drewN ?_ _ | refine blk_drew ?_ | refine blk_alloc ?_ _)); exact BK101.out) hb); have n1_ := Aside0.mk (below_step (by repeat (first | (with_reducible first | exact HB.out | apply below_alloc | apply pw_below_drewN | apply below_drew1 | refine below_set ?_ GE101.out) | exact HB.out)) hb); clear BK101; clear HB; have BK101 := n0_; have HB := n1_; clear n0_ n1_; (try clear hb); (try clear hb2); (try clear hk); (try clear hi); have hcz10_0 : w9.cell? ⟨gb101, 0, none⟩ = some (.string a0_0) := (blk_cell BK101.out 0).trans rfl; have hcz10_1 : w9.cell? ⟨gb101, 1, none⟩ = some (.int .i64 a0_1) := (blk_cell BK101.out 1).trans rfl; have hfz10_0 := blk_frozen BK101.out 0; have hfz10_1 := blk_frozen BK101.out 1))
          go_ret
          exact ⟨by first | rfl | (simp [errW_none, errW_some] <;> rfl) | (simp [*, errW_none, errW_some] <;> rfl), by repeat (first | (with_reducible first | exact HB.out | apply below_alloc | apply pw_below_drewN | apply below_drew1 | refine below_set ?_ GE101.out) | exact HB.out)⟩
        · rw [if_neg c6] at H
          have c6b0 : decide (0 ≤ a0_1) = false := decide_eq_false c6
          clear c6
          obtain rfl := Option.some.inj H
          go_enter Tryd.func53, Tryd.ntmps53
          go_wp2_with (first | ((with_reducible refine gate_dst (N := 1) rfl ?_); (try (refine gate_guard (by rfl) ?_; dsimp only)); refine box_event ?hg (N := 1) ?hd (cs := #[.string a0_0, .int .i64 a0_1]) (t := 28) ?hr ?_; (case hd => rfl); (case hg => rfl); (case hr => first | (go_simp; done) | (go_simp; rfl)); intro gb101 hg w11 hbox hb; have n0_ := Aside0.mk (below_step (by repeat (first | (with_reducible first | exact HB.out | apply below_alloc | apply pw_below_drewN | apply below_drew1) | exact HB.out)) hb); have n1_ := Aside0.mk (hbox); have n2_ := Aside0.mk ((by rw [hg]; exact (below_size (by repeat (first | (with_reducible first | exact HB.out | apply below_alloc | apply pw_below_drewN | apply below_drew1) | exact HB.out))) : w.heap.size ≤ gb101)); have n3_ := Aside0.mk ((by rw [hg]; exact (below_size (by repeat (first | (with_reducible first | exact HB.out | apply below_alloc | apply pw_below_drewN | apply below_drew1) | exact HB.out))) : w.heap.size ≤ gb101)); clear HB; have HB := n0_; have BK101 := n1_; have GW101 := n2_; have GE101 := n3_; clear n0_ n1_ n2_ n3_; clear hb hbox hg; have hcz12_0 : w11.cell? ⟨gb101, 0, none⟩ = some (.string a0_0) := (blk_cell BK101.out 0).trans rfl; have hcz12_1 : w11.cell? ⟨gb101, 1, none⟩ = some (.int .i64 a0_1) := (blk_cell BK101.out 1).trans rfl; have hfz12_0 := blk_frozen BK101.out 0; have hfz12_1 := blk_frozen BK101.out 1) | (go_at_call 72; (with_reducible refine (strings_Trim.calls a0_0 (⟨#[111, 120, 63]⟩ : ByteArray) t102 _ A4.out).mono ?_); rintro e w13 ⟨rfl, hb⟩; have n0_ := Aside0.mk (blk_below (g := gb101) (o := .cells #[.string a0_0, .int .i64 a0_1] 28 (0, 0)) (by (with_reducible repeat (first | refine blk_drewN ?_ _ | refine blk_drew ?_ | refine blk_alloc ?_ _)); exact BK101.out) hb); have n1_ := Aside0.mk (below_step (by repeat (first | (with_reducible first | exact HB.out | apply below_alloc | apply pw_below_drewN | apply below_drew1 | refine below_set ?_ GE101.out) | exact HB.out)) hb); clear BK101; clear HB; have BK101 := n0_; have HB := n1_; clear n0_ n1_; (try clear hb); (try clear hb2); (try clear hk); (try clear hi); have hcz14_0 : w13.cell? ⟨gb101, 0, none⟩ = some (.string a0_0) := (blk_cell BK101.out 0).trans rfl; have hcz14_1 : w13.cell? ⟨gb101, 1, none⟩ = some (.int .i64 a0_1) := (blk_cell BK101.out 1).trans rfl; have hfz14_0 := blk_frozen BK101.out 0; have hfz14_1 := blk_frozen BK101.out 1))
          go_ret
          exact ⟨by first | rfl | (simp [errW_none, errW_some] <;> rfl) | (simp [*, errW_none, errW_some] <;> rfl), by repeat (first | (with_reducible first | exact HB.out | apply below_alloc | apply pw_below_drewN | apply below_drew1 | refine below_set ?_ GE101.out) | exact HB.out)⟩
      · rw [if_neg c5] at H
        have c5b0 : (t102.toList == ([] : List UInt8)) = false := beq_eq_false_iff_ne.mpr c5
        have c5b1 : (t102.toList != ([] : List UInt8)) = true := bne_iff_ne.mpr c5
        obtain rfl := Option.some.inj H
        go_enter Tryd.func53, Tryd.ntmps53
        go_wp2_with (first | ((with_reducible refine gate_dst (N := 1) rfl ?_); (try (refine gate_guard (by rfl) ?_; dsimp only)); refine box_event ?hg (N := 1) ?hd (cs := #[.string a0_0, .int .i64 a0_1]) (t := 28) ?hr ?_; (case hd => rfl); (case hg => rfl); (case hr => first | (go_simp; done) | (go_simp; rfl)); intro gb101 hg w15 hbox hb; have n0_ := Aside0.mk (below_step (by repeat (first | (with_reducible first | exact HB.out | apply below_alloc | apply pw_below_drewN | apply below_drew1) | exact HB.out)) hb); have n1_ := Aside0.mk (hbox); have n2_ := Aside0.mk ((by rw [hg]; exact (below_size (by repeat (first | (with_reducible first | exact HB.out | apply below_alloc | apply pw_below_drewN | apply below_drew1) | exact HB.out))) : w.heap.size ≤ gb101)); have n3_ := Aside0.mk ((by rw [hg]; exact (below_size (by repeat (first | (with_reducible first | exact HB.out | apply below_alloc | apply pw_below_drewN | apply below_drew1) | exact HB.out))) : w.heap.size ≤ gb101)); clear HB; have HB := n0_; have BK101 := n1_; have GW101 := n2_; have GE101 := n3_; clear n0_ n1_ n2_ n3_; clear hb hbox hg; have hcz16_0 : w15.cell? ⟨gb101, 0, none⟩ = some (.string a0_0) := (blk_cell BK101.out 0).trans rfl; have hcz16_1 : w15.cell? ⟨gb101, 1, none⟩ = some (.int .i64 a0_1) := (blk_cell BK101.out 1).trans rfl; have hfz16_0 := blk_frozen BK101.out 0; have hfz16_1 := blk_frozen BK101.out 1) | (go_at_call 72; (with_reducible refine (strings_Trim.calls a0_0 (⟨#[111, 120, 63]⟩ : ByteArray) t102 _ A4.out).mono ?_); rintro e w17 ⟨rfl, hb⟩; have n0_ := Aside0.mk (blk_below (g := gb101) (o := .cells #[.string a0_0, .int .i64 a0_1] 28 (0, 0)) (by (with_reducible repeat (first | refine blk_drewN ?_ _ | refine blk_drew ?_ | refine blk_alloc ?_ _)); exact BK101.out) hb); have n1_ := Aside0.mk (below_step (by repeat (first | (with_reducible first | exact HB.out | apply below_alloc | apply pw_below_drewN | apply below_drew1 | refine below_set ?_ GE101.out) | exact HB.out)) hb); clear BK101; clear HB; have BK101 := n0_; have HB := n1_; clear n0_ n1_; (try clear hb); (try clear hb2); (try clear hk); (try clear hi)))
        go_ret
        exact ⟨by first | rfl | (simp [errW_none, errW_some] <;> rfl) | (simp [*, errW_none, errW_some] <;> rfl), by repeat (first | (with_reducible first | exact HB.out | apply below_alloc | apply pw_below_drewN | apply below_drew1 | refine below_set ?_ GE101.out) | exact HB.out)⟩
    · rw [if_neg c3] at H
      have c3b0 : decide ((a0_0.size : Int) ≤ 48) = false := decide_eq_false c3
      have c3b1 : decide (a0_0.size ≤ 48) = false := decide_eq_false (by omega)
      clear c3
      obtain rfl := Option.some.inj H
      go_enter Tryd.func53, Tryd.ntmps53
      go_wp2_with (first | ((with_reducible refine gate_dst (N := 1) rfl ?_); (try (refine gate_guard (by rfl) ?_; dsimp only)); refine box_event ?hg (N := 1) ?hd (cs := #[.string a0_0, .int .i64 a0_1]) (t := 28) ?hr ?_; (case hd => rfl); (case hg => rfl); (case hr => first | (go_simp; done) | (go_simp; rfl)); intro gb101 hg w18 hbox hb; have n0_ := Aside0.mk (below_step (by repeat (first | (with_reducible first | exact HB.out | apply below_alloc | apply pw_below_drewN | apply below_drew1) | exact HB.out)) hb); have n1_ := Aside0.mk (hbox); have n2_ := Aside0.mk ((by rw [hg]; exact (below_size (by repeat (first | (with_reducible first | exact HB.out | apply below_alloc | apply pw_below_drewN | apply below_drew1) | exact HB.out))) : w.heap.size ≤ gb101)); have n3_ := Aside0.mk ((by rw [hg]; exact (below_size (by repeat (first | (with_reducible first | exact HB.out | apply below_alloc | apply pw_below_drewN | apply below_drew1) | exact HB.out))) : w.heap.size ≤ gb101)); clear HB; have HB := n0_; have BK101 := n1_; have GW101 := n2_; have GE101 := n3_; clear n0_ n1_ n2_ n3_; clear hb hbox hg; have hcz19_0 : w18.cell? ⟨gb101, 0, none⟩ = some (.string a0_0) := (blk_cell BK101.out 0).trans rfl; have hcz19_1 : w18.cell? ⟨gb101, 1, none⟩ = some (.int .i64 a0_1) := (blk_cell BK101.out 1).trans rfl; have hfz19_0 := blk_frozen BK101.out 0; have hfz19_1 := blk_frozen BK101.out 1))
      go_ret
      exact ⟨by first | rfl | (simp [errW_none, errW_some] <;> rfl) | (simp [*, errW_none, errW_some] <;> rfl), by repeat (first | (with_reducible first | exact HB.out | apply below_alloc | apply pw_below_drewN | apply below_drew1 | refine below_set ?_ GE101.out) | exact HB.out)⟩
  · rw [if_neg c2] at H
    have c2b0 : decide (1 ≤ (a0_0.size : Int)) = false := decide_eq_false c2
    have c2b1 : decide (1 ≤ a0_0.size) = false := decide_eq_false (by omega)
    clear c2
    obtain rfl := Option.some.inj H
    go_enter Tryd.func53, Tryd.ntmps53
    go_wp2_with (first | ((with_reducible refine gate_dst (N := 1) rfl ?_); (try (refine gate_guard (by rfl) ?_; dsimp only)); refine box_event ?hg (N := 1) ?hd (cs := #[.string a0_0, .int .i64 a0_1]) (t := 28) ?hr ?_; (case hd => rfl); (case hg => rfl); (case hr => first | (go_simp; done) | (go_simp; rfl)); intro gb101 hg w20 hbox hb; have n0_ := Aside0.mk (below_step (by repeat (first | (with_reducible first | exact HB.out | apply below_alloc | apply pw_below_drewN | apply below_drew1) | exact HB.out)) hb); have n1_ := Aside0.mk (hbox); have n2_ := Aside0.mk ((by rw [hg]; exact (below_size (by repeat (first | (with_reducible first | exact HB.out | apply below_alloc | apply pw_below_drewN | apply below_drew1) | exact HB.out))) : w.heap.size ≤ gb101)); have n3_ := Aside0.mk ((by rw [hg]; exact (below_size (by repeat (first | (with_reducible first | exact HB.out | apply below_alloc | apply pw_below_drewN | apply below_drew1) | exact HB.out))) : w.heap.size ≤ gb101)); clear HB; have HB := n0_; have BK101 := n1_; have GW101 := n2_; have GE101 := n3_; clear n0_ n1_ n2_ n3_; clear hb hbox hg; have hcz21_0 : w20.cell? ⟨gb101, 0, none⟩ = some (.string a0_0) := (blk_cell BK101.out 0).trans rfl; have hcz21_1 : w20.cell? ⟨gb101, 1, none⟩ = some (.int .i64 a0_1) := (blk_cell BK101.out 1).trans rfl; have hfz21_0 := blk_frozen BK101.out 0; have hfz21_1 := blk_frozen BK101.out 1))
    go_ret
    exact ⟨by first | rfl | (simp [errW_none, errW_some] <;> rfl) | (simp [*, errW_none, errW_some] <;> rfl), by repeat (first | (with_reducible first | exact HB.out | apply below_alloc | apply pw_below_drewN | apply below_drew1 | refine below_set ?_ GE101.out) | exact HB.out)⟩
end Go.Proofs.YtkloiiojigofpaaDoor.P
namespace Go.Proofs.YtkloiiojigofpaaDoor.P
open Go.RowKit Go.Proofs.YtkloiiojigofpaaDoorW.PrintWords Go.Proofs.YtkloiiojigofpaaDoorW.PrintLast Go.Proofs.YtkloiiojigofpaaDoorW.PrintMore
attribute [local go_sem] max2_int min2_int max_two min_two max_three min_three max_four min_four
set_option linter.unusedVariables false
set_option linter.unusedSimpArgs false
mutual
def impl_fitting.l0 : Nat → ByteArray → List (SRule) → Int → Option ((List (SRule)))
  | 0, _, _, _ => none
  | k + 1, x0, x3, x4 => if x4 ≤ 10 then (impl_fitting.l1 k x0 x3 x4 x4 0) else (some x3)
def impl_fitting.l1 : Nat → ByteArray → List (SRule) → Int → Int → Int → Option ((List (SRule)))
  | 0, _, _, _, _, _ => none
  | k + 1, x0, x3, x4, x13, x14 => if x14 < x13 then (impl_fitting.l2 k x0 x3 x4 x14 true x13 x14 (x0.size : Int) 0) else (impl_fitting.l0 k x0 x3 (wrap64 (x4 + 1)))
def impl_fitting.l2 : Nat → ByteArray → List (SRule) → Int → Int → Bool → Int → Int → Int → Int → Option ((List (SRule)))
  | 0, _, _, _, _, _, _, _, _, _ => none
  | k + 1, x0, x3, x4, x5, x6, x13, x14, x18, x19 => if x19 < x18 then (if x6 = true then (if 0 ≤ x19 then (if x19 < (x0.size : Int) then (if (bt x0 x19) = 111 then (if x4 = 0 then (none) else (impl_fitting.l2 k x0 x3 x4 x5 ((Int.tmod (wrap64 (x19 + 1)) x4) != x5) x13 x14 x18 (wrap64 (x19 + 1)))) else (impl_fitting.l2 k x0 x3 x4 x5 true x13 x14 x18 (wrap64 (x19 + 1)))) else (none)) else (none)) else (impl_fitting.l2 k x0 x3 x4 x5 false x13 x14 x18 (wrap64 (x19 + 1)))) else (if x6 = true then (if x3.length < 8796093022208 then (impl_fitting.l1 k x0 (x3 ++ [(⟨x4, x5⟩ : SRule)]) x4 x13 (wrap64 (x14 + 1))) else (none)) else (impl_fitting.l1 k x0 x3 x4 x13 (wrap64 (x14 + 1))))
end
def impl_fitting.f (k : Nat) (a0 : ByteArray) : Option ((List (SRule))) := impl_fitting.l0 k a0 (([] : List (SRule))) 2
set_option maxHeartbeats 8000000 in
set_option maxRecDepth 100000 in
theorem impl_fitting.calls (k : Nat) (a0 : ByteArray) (r : List (SRule)) (w : World) (h : impl_fitting.f k a0 = some r) :
    Calls Tryd.prog 73 #[.string a0] w fun e w' => ∃ v0_ : Value, e = .returned (v0_) ∧ Kd.R kRule 54 w' w.heap.size (fun _ => True) v0_ r ∧ Below w.heap.size w w' := by
  have hu54 := Tryd.underlying54
  have HB := Aside0.mk (Below.refl w.heap.size w)
  have H : (impl_fitting.l0 k a0 (([] : List (SRule))) 2) = some r := h
  clear h
  obtain ⟨y101, hy101⟩ : ∃ y_ : List (SRule), y_ = (([] : List (SRule))) := ⟨_, rfl⟩
  replace H : (impl_fitting.l0 k a0 y101 2) = some r := by first | (rw [hy101]; with_reducible exact H) | (have H2_ := (Option.bind_some _ _).symm.trans H; rw [hy101]; with_reducible exact H2_) | (have H2_ := (Option.bind_some _ _).symm.trans H; with_reducible exact H2_) | with_reducible exact H | (rw [hy101]; exact H) | exact H
  have Ny101 := Aside0.mk hy101
  clear hy101
  have H' := Aside0.mk H
  clear H
  go_enter Tryd.func73, Tryd.ntmps73
  go_wp2_with (first | ((with_reducible refine gate_dst (N := 8) rfl ?_); refine Kd.R_lit kRule _ 54 ?hg (N := 8) ?hd (xs := ([] : List (SRule))) (inner := []) (ok := fun _ => True) (okp := fun _ => True) ?hr ?hp (fun _ hk => hk) trivial (Below.refl _ _) (Nat.le_refl _) (by simp) ?_; (case hd => rfl); (case hg => rfl); (case hr => first | (go_simp; done) | (go_simp; rfl)); (case hp => exact (Reps.none _ _)); intro v102 w2 ho3 hb hg_ hnew_; clear hg_ hnew_; (first | rw [← Ny101.out] at ho3 | (simp only [Int.reduceToNat] at ho3; rw [← Ny101.out] at ho3)); have n0_ := Aside0.mk (Kd.R_lower ho3 (below_size (by repeat (first | (with_reducible first | exact HB.out | apply below_alloc | apply pw_below_drewN | apply below_drew1) | exact HB.out)))); have n1_ := Aside0.mk (below_step (by repeat (first | (with_reducible first | exact HB.out | apply below_alloc | apply pw_below_drewN | apply below_drew1) | exact HB.out)) hb); clear HB; have HO103 := n0_; have HB := n1_; clear n0_ n1_; clear hb ho3))
  go_loopg [3, 4] k (fun kq v3 v4 w' => ∃ (x3_1 : List (SRule)) (x4_1 : Int), v4 = .int .i64 x4_1 ∧ Aside0 (impl_fitting.l0 kq a0 x3_1 x4_1 = some r) ∧ Aside0 (kq ≤ k) ∧ Aside0 (Kd.R kRule 54 w' w.heap.size (fun _ => True) v3 x3_1) ∧ Aside0 (Below w.heap.size w w'))
  case atStart => exact ⟨(y101), (2), (by first | rfl | (simp; done) | (simp [*]; done)), H', ⟨Nat.le_refl _⟩, ⟨by (with_reducible repeat (first | apply Kd.R_alloc | apply Kd.R_drewN | apply Kd.R_drew)); exact HO103.out⟩, ⟨by repeat (first | (with_reducible first | exact HB.out | apply below_alloc | apply pw_below_drewN | apply below_drew1) | exact HB.out)⟩⟩
  case round =>
    clear H'
    try clear p2
    obtain ⟨x3_1, x4_1, rfl, HA, HK1, HO_3, HB⟩ := hrel
    cases gk with
    | zero => exact absurd HA.out (by simp [impl_fitting.l0])
    | succ k1 =>
      have H := HA.out
      clear HA
      simp only [impl_fitting.l0] at H
      by_cases c4 : x4_1 ≤ 10
      · rw [if_pos c4] at H
        have c4b0 : decide (x4_1 ≤ 10) = true := decide_eq_true c4
        clear c4
        have H' := Aside0.mk H
        clear H
        go_wp2
        go_loopg [3, 14] k1 (fun kq v3 v14 w' => ∃ (x3_2 : List (SRule)) (x14_2 : Int), v14 = .int .i64 x14_2 ∧ Aside0 (impl_fitting.l1 kq a0 x3_2 x4_1 x4_1 x14_2 = some r) ∧ Aside0 (kq ≤ k1) ∧ Aside0 (Kd.R kRule 54 w' w.heap.size (fun _ => True) v3 x3_2) ∧ Aside0 (Below w.heap.size w w'))
        case atStart => exact ⟨(x3_1), (0), (by first | rfl | (simp; done) | (simp [*]; done)), H', ⟨Nat.le_refl _⟩, ⟨by (with_reducible repeat (first | apply Kd.R_alloc | apply Kd.R_drewN | apply Kd.R_drew)); exact HO_3.out⟩, ⟨by repeat (first | (with_reducible first | exact HB.out | apply below_alloc | apply pw_below_drewN | apply below_drew1) | exact HB.out)⟩⟩
        case round =>
          clear H'
          try clear p2
          try clear c4
          try clear c4b0
          try clear p2
          obtain ⟨x3_2, x14_2, rfl, HA, HK2, HO_3, HB⟩ := hrel
          cases gk with
          | zero => exact absurd HA.out (by simp [impl_fitting.l1])
          | succ k2 =>
            have H := HA.out
            clear HA
            simp only [impl_fitting.l1] at H
            by_cases c5 : x14_2 < x4_1
            · rw [if_pos c5] at H
              have c5b0 : decide (x14_2 < x4_1) = true := decide_eq_true c5
              clear c5
              have H' := Aside0.mk H
              clear H
              go_wp2
              go_loopg [6, 19] k2 (fun kq v6 v19 w' => ∃ (x6_3 : Bool) (x19_3 : Int), v6 = .bool x6_3 ∧ v19 = .int .i64 x19_3 ∧ Aside0 (impl_fitting.l2 kq a0 x3_2 x4_1 x14_2 x6_3 x4_1 x14_2 (a0.size : Int) x19_3 = some r) ∧ Aside0 (kq ≤ k2) ∧ Aside0 (Kd.R kRule 54 w' w.heap.size (fun _ => True) u3 x3_2) ∧ Aside0 (Below w.heap.size w w'))
              case atStart => exact ⟨(true), (0), (by first | rfl | (simp; done) | (simp [*]; done)), (by first | rfl | (simp; done) | (simp [*]; done)), H', ⟨Nat.le_refl _⟩, ⟨by (with_reducible repeat (first | apply Kd.R_alloc | apply Kd.R_drewN | apply Kd.R_drew)); exact HO_3.out⟩, ⟨by repeat (first | (with_reducible first | exact HB.out | apply below_alloc | apply pw_below_drewN | apply below_drew1) | exact HB.out)⟩⟩
              case round =>
                clear H'
                try clear p2
                try clear c4
                try clear c4b0
                try clear c5
                try clear c5b0
                try clear p2
                obtain ⟨x6_3, x19_3, rfl, rfl, HA, HK3, HO_3, HB⟩ := hrel
                cases gk with
                | zero => exact absurd HA.out (by simp [impl_fitting.l2])
                | succ k3 =>
                  have H := HA.out
                  clear HA
                  simp only [impl_fitting.l2] at H
                  by_cases c6 : x19_3 < (a0.size : Int)
                  · rw [if_pos c6] at H
                    have c6b0 : decide (x19_3 < (a0.size : Int)) = true := decide_eq_true c6
                    clear c6
                    by_cases c7 : x6_3 = true
                    · subst c7
                      have H1 : (if 0 ≤ x19_3 then (if x19_3 < (a0.size : Int) then (if (bt a0 x19_3) = 111 then (if x4_1 = 0 then (none) else (impl_fitting.l2 k3 a0 x3_2 x4_1 x14_2 ((Int.tmod (wrap64 (x19_3 + 1)) x4_1) != x14_2) x4_1 x14_2 (a0.size : Int) (wrap64 (x19_3 + 1)))) else (impl_fitting.l2 k3 a0 x3_2 x4_1 x14_2 true x4_1 x14_2 (a0.size : Int) (wrap64 (x19_3 + 1)))) else (none)) else (none)) = some r := by rw [if_pos rfl] at H; exact H
                      clear H
                      have H := H1
                      clear H1
                      by_cases c8 : 0 ≤ x19_3
                      · rw [if_pos c8] at H
                        have c8b0 : decide (0 ≤ x19_3) = true := decide_eq_true c8
                        clear c8
                        by_cases c9 : x19_3 < (a0.size : Int)
                        · rw [if_pos c9] at H
                          have c9b0 : decide (x19_3 < (a0.size : Int)) = true := decide_eq_true c9
                          clear c9
                          by_cases c11 : (bt a0 x19_3) = 111
                          · rw [if_pos c11] at H
                            have c11b0 : ((bt a0 x19_3) == 111) = true := beq_iff_eq.mpr c11
                            have c11b1 : ((bt a0 x19_3) != 111) = false := bne_eq_false_iff_eq.mpr c11
                            clear c11
                            by_cases c12 : x4_1 = 0
                            · rw [if_pos c12] at H
                              exact absurd H (by simp)
                            · rw [if_neg c12] at H
                              have c12b0 : (x4_1 == 0) = false := beq_eq_false_iff_ne.mpr c12
                              have c12b1 : (x4_1 != 0) = true := bne_iff_ne.mpr c12
                              have H' := Aside0.mk H
                              clear H
                              have p10 : 0 ≤ (x19_3 : Int) := of_decide_eq_true (by first | (with_reducible assumption) | assumption)
                              have q10 : x19_3 < (a0.size : Int) := of_decide_eq_true (by first | (with_reducible assumption) | assumption)
                              have hx10 := bt_at a0 x19_3
                              replace p10 := eq_true p10
                              replace q10 := eq_true q10
                              go_wp2
                              go_roundg k3
                              case measure => have := HK1.out; have := HK2.out; have := HK3.out; omega
                              case rel => exact ⟨(((Int.tmod (wrap64 (x19_3 + 1)) x4_1) != x14_2)), (wrap64 (x19_3 + 1)), (by first | rfl | (simp; done) | (simp [*]; done)), (by first | rfl | (simp; done) | (simp [*]; done)), H', ⟨by have := HK1.out; have := HK2.out; have := HK3.out; omega⟩, ⟨by (with_reducible repeat (first | apply Kd.R_alloc | apply Kd.R_drewN | apply Kd.R_drew)); exact HO_3.out⟩, ⟨by repeat (first | (with_reducible first | exact HB.out | apply below_alloc | apply pw_below_drewN | apply below_drew1) | exact HB.out)⟩⟩
                          · rw [if_neg c11] at H
                            have c11b0 : ((bt a0 x19_3) == 111) = false := beq_eq_false_iff_ne.mpr c11
                            have c11b1 : ((bt a0 x19_3) != 111) = true := bne_iff_ne.mpr c11
                            have H' := Aside0.mk H
                            clear H
                            have p10 : 0 ≤ (x19_3 : Int) := of_decide_eq_true (by first | (with_reducible assumption) | assumption)
                            have q10 : x19_3 < (a0.size : Int) := of_decide_eq_true (by first | (with_reducible assumption) | assumption)
                            have hx10 := bt_at a0 x19_3
                            replace p10 := eq_true p10
                            replace q10 := eq_true q10
                            go_wp2
                            go_roundg k3
                            case measure => have := HK1.out; have := HK2.out; have := HK3.out; omega
                            case rel => exact ⟨(true), (wrap64 (x19_3 + 1)), (by first | rfl | (simp; done) | (simp [*]; done)), (by first | rfl | (simp; done) | (simp [*]; done)), H', ⟨by have := HK1.out; have := HK2.out; have := HK3.out; omega⟩, ⟨by (with_reducible repeat (first | apply Kd.R_alloc | apply Kd.R_drewN | apply Kd.R_drew)); exact HO_3.out⟩, ⟨by repeat (first | (with_reducible first | exact HB.out | apply below_alloc | apply pw_below_drewN | apply below_drew1) | exact HB.out)⟩⟩
                        · rw [if_neg c9] at H
                          exact absurd H (by simp)
                      · rw [if_neg c8] at H
                        exact absurd H (by simp)
                    · replace c7 := Bool.eq_false_iff.mpr c7
                      subst c7
                      have H1 : (impl_fitting.l2 k3 a0 x3_2 x4_1 x14_2 false x4_1 x14_2 (a0.size : Int) (wrap64 (x19_3 + 1))) = some r := by rw [if_neg (show ¬ (false = true) by decide)] at H; exact H
                      clear H
                      have H := H1
                      clear H1
                      have H' := Aside0.mk H
                      clear H
                      go_wp2
                      go_roundg k3
                      case measure => have := HK1.out; have := HK2.out; have := HK3.out; omega
                      case rel => exact ⟨(false), (wrap64 (x19_3 + 1)), (by first | rfl | (simp; done) | (simp [*]; done)), (by first | rfl | (simp; done) | (simp [*]; done)), H', ⟨by have := HK1.out; have := HK2.out; have := HK3.out; omega⟩, ⟨by (with_reducible repeat (first | apply Kd.R_alloc | apply Kd.R_drewN | apply Kd.R_drew)); exact HO_3.out⟩, ⟨by repeat (first | (with_reducible first | exact HB.out | apply below_alloc | apply pw_below_drewN | apply below_drew1) | exact HB.out)⟩⟩
                  · rw [if_neg c6] at H
                    have c6b0 : decide (x19_3 < (a0.size : Int)) = false := decide_eq_false c6
                    clear c6
                    by_cases c13 : x6_3 = true
                    · subst c13
                      have H1 : (if x3_2.length < 8796093022208 then (impl_fitting.l1 k3 a0 (x3_2 ++ [(⟨x4_1, x14_2⟩ : SRule)]) x4_1 x4_1 (wrap64 (x14_2 + 1))) else (none)) = some r := by rw [if_pos rfl] at H; exact H
                      clear H
                      have H := H1
                      clear H1
                      by_cases c14 : x3_2.length < 8796093022208
                      · rw [if_pos c14] at H
                        have LMc14 := Aside0.mk c14
                        clear c14
                        obtain ⟨y104, hy104⟩ : ∃ y_ : List (SRule), y_ = (x3_2 ++ [(⟨x4_1, x14_2⟩ : SRule)]) := ⟨_, rfl⟩
                        replace H : (impl_fitting.l1 k3 a0 y104 x4_1 x4_1 (wrap64 (x14_2 + 1))) = some r := by first | (rw [hy104]; with_reducible exact H) | (have H2_ := (Option.bind_some _ _).symm.trans H; rw [hy104]; with_reducible exact H2_) | (have H2_ := (Option.bind_some _ _).symm.trans H; with_reducible exact H2_) | with_reducible exact H | (rw [hy104]; exact H) | exact H
                        have Ny104 := Aside0.mk hy104
                        clear hy104
                        have H' := Aside0.mk H
                        clear H
                        go_wp2_with (first | ((with_reducible refine gate_builtin (b := .append) (xs := #[.tmp 39, .tmp 43]) rfl ?_); at_builtin; refine Kd.R_append kRule (w0 := w) w.heap.size rfl (.tmp 39) (.tmp 43) 33 54 (.agg #[(.int .i64 0), (.int .i64 0)]) 16 rfl Tryd.underlying33 info54 rfl (by decide) (by omega) u3 x3_2 (⟨x4_1, x14_2⟩ : SRule) [.int .i64 x4_1, .int .i64 x14_2] (fun _ => True) (fun _ => False) rfl rfl ?aP (fun _ hk => hk.elim) ?aF ?aO ?aB ?aS ?aL ?_; (case aP => exact kRule_mkM _ _ _ (⟨x4_1, x14_2⟩ : SRule)); (case aB => exact (by repeat (first | (with_reducible first | exact HB.out | apply below_alloc | apply pw_below_drewN | apply below_drew1) | exact HB.out))); (case aF => exact (fun _ _ => trivial)); (case aO => exact (by (with_reducible repeat (first | apply Kd.R_alloc | apply Kd.R_drewN | apply Kd.R_drew)); exact HO_3.out)); (case aS => exact (below_size (by repeat (first | (with_reducible first | exact HB.out | apply below_alloc | apply pw_below_drewN | apply below_drew1) | exact HB.out)))); (case aL => have := LMc14.out; omega); intro v105 w15 ho hb hg hat; rw [← Ny104.out] at ho; have n0_ := Aside0.mk (hb); have n1_ := Aside0.mk (ho); clear HB; clear HO_3; have HB := n0_; have HO106 := n1_; clear n0_ n1_; clear ho hb hg hat))
                        go_roundg k3
                        case measure => have := HK1.out; have := HK2.out; have := HK3.out; omega
                        case rel => exact ⟨(y104), (wrap64 (x14_2 + 1)), (by first | rfl | (simp; done) | (simp [*]; done)), H', ⟨by have := HK1.out; have := HK2.out; have := HK3.out; omega⟩, ⟨by (with_reducible repeat (first | apply Kd.R_alloc | apply Kd.R_drewN | apply Kd.R_drew)); exact HO106.out⟩, ⟨by repeat (first | (with_reducible first | exact HB.out | apply below_alloc | apply pw_below_drewN | apply below_drew1) | exact HB.out)⟩⟩
                      · rw [if_neg c14] at H
                        exact absurd H (by simp)
                    · replace c13 := Bool.eq_false_iff.mpr c13
                      subst c13
                      have H1 : (impl_fitting.l1 k3 a0 x3_2 x4_1 x4_1 (wrap64 (x14_2 + 1))) = some r := by rw [if_neg (show ¬ (false = true) by decide)] at H; exact H
                      clear H
                      have H := H1
                      clear H1
                      have H' := Aside0.mk H
                      clear H
                      go_wp2
                      go_roundg k3
                      case measure => have := HK1.out; have := HK2.out; have := HK3.out; omega
                      case rel => exact ⟨(x3_2), (wrap64 (x14_2 + 1)), (by first | rfl | (simp; done) | (simp [*]; done)), H', ⟨by have := HK1.out; have := HK2.out; have := HK3.out; omega⟩, ⟨by (with_reducible repeat (first | apply Kd.R_alloc | apply Kd.R_drewN | apply Kd.R_drew)); exact HO_3.out⟩, ⟨by repeat (first | (with_reducible first | exact HB.out | apply below_alloc | apply pw_below_drewN | apply below_drew1) | exact HB.out)⟩⟩
            · rw [if_neg c5] at H
              have c5b0 : decide (x14_2 < x4_1) = false := decide_eq_false c5
              clear c5
              have H' := Aside0.mk H
              clear H
              go_wp2
              go_roundg k2
              case measure => have := HK1.out; have := HK2.out; omega
              case rel => exact ⟨(x3_2), (wrap64 (x4_1 + 1)), (by first | rfl | (simp; done) | (simp [*]; done)), H', ⟨by have := HK1.out; have := HK2.out; omega⟩, ⟨by (with_reducible repeat (first | apply Kd.R_alloc | apply Kd.R_drewN | apply Kd.R_drew)); exact HO_3.out⟩, ⟨by repeat (first | (with_reducible first | exact HB.out | apply below_alloc | apply pw_below_drewN | apply below_drew1) | exact HB.out)⟩⟩
      · rw [if_neg c4] at H
        have c4b0 : decide (x4_1 ≤ 10) = false := decide_eq_false c4
        clear c4
        obtain rfl := Option.some.inj H
        go_wp2
        go_ret
        exact ⟨_, by first | rfl | (simp [errW_none, errW_some] <;> rfl) | (simp [*, errW_none, errW_some] <;> rfl), by (with_reducible repeat (first | apply Kd.R_alloc | apply Kd.R_drewN | apply Kd.R_drew)); exact HO_3.out, by repeat (first | (with_reducible first | exact HB.out | apply below_alloc | apply pw_below_drewN | apply below_drew1) | exact HB.out)⟩
end Go.Proofs.YtkloiiojigofpaaDoor.P
namespace Go.Proofs.YtkloiiojigofpaaDoor.P
open Go.RowKit Go.Proofs.YtkloiiojigofpaaDoorW.PrintWords Go.Proofs.YtkloiiojigofpaaDoorW.PrintLast Go.Proofs.YtkloiiojigofpaaDoorW.PrintMore
attribute [local go_sem] max2_int min2_int max_two min_two max_three min_three max_four min_four
set_option linter.unusedVariables false
set_option linter.unusedSimpArgs false
def impl_mod.f (a0 : Int) (a1 : Int) : Option (Int) := if a1 = 0 then (none) else (some (Int.tmod (wrap64 ((Int.tmod a0 a1) + a1)) a1))
set_option maxHeartbeats 8000000 in
set_option maxRecDepth 100000 in
theorem impl_mod.calls (a0 : Int) (a1 : Int) (r : Int) (w : World) (h : impl_mod.f a0 a1 = some r) :
    Calls Tryd.prog 104 #[.int .i64 a0, .int .i64 a1] w fun e w' => e = .returned (.int .i64 r) ∧ Drawn0 w w' := by
  have H : (if a1 = 0 then (none) else (some (Int.tmod (wrap64 ((Int.tmod a0 a1) + a1)) a1))) = some r := h
  clear h
  by_cases c3 : a1 = 0
  · rw [if_pos c3] at H
    exact absurd H (by simp)
  · rw [if_neg c3] at H
    have c3b0 : (a1 == 0) = false := beq_eq_false_iff_ne.mpr c3
    have c3b1 : (a1 != 0) = true := bne_iff_ne.mpr c3
    obtain rfl := Option.some.inj H
    go_enter Tryd.func104, Tryd.ntmps104
    go_wp2
    go_ret
    exact ⟨by first | rfl | (simp; done) | (simp [*]; done), by repeat (first | exact Drawn0.refl _ | apply Drawn0.step)⟩
end Go.Proofs.YtkloiiojigofpaaDoor.P
namespace Go.Proofs.YtkloiiojigofpaaDoor.P
open Go.RowKit Go.Proofs.YtkloiiojigofpaaDoorW.PrintWords Go.Proofs.YtkloiiojigofpaaDoorW.PrintLast Go.Proofs.YtkloiiojigofpaaDoorW.PrintMore
attribute [local go_sem] max2_int min2_int max_two min_two max_three min_three max_four min_four
set_option linter.unusedVariables false
set_option linter.unusedSimpArgs false
theorem firstIx_any (p : SRule → Bool) : ∀ (l : List SRule) (i : Int), 0 ≤ i → decide (0 ≤ firstIx p l i) = l.any p
  | [], _, _ => by simp [firstIx]
  | x :: l, i, hi => by
    rw [firstIx, List.any_cons]
    cases hx : p x with
    | true => simp [hi]
    | false => simpa using firstIx_any p l (i + 1) (by omega)
set_option maxHeartbeats 2000000 in
set_option maxRecDepth 100000 in
theorem cof_calls (p : SRule → Bool) (g : Nat) (lb : Array Value) (eg : ∀ args w, (callFunc g args).run Tryd.prog w = .ok (.enter g args) w)
    (A0 : Option Addr) (c0 : Nat) (l0 : List SRule) (w : World) (hp : PredR g lb p l0 w) (hr0 : Kd.C kRule w A0 l0.length l0) :
    Calls Tryd.prog 78 #[.slice A0 l0.length c0, .func (.func g) #[] lb] w fun e w' => e = .returned (.bool (l0.any p)) ∧ Below w.heap.size w w' := by
  rw [← firstIx_any p l0 0 (by omega)]
  have hcall := ixf_calls p g lb eg A0 c0 l0 w hp hr0
  go_enter Tryd.func78, Tryd.ntmps78
  go_wp2_with (go_at_call 65; refine hcall.mono ?_; rintro e w' ⟨rfl, hb'⟩)
  go_ret
  exact ⟨rfl, hb'⟩
end Go.Proofs.YtkloiiojigofpaaDoor.P
namespace Go.Proofs.YtkloiiojigofpaaDoor.P
open Go.RowKit Go.Proofs.YtkloiiojigofpaaDoorW.PrintWords Go.Proofs.YtkloiiojigofpaaDoorW.PrintLast Go.Proofs.YtkloiiojigofpaaDoorW.PrintMore
attribute [local go_sem] max2_int min2_int max_two min_two max_three min_three max_four min_four
set_option linter.unusedVariables false
set_option linter.unusedSimpArgs false
def impl_isRule.f (a0_0 : Int) (a0_1 : Int) : Option (Bool) := if a0_0 ≥ 2 then (if a0_0 ≤ 60 then (if a0_1 ≥ 0 then (some (decide (a0_1 < a0_0))) else (some false)) else (some false)) else (some false)
set_option maxHeartbeats 8000000 in
set_option maxRecDepth 100000 in
theorem impl_isRule.calls (a0_0 : Int) (a0_1 : Int) (r : Bool) (w : World) (h : impl_isRule.f a0_0 a0_1 = some r) :
    Calls Tryd.prog 80 #[.agg #[.int .i64 a0_0, .int .i64 a0_1]] w fun e w' => e = .returned (.bool r) ∧ Below w.heap.size w w' := by
  have hu54 := Tryd.underlying54
  have HB := Aside0.mk (Below.refl w.heap.size w)
  have H : (if a0_0 ≥ 2 then (if a0_0 ≤ 60 then (if a0_1 ≥ 0 then (some (decide (a0_1 < a0_0))) else (some false)) else (some false)) else (some false)) = some r := h
  clear h
  by_cases c2 : a0_0 ≥ 2
  · rw [if_pos c2] at H
    have c2b0 : decide (2 ≤ a0_0) = true := decide_eq_true c2
    clear c2
    by_cases c3 : a0_0 ≤ 60
    · rw [if_pos c3] at H
      have c3b0 : decide (a0_0 ≤ 60) = true := decide_eq_true c3
      clear c3
      by_cases c4 : a0_1 ≥ 0
      · rw [if_pos c4] at H
        have c4b0 : decide (0 ≤ a0_1) = true := decide_eq_true c4
        clear c4
        obtain rfl := Option.some.inj H
        go_enter Tryd.func80, Tryd.ntmps80
        go_wp2_with (first | ((with_reducible refine gate_dst (N := 1) rfl ?_); refine box_event ?hg (N := 1) ?hd (cs := #[.int .i64 a0_0, .int .i64 a0_1]) (t := 54) ?hr ?_; (case hd => rfl); (case hg => rfl); (case hr => first | (go_simp; done) | (go_simp; rfl)); intro gb101 hg w5 hbox hb; have n0_ := Aside0.mk (below_step (by repeat (first | (with_reducible first | exact HB.out | apply below_alloc | apply pw_below_drewN | apply below_drew1) | exact HB.out)) hb); have n1_ := Aside0.mk (hbox); have n2_ := Aside0.mk ((by rw [hg]; exact (below_size (by repeat (first | (with_reducible first | exact HB.out | apply below_alloc | apply pw_below_drewN | apply below_drew1) | exact HB.out))) : w.heap.size ≤ gb101)); have n3_ := Aside0.mk ((by rw [hg]; exact (below_size (by repeat (first | (with_reducible first | exact HB.out | apply below_alloc | apply pw_below_drewN | apply below_drew1) | exact HB.out))) : w.heap.size ≤ gb101)); clear HB; have HB := n0_; have BK101 := n1_; have GW101 := n2_; have GE101 := n3_; clear n0_ n1_ n2_ n3_; clear hb hbox hg; have hcz6_0 : w5.cell? ⟨gb101, 0, none⟩ = some (.int .i64 a0_0) := (blk_cell BK101.out 0).trans rfl; have hcz6_1 : w5.cell? ⟨gb101, 1, none⟩ = some (.int .i64 a0_1) := (blk_cell BK101.out 1).trans rfl; have hfz6_0 := blk_frozen BK101.out 0; have hfz6_1 := blk_frozen BK101.out 1))
        go_ret
        exact ⟨by first | rfl | (simp [errW_none, errW_some] <;> rfl) | (simp [*, errW_none, errW_some] <;> rfl), by repeat (first | (with_reducible first | exact HB.out | apply below_alloc | apply pw_below_drewN | apply below_drew1 | refine below_set ?_ GE101.out) | exact HB.out)⟩
      · rw [if_neg c4] at H
        have c4b0 : decide (0 ≤ a0_1) = false := decide_eq_false c4
        clear c4
        obtain rfl := Option.some.inj H
        go_enter Tryd.func80, Tryd.ntmps80
        go_wp2_with (first | ((with_reducible refine gate_dst (N := 1) rfl ?_); refine box_event ?hg (N := 1) ?hd (cs := #[.int .i64 a0_0, .int .i64 a0_1]) (t := 54) ?hr ?_; (case hd => rfl); (case hg => rfl); (case hr => first | (go_simp; done) | (go_simp; rfl)); intro gb101 hg w7 hbox hb; have n0_ := Aside0.mk (below_step (by repeat (first | (with_reducible first | exact HB.out | apply below_alloc | apply pw_below_drewN | apply below_drew1) | exact HB.out)) hb); have n1_ := Aside0.mk (hbox); have n2_ := Aside0.mk ((by rw [hg]; exact (below_size (by repeat (first | (with_reducible first | exact HB.out | apply below_alloc | apply pw_below_drewN | apply below_drew1) | exact HB.out))) : w.heap.size ≤ gb101)); have n3_ := Aside0.mk ((by rw [hg]; exact (below_size (by repeat (first | (with_reducible first | exact HB.out | apply below_alloc | apply pw_below_drewN | apply below_drew1) | exact HB.out))) : w.heap.size ≤ gb101)); clear HB; have HB := n0_; have BK101 := n1_; have GW101 := n2_; have GE101 := n3_; clear n0_ n1_ n2_ n3_; clear hb hbox hg; have hcz8_0 : w7.cell? ⟨gb101, 0, none⟩ = some (.int .i64 a0_0) := (blk_cell BK101.out 0).trans rfl; have hcz8_1 : w7.cell? ⟨gb101, 1, none⟩ = some (.int .i64 a0_1) := (blk_cell BK101.out 1).trans rfl; have hfz8_0 := blk_frozen BK101.out 0; have hfz8_1 := blk_frozen BK101.out 1))
        go_ret
        exact ⟨by first | rfl | (simp [errW_none, errW_some] <;> rfl) | (simp [*, errW_none, errW_some] <;> rfl), by repeat (first | (with_reducible first | exact HB.out | apply below_alloc | apply pw_below_drewN | apply below_drew1 | refine below_set ?_ GE101.out) | exact HB.out)⟩
    · rw [if_neg c3] at H
      have c3b0 : decide (a0_0 ≤ 60) = false := decide_eq_false c3
      clear c3
      obtain rfl := Option.some.inj H
      go_enter Tryd.func80, Tryd.ntmps80
      go_wp2_with (first | ((with_reducible refine gate_dst (N := 1) rfl ?_); refine box_event ?hg (N := 1) ?hd (cs := #[.int .i64 a0_0, .int .i64 a0_1]) (t := 54) ?hr ?_; (case hd => rfl); (case hg => rfl); (case hr => first | (go_simp; done) | (go_simp; rfl)); intro gb101 hg w9 hbox hb; have n0_ := Aside0.mk (below_step (by repeat (first | (with_reducible first | exact HB.out | apply below_alloc | apply pw_below_drewN | apply below_drew1) | exact HB.out)) hb); have n1_ := Aside0.mk (hbox); have n2_ := Aside0.mk ((by rw [hg]; exact (below_size (by repeat (first | (with_reducible first | exact HB.out | apply below_alloc | apply pw_below_drewN | apply below_drew1) | exact HB.out))) : w.heap.size ≤ gb101)); have n3_ := Aside0.mk ((by rw [hg]; exact (below_size (by repeat (first | (with_reducible first | exact HB.out | apply below_alloc | apply pw_below_drewN | apply below_drew1) | exact HB.out))) : w.heap.size ≤ gb101)); clear HB; have HB := n0_; have BK101 := n1_; have GW101 := n2_; have GE101 := n3_; clear n0_ n1_ n2_ n3_; clear hb hbox hg; have hcz10_0 : w9.cell? ⟨gb101, 0, none⟩ = some (.int .i64 a0_0) := (blk_cell BK101.out 0).trans rfl; have hcz10_1 : w9.cell? ⟨gb101, 1, none⟩ = some (.int .i64 a0_1) := (blk_cell BK101.out 1).trans rfl; have hfz10_0 := blk_frozen BK101.out 0; have hfz10_1 := blk_frozen BK101.out 1))
      go_ret
      exact ⟨by first | rfl | (simp [errW_none, errW_some] <;> rfl) | (simp [*, errW_none, errW_some] <;> rfl), by repeat (first | (with_reducible first | exact HB.out | apply below_alloc | apply pw_below_drewN | apply below_drew1 | refine below_set ?_ GE101.out) | exact HB.out)⟩
  · rw [if_neg c2] at H
    have c2b0 : decide (2 ≤ a0_0) = false := decide_eq_false c2
    clear c2
    obtain rfl := Option.some.inj H
    go_enter Tryd.func80, Tryd.ntmps80
    go_wp2_with (first | ((with_reducible refine gate_dst (N := 1) rfl ?_); refine box_event ?hg (N := 1) ?hd (cs := #[.int .i64 a0_0, .int .i64 a0_1]) (t := 54) ?hr ?_; (case hd => rfl); (case hg => rfl); (case hr => first | (go_simp; done) | (go_simp; rfl)); intro gb101 hg w11 hbox hb; have n0_ := Aside0.mk (below_step (by repeat (first | (with_reducible first | exact HB.out | apply below_alloc | apply pw_below_drewN | apply below_drew1) | exact HB.out)) hb); have n1_ := Aside0.mk (hbox); have n2_ := Aside0.mk ((by rw [hg]; exact (below_size (by repeat (first | (with_reducible first | exact HB.out | apply below_alloc | apply pw_below_drewN | apply below_drew1) | exact HB.out))) : w.heap.size ≤ gb101)); have n3_ := Aside0.mk ((by rw [hg]; exact (below_size (by repeat (first | (with_reducible first | exact HB.out | apply below_alloc | apply pw_below_drewN | apply below_drew1) | exact HB.out))) : w.heap.size ≤ gb101)); clear HB; have HB := n0_; have BK101 := n1_; have GW101 := n2_; have GE101 := n3_; clear n0_ n1_ n2_ n3_; clear hb hbox hg; have hcz12_0 : w11.cell? ⟨gb101, 0, none⟩ = some (.int .i64 a0_0) := (blk_cell BK101.out 0).trans rfl; have hcz12_1 : w11.cell? ⟨gb101, 1, none⟩ = some (.int .i64 a0_1) := (blk_cell BK101.out 1).trans rfl; have hfz12_0 := blk_frozen BK101.out 0; have hfz12_1 := blk_frozen BK101.out 1))
    go_ret
    exact ⟨by first | rfl | (simp [errW_none, errW_some] <;> rfl) | (simp [*, errW_none, errW_some] <;> rfl), by repeat (first | (with_reducible first | exact HB.out | apply below_alloc | apply pw_below_drewN | apply below_drew1 | refine below_set ?_ GE101.out) | exact HB.out)⟩
end Go.Proofs.YtkloiiojigofpaaDoor.P
namespace Go.Proofs.YtkloiiojigofpaaDoor.P
open Go.RowKit Go.Proofs.YtkloiiojigofpaaDoorW.PrintWords Go.Proofs.YtkloiiojigofpaaDoorW.PrintLast Go.Proofs.YtkloiiojigofpaaDoorW.PrintMore
attribute [local go_sem] max2_int min2_int max_two min_two max_three min_three max_four min_four
set_option linter.unusedVariables false
set_option linter.unusedSimpArgs false
def impl_areRules_1.f (a0_0 : Int) (a0_1 : Int) : Option (Bool) := (impl_isRule.f a0_0 a0_1).bind fun t102 => (some (!t102))
set_option maxHeartbeats 8000000 in
set_option maxRecDepth 100000 in
theorem impl_areRules_1.calls (a0_0 : Int) (a0_1 : Int) (r : Bool) (w : World) (h : impl_areRules_1.f a0_0 a0_1 = some r) :
    Calls Tryd.prog 79 #[.agg #[.int .i64 a0_0, .int .i64 a0_1]] w fun e w' => e = .returned (.bool r) ∧ Below w.heap.size w w' := by
  have hu54 := Tryd.underlying54
  have HB := Aside0.mk (Below.refl w.heap.size w)
  have H : ((impl_isRule.f a0_0 a0_1).bind fun t102 => (some (!t102))) = some r := h
  clear h
  replace H := Option.bind_eq_some_iff.mp H
  obtain ⟨t102, A20, H⟩ := H
  replace H : (some (!t102)) = some r := H
  have A2 := Aside0.mk A20
  clear A20
  obtain rfl := Option.some.inj H
  go_enter Tryd.func79, Tryd.ntmps79
  go_wp2_with (first | ((with_reducible refine gate_dst (N := 1) rfl ?_); refine box_event ?hg (N := 1) ?hd (cs := #[.int .i64 a0_0, .int .i64 a0_1]) (t := 54) ?hr ?_; (case hd => rfl); (case hg => rfl); (case hr => first | (go_simp; done) | (go_simp; rfl)); intro gb101 hg w3 hbox hb; have n0_ := Aside0.mk (below_step (by repeat (first | (with_reducible first | exact HB.out | apply below_alloc | apply pw_below_drewN | apply below_drew1) | exact HB.out)) hb); have n1_ := Aside0.mk (hbox); have n2_ := Aside0.mk ((by rw [hg]; exact (below_size (by repeat (first | (with_reducible first | exact HB.out | apply below_alloc | apply pw_below_drewN | apply below_drew1) | exact HB.out))) : w.heap.size ≤ gb101)); have n3_ := Aside0.mk ((by rw [hg]; exact (below_size (by repeat (first | (with_reducible first | exact HB.out | apply below_alloc | apply pw_below_drewN | apply below_drew1) | exact HB.out))) : w.heap.size ≤ gb101)); clear HB; have HB := n0_; have BK101 := n1_; have GW101 := n2_; have GE101 := n3_; clear n0_ n1_ n2_ n3_; clear hb hbox hg; have hcz4_0 : w3.cell? ⟨gb101, 0, none⟩ = some (.int .i64 a0_0) := (blk_cell BK101.out 0).trans rfl; have hcz4_1 : w3.cell? ⟨gb101, 1, none⟩ = some (.int .i64 a0_1) := (blk_cell BK101.out 1).trans rfl; have hfz4_0 := blk_frozen BK101.out 0; have hfz4_1 := blk_frozen BK101.out 1) | ((with_reducible refine gate_callee (f := 80) rfl ?_); refine goesL_ (some 4) rfl rfl Tryd.func80 (by kernel_rfl) rfl #[.agg #[.int .i64 a0_0, .int .i64 a0_1]] rfl (by (try simp only [List.map_toArray, List.map_cons, List.map_nil]); first | done | rfl | (simp only [List.length_drop, List.length_take]; rfl)) ?_; (with_reducible refine (impl_isRule.calls a0_0 a0_1 t102 _ A2.out).mono ?_); rintro e w5 ⟨rfl, hb⟩; refine ⟨_, rfl, ?_⟩; have n0_ := Aside0.mk (blk_below (g := gb101) (o := .cells #[.int .i64 a0_0, .int .i64 a0_1] 54 (0, 0)) (by (with_reducible repeat (first | refine blk_drewN ?_ _ | refine blk_drew ?_ | refine blk_alloc ?_ _)); exact BK101.out) hb); have n1_ := Aside0.mk (below_step (by repeat (first | (with_reducible first | exact HB.out | apply below_alloc | apply pw_below_drewN | apply below_drew1 | refine below_set ?_ GE101.out) | exact HB.out)) hb); clear BK101; clear HB; have BK101 := n0_; have HB := n1_; clear n0_ n1_; (try clear hb); (try clear hb2); (try clear hk); (try clear hi)))
  go_ret
  exact ⟨by first | rfl | (simp [errW_none, errW_some] <;> rfl) | (simp [*, errW_none, errW_some] <;> rfl), by repeat (first | (with_reducible first | exact HB.out | apply below_alloc | apply pw_below_drewN | apply below_drew1 | refine below_set ?_ GE101.out) | exact HB.out)⟩
end Go.Proofs.YtkloiiojigofpaaDoor.P
namespace Go.Proofs.YtkloiiojigofpaaDoor.P
open Go.RowKit Go.Proofs.YtkloiiojigofpaaDoorW.PrintWords Go.Proofs.YtkloiiojigofpaaDoorW.PrintLast Go.Proofs.YtkloiiojigofpaaDoorW.PrintMore
attribute [local go_sem] max2_int min2_int max_two min_two max_three min_three max_four min_four
set_option linter.unusedVariables false
set_option linter.unusedSimpArgs false
def okRule (x : SRule) : Bool := decide (2 ≤ x.f0) && (decide (x.f0 ≤ 60) && (decide (0 ≤ x.f1) && decide (x.f1 < x.f0)))
theorem isRule_ok (x : SRule) : impl_isRule.f x.f0 x.f1 = some (okRule x) := by
  unfold impl_isRule.f okRule
  simp only [ge_iff_le]
  by_cases h1 : 2 ≤ x.f0
  · by_cases h2 : x.f0 ≤ 60
    · by_cases h3 : 0 ≤ x.f1 <;> simp [h1, h2, h3]
    · simp [h1, h2]
  · simp [h1]
theorem all_ok_any : ∀ l : List SRule, l.all okRule = !(l.any fun x => !okRule x)
  | [] => rfl
  | x :: l => by rw [List.all_cons, List.any_cons, all_ok_any l]; cases okRule x <;> simp
theorem areRules_1_ok (x : SRule) : impl_areRules_1.f x.f0 x.f1 = some (!okRule x) := by
  unfold impl_areRules_1.f
  rw [isRule_ok]
  cases okRule x <;> simp
def impl_areRules.f (l0 : List (SRule)) : Option (Bool) := some (decide (l0.length ≤ 12) && l0.all okRule)
set_option maxHeartbeats 2000000 in
set_option maxRecDepth 100000 in
theorem impl_areRules.calls (A0 : Option Addr) (c0 : Nat) (l0 : List (SRule)) (r : Bool) (w : World) (hr0 : Kd.C kRule w A0 l0.length l0) (hc0 : l0.length ≤ c0) (h : impl_areRules.f l0 = some r) :
    Calls Tryd.prog 62 #[.slice A0 l0.length c0] w fun e w' => e = .returned (.bool r) ∧ Below w.heap.size w w' := by
  obtain rfl := Option.some.inj h
  clear h
  have hcall := fun (W : World) (hb : Below w.heap.size w W) => cof_calls (fun x => !okRule x) 79 #[] (enters_of Tryd.func79 (by kernel_rfl) rfl) A0 c0 l0 W
    (fun W' x _ hb' => (impl_areRules_1.calls x.f0 x.f1 _ W' (areRules_1_ok x)).mono fun e w' ⟨he, hb2⟩ => ⟨he, hb'.trans (hb2.mono hb'.size)⟩) (Kd.C_below hr0 hb)
  have HC := Aside0.mk hcall
  have hb0 := Below.refl w.heap.size w
  clear hcall hr0
  by_cases c2 : l0.length ≤ 12
  · have d1 : decide (l0.length ≤ 12) = true := decide_eq_true c2
    have d2 : decide ((l0.length : Int) ≤ 12) = true := decide_eq_true (by omega)
    rw [d1, Bool.true_and, all_ok_any]
    clear c2
    go_enter Tryd.func62, Tryd.ntmps62
    go_wp2_with (go_at_call 78; refine (HC.out _ hb0).mono ?_; rintro e w' ⟨rfl, hb'⟩)
    go_ret
    exact ⟨rfl, hb'⟩
  · have d1 : decide (l0.length ≤ 12) = false := decide_eq_false c2
    have d2 : decide ((l0.length : Int) ≤ 12) = false := decide_eq_false (by omega)
    rw [d1, Bool.false_and]
    go_enter Tryd.func62, Tryd.ntmps62
    go_wp2
    go_ret
    exact ⟨rfl, hb0⟩
end Go.Proofs.YtkloiiojigofpaaDoor.P
namespace Go.Proofs.YtkloiiojigofpaaDoor.P
open Go.RowKit Go.Proofs.YtkloiiojigofpaaDoorW.PrintWords Go.Proofs.YtkloiiojigofpaaDoorW.PrintLast Go.Proofs.YtkloiiojigofpaaDoorW.PrintMore
attribute [local go_sem] max2_int min2_int max_two min_two max_three min_three max_four min_four
set_option linter.unusedVariables false
set_option linter.unusedSimpArgs false
def crosses (n : Int) (x : SRule) : Bool := n % x.f0 == x.f1
theorem mod_ok (n b : Int) (h1 : 2 ≤ b) (h2 : b ≤ 60) : impl_mod.f n b = some (n % b) := by
  unfold impl_mod.f
  rw [if_neg (by omega)]
  have a1 := Int.tmod_lt_of_pos n (b := b) (by omega)
  have a2 := Int.lt_tmod_of_pos n (b := b) (by omega)
  rw [show wrap64 (Int.tmod n b + b) = Int.tmod n b + b by unfold wrap64; omega]
  rw [Int.tmod_eq_emod_of_nonneg (by omega : 0 ≤ Int.tmod n b + b), Int.add_emod_right]
  congr 1
  rw [Int.tmod_eq_emod]
  split
  · simp
  · rw [Int.sub_emod, Int.emod_emod_of_dvd _ (Int.dvd_refl _)]
    have : ((b.natAbs : Int)) % b = 0 := by rw [show (b.natAbs : Int) = b by omega]; exact Int.emod_self
    rw [this]; simp
def impl_firstRule.f (l0 : List (SRule)) (a1 : Int) : Option (Int) := if l0.all okRule = true then some (firstIx (crosses a1) l0 0) else none
set_option maxHeartbeats 2000000 in
set_option maxRecDepth 100000 in
theorem firstRule_1_calls (n : Int) (B : Nat) (x : SRule) (W : World) (hx : okRule x = true) (hB : B < W.heap.size) (hn : W.cell? ⟨B, 0, none⟩ = some (.int .i64 n)) :
    Calls Tryd.prog 103 #[.agg #[.int .i64 x.f0, .int .i64 x.f1], .pointer (some ⟨B, 0, none⟩)] W fun e w' => e = .returned (.bool (crosses n x)) ∧ Below W.heap.size W w' := by
  have hu := Tryd.underlying54
  have h1 : 2 ≤ x.f0 ∧ x.f0 ≤ 60 := by unfold okRule at hx; simp at hx; omega
  have HM := Aside0.mk (fun W => impl_mod.calls n x.f0 _ W (mod_ok n x.f0 h1.1 h1.2))
  clear hx h1
  unfold crosses
  go_enter Tryd.func103, Tryd.ntmps103
  go_wp2
  go_quiet ((go_at_call 104; exact Calls.quiet_of ((HM.out _).mono (fun e w' h => ⟨h.1, h.2.out⟩))))
  go_wp2
  go_ret
  exact ⟨rfl, pw_below_drewN (below_alloc (Below.refl _ _) _) _⟩
set_option maxHeartbeats 2000000 in
set_option maxRecDepth 100000 in
theorem impl_firstRule.calls (A0 : Option Addr) (c0 : Nat) (l0 : List (SRule)) (a1 : Int) (r : Int) (w : World) (hr0 : Kd.C kRule w A0 l0.length l0) (hc0 : l0.length ≤ c0) (h : impl_firstRule.f l0 a1 = some r) :
    Calls Tryd.prog 87 #[.slice A0 l0.length c0, .int .i64 a1] w fun e w' => e = .returned (.int .i64 r) ∧ Below w.heap.size w w' := by
  unfold impl_firstRule.f at h
  by_cases hl : l0.all okRule = true
  · rw [if_pos hl] at h
    obtain rfl := Option.some.inj h
    clear h
    have hb := below_alloc (Below.refl w.heap.size w) (.cells #[.int .i64 a1] 3 (0, 0))
    have hcall := ixf_calls (crosses a1) 103 #[.pointer (some ⟨w.heap.size, 0, none⟩)] (enters_of Tryd.func103 (by kernel_rfl) rfl) A0 c0 l0 (w.alloc (.cells #[.int .i64 a1] 3 (0, 0)))
      (fun W' x hx hb' => (firstRule_1_calls a1 w.heap.size x W' (List.all_eq_true.mp hl x hx) (by have := hb'.size; simp at this; omega) ((hb'.cell (p := ⟨w.heap.size, 0, none⟩) (by simp)).trans (by simp))).mono fun e w' ⟨he, hb2⟩ => ⟨he, hb'.trans (hb2.mono hb'.size)⟩) (Kd.C_below hr0 hb)
    have HC := Aside0.mk hcall
    have HB := Aside0.mk hb
    clear hcall hr0 hl hb
    go_enter Tryd.func87, Tryd.ntmps87
    go_wp2_with (go_at_call 65; refine HC.out.mono ?_; rintro e w' ⟨rfl, hb'⟩)
    go_ret
    exact ⟨rfl, HB.out.trans (hb'.mono HB.out.size)⟩
  · rw [if_neg hl] at h
    exact absurd h (by simp)
end Go.Proofs.YtkloiiojigofpaaDoor.P
namespace Go.Proofs.YtkloiiojigofpaaDoor.P
open Go.RowKit Go.Proofs.YtkloiiojigofpaaDoorW.PrintWords Go.Proofs.YtkloiiojigofpaaDoorW.PrintLast Go.Proofs.YtkloiiojigofpaaDoorW.PrintMore
attribute [local go_sem] max2_int min2_int max_two min_two max_three min_three max_four min_four
set_option linter.unusedVariables false
set_option linter.unusedSimpArgs false
def impl_isLeft.f (l0 : List (SRule)) (a1 : Int) : Option (Bool) := (impl_firstRule.f l0 a1).bind fun t101 => (some (decide (t101 < 0)))
set_option maxHeartbeats 8000000 in
set_option maxRecDepth 100000 in
theorem impl_isLeft.calls (A0 : Option Addr) (c0 : Nat) (l0 : List (SRule)) (a1 : Int) (r : Bool) (w : World) (hr0 : Kd.C kRule w A0 l0.length l0) (hc0 : l0.length ≤ c0) (h : impl_isLeft.f l0 a1 = some r) :
    Calls Tryd.prog 71 #[.slice A0 l0.length c0, .int .i64 a1] w fun e w' => e = .returned (.bool r) ∧ Below w.heap.size w w' := by
  have HR0 := Aside0.mk hr0
  have HC0 := Aside0.mk hc0
  clear hr0 hc0
  have HB := Aside0.mk (Below.refl w.heap.size w)
  have H : ((impl_firstRule.f l0 a1).bind fun t101 => (some (decide (t101 < 0)))) = some r := h
  clear h
  replace H := Option.bind_eq_some_iff.mp H
  obtain ⟨t101, A30, H⟩ := H
  replace H : (some (decide (t101 < 0))) = some r := H
  have A3 := Aside0.mk A30
  clear A30
  obtain rfl := Option.some.inj H
  go_enter Tryd.func71, Tryd.ntmps71
  go_wp2_with (first | ((with_reducible refine gate_callee (f := 87) rfl ?_); refine goesL_ (some 7) rfl rfl Tryd.func87 (by kernel_rfl) rfl #[.slice A0 l0.length c0, .int .i64 a1] rfl (by (try simp only [List.map_toArray, List.map_cons, List.map_nil]); first | done | rfl | (simp only [List.length_drop, List.length_take]; rfl)) ?_; (with_reducible refine (impl_firstRule.calls _ _ l0 a1 t101 _ ?side1 ?side2 A3.out).mono ?_); (case side1 => repeat (first | exact HR0.out | (with_reducible refine Kd.C_alloc ?_ _) | (with_reducible refine Kd.C_drewN ?_ _) | (with_reducible refine Kd.C_drew ?_))); (case side2 => exact HC0.out); rintro e w4 ⟨rfl, hb⟩; refine ⟨_, rfl, ?_⟩; have n0_ := Aside0.mk (below_step (by repeat (first | (with_reducible first | exact HB.out | apply below_alloc | apply pw_below_drewN | apply below_drew1) | exact HB.out)) hb); clear HB; have HB := n0_; clear n0_; (try clear hb); (try clear hb2); (try clear hk); (try clear hi)))
  go_ret
  exact ⟨by first | rfl | (simp [errW_none, errW_some] <;> rfl) | (simp [*, errW_none, errW_some] <;> rfl), by repeat (first | (with_reducible first | exact HB.out | apply below_alloc | apply pw_below_drewN | apply below_drew1) | exact HB.out)⟩
end Go.Proofs.YtkloiiojigofpaaDoor.P
