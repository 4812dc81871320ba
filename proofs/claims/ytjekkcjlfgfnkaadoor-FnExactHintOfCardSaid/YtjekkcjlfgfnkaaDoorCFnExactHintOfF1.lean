/- What functions of the program answer. Proved in this text: its theorems. Conditions: as each theorem states them. -/
import Derived.Test.YtjekkcjlfgfnkaaDoorCFnExactHintOfP
import Derived.Test.YtjekkcjlfgfnkaaDoorCFnExactHintOfF0
namespace Go.Proofs.YtjekkcjlfgfnkaaDoor.P
open Go.RowKit Go.Proofs.YtjekkcjlfgfnkaaDoorW.PrintWords Go.Proofs.YtjekkcjlfgfnkaaDoorW.PrintLast Go.Proofs.YtjekkcjlfgfnkaaDoorW.PrintMore
attribute [local go_sem] max2_int min2_int max_two min_two max_three min_three max_four min_four
set_option linter.unusedVariables false
set_option linter.unusedSimpArgs false
def spec_siLeft.f (k : Nat) (l0 : List (SRule)) (a1 : Int) : Option (Bool) := (spec_siFirst.f k l0 a1).bind fun t101 => (some (decide (t101 < 0)))
set_option maxHeartbeats 8000000 in
set_option maxRecDepth 100000 in
theorem spec_siLeft.calls (k : Nat) (A0 : Option Addr) (c0 : Nat) (l0 : List (SRule)) (a1 : Int) (r : Bool) (w : World) (hr0 : Kd.C kRule w A0 l0.length l0) (hc0 : l0.length ≤ c0) (h : spec_siLeft.f k l0 a1 = some r) :
    Calls Tryd.prog 69 #[.slice A0 l0.length c0, .int .i64 a1] w fun e w' => e = .returned (.bool r) ∧ Below w.heap.size w w' := by
  have HR0 := Aside0.mk hr0
  have HC0 := Aside0.mk hc0
  clear hr0 hc0
  have HB := Aside0.mk (Below.refl w.heap.size w)
  have H : ((spec_siFirst.f k l0 a1).bind fun t101 => (some (decide (t101 < 0)))) = some r := h
  clear h
  replace H := Option.bind_eq_some_iff.mp H
  obtain ⟨t101, A30, H⟩ := H
  replace H : (some (decide (t101 < 0))) = some r := H
  have A3 := Aside0.mk A30
  clear A30
  obtain rfl := Option.some.inj H
  go_enter Tryd.func69, Tryd.ntmps69
  go_wp2_with (first | ((with_reducible refine gate_callee (f := 83) rfl ?_); refine goesL_ (some 7) rfl rfl Tryd.func83 (by kernel_rfl) rfl #[.slice A0 l0.length c0, .int .i64 a1] rfl (by (try simp only [List.map_toArray, List.map_cons, List.map_nil]); first | done | rfl | (simp only [List.length_drop, List.length_take]; rfl)) ?_; (with_reducible refine (spec_siFirst.calls k _ _ l0 a1 t101 _ ?side1 ?side2 A3.out).mono ?_); (case side1 => repeat (first | exact HR0.out | (with_reducible refine Kd.C_alloc ?_ _) | (with_reducible refine Kd.C_drewN ?_ _) | (with_reducible refine Kd.C_drew ?_))); (case side2 => exact HC0.out); rintro e w4 ⟨rfl, hb⟩; refine ⟨_, rfl, ?_⟩; have n0_ := Aside0.mk (below_step (by repeat (first | (with_reducible first | exact HB.out | apply below_alloc | apply pw_below_drewN | apply below_drew1) | exact HB.out)) hb); clear HB; have HB := n0_; clear n0_; (try clear hb); (try clear hb2); (try clear hk); (try clear hi)))
  go_ret
  exact ⟨by first | rfl | (simp [errW_none, errW_some] <;> rfl) | (simp [*, errW_none, errW_some] <;> rfl), by repeat (first | (with_reducible first | exact HB.out | apply below_alloc | apply pw_below_drewN | apply below_drew1) | exact HB.out)⟩
end Go.Proofs.YtjekkcjlfgfnkaaDoor.P
namespace Go.Proofs.YtjekkcjlfgfnkaaDoor.P
open Go.RowKit Go.Proofs.YtjekkcjlfgfnkaaDoorW.PrintWords Go.Proofs.YtjekkcjlfgfnkaaDoorW.PrintLast Go.Proofs.YtjekkcjlfgfnkaaDoorW.PrintMore
attribute [local go_sem] max2_int min2_int max_two min_two max_three min_three max_four min_four
set_option linter.unusedVariables false
set_option linter.unusedSimpArgs false
theorem firstIx_any (p : SRule → Bool) : ∀ (l : List SRule) (i : Int), 0 ≤ i → decide (0 ≤ firstIx p l i) = l.any p
  | [], _, _ => by simp [firstIx]
  | x :: l, i, hi => by
    rw [firstIx, List.any_cons]
    cases hx : p x with
    | true => simp [hi]
    | false => simpa using firstIx_any p l (i + 1) (by omega)
set_option maxHeartbeats 2000000 in
set_option maxRecDepth 100000 in
theorem cof_calls (p : SRule → Bool) (g : Nat) (lb : Array Value) (eg : ∀ args w, (callFunc g args).run Tryd.prog w = .ok (.enter g args) w)
    (A0 : Option Addr) (c0 : Nat) (l0 : List SRule) (w : World) (hp : PredR g lb p l0 w) (hr0 : Kd.C kRule w A0 l0.length l0) :
    Calls Tryd.prog 70 #[.slice A0 l0.length c0, .func (.func g) #[] lb] w fun e w' => e = .returned (.bool (l0.any p)) ∧ Below w.heap.size w w' := by
  rw [← firstIx_any p l0 0 (by omega)]
  have hcall := ixf_calls p g lb eg A0 c0 l0 w hp hr0
  go_enter Tryd.func70, Tryd.ntmps70
  go_wp2_with (go_at_call 66; refine hcall.mono ?_; rintro e w' ⟨rfl, hb'⟩)
  go_ret
  exact ⟨rfl, hb'⟩
end Go.Proofs.YtjekkcjlfgfnkaaDoor.P
namespace Go.Proofs.YtjekkcjlfgfnkaaDoor.P
open Go.RowKit Go.Proofs.YtjekkcjlfgfnkaaDoorW.PrintWords Go.Proofs.YtjekkcjlfgfnkaaDoorW.PrintLast Go.Proofs.YtjekkcjlfgfnkaaDoorW.PrintMore
attribute [local go_sem] max2_int min2_int max_two min_two max_three min_three max_four min_four
set_option linter.unusedVariables false
set_option linter.unusedSimpArgs false
def impl_isRule.f (a0_0 : Int) (a0_1 : Int) : Option (Bool) := if a0_0 ≥ 2 then (if a0_0 ≤ 60 then (if a0_1 ≥ 0 then (some (decide (a0_1 < a0_0))) else (some false)) else (some false)) else (some false)
set_option maxHeartbeats 8000000 in
set_option maxRecDepth 100000 in
theorem impl_isRule.calls (a0_0 : Int) (a0_1 : Int) (r : Bool) (w : World) (h : impl_isRule.f a0_0 a0_1 = some r) :
    Calls Tryd.prog 72 #[.agg #[.int .i64 a0_0, .int .i64 a0_1]] w fun e w' => e = .returned (.bool r) ∧ Below w.heap.size w w' := by
  have hu41 := Tryd.underlying41
  have HB := Aside0.mk (Below.refl w.heap.size w)
  have H : (if a0_0 ≥ 2 then (if a0_0 ≤ 60 then (if a0_1 ≥ 0 then (some (decide (a0_1 < a0_0))) else (some false)) else (some false)) else (some false)) = some r := h
  clear h
  by_cases c2 : a0_0 ≥ 2
  · rw [if_pos c2] at H
    have c2b0 : decide (2 ≤ a0_0) = true := decide_eq_true c2
    clear c2
    by_cases c3 : a0_0 ≤ 60
    · rw [if_pos c3] at H
      have c3b0 : decide (a0_0 ≤ 60) = true := decide_eq_true c3
      clear c3
      by_cases c4 : a0_1 ≥ 0
      · rw [if_pos c4] at H
        have c4b0 : decide (0 ≤ a0_1) = true := decide_eq_true c4
        clear c4
        obtain rfl := Option.some.inj H
        go_enter Tryd.func72, Tryd.ntmps72
        go_wp2_with (first | ((with_reducible refine gate_dst (N := 1) rfl ?_); refine box_event ?hg (N := 1) ?hd (cs := #[.int .i64 a0_0, .int .i64 a0_1]) (t := 41) ?hr ?_; (case hd => rfl); (case hg => rfl); (case hr => first | (go_simp; done) | (go_simp; rfl)); intro gb101 hg w5 hbox hb; have n0_ := Aside0.mk (below_step (by repeat (first | (with_reducible first | exact HB.out | apply below_alloc | apply pw_below_drewN | apply below_drew1) | exact HB.out)) hb); have n1_ := Aside0.mk (hbox); have n2_ := Aside0.mk ((by rw [hg]; exact (below_size (by repeat (first | (with_reducible first | exact HB.out | apply below_alloc | apply pw_below_drewN | apply below_drew1) | exact HB.out))) : w.heap.size ≤ gb101)); have n3_ := Aside0.mk ((by rw [hg]; exact (below_size (by repeat (first | (with_reducible first | exact HB.out | apply below_alloc | apply pw_below_drewN | apply below_drew1) | exact HB.out))) : w.heap.size ≤ gb101)); clear HB; have HB := n0_; have BK101 := n1_; have GW101 := n2_; have GE101 := n3_; clear n0_ n1_ n2_ n3_; clear hb hbox hg; have hcz6_0 : w5.cell? ⟨gb101, 0, none⟩ = some (.int .i64 a0_0) := (blk_cell BK101.out 0).trans rfl; have hcz6_1 : w5.cell? ⟨gb101, 1, none⟩ = some (.int .i64 a0_1) := (blk_cell BK101.out 1).trans rfl; have hfz6_0 := blk_frozen BK101.out 0; have hfz6_1 := blk_frozen BK101.out 1))
        go_ret
        exact ⟨by first | rfl | (simp [errW_none, errW_some] <;> rfl) | (simp [*, errW_none, errW_some] <;> rfl), by repeat (first | (with_reducible first | exact HB.out | apply below_alloc | apply pw_below_drewN | apply below_drew1 | refine below_set ?_ GE101.out) | exact HB.out)⟩
      · rw [if_neg c4] at H
        have c4b0 : decide (0 ≤ a0_1) = false := decide_eq_false c4
        clear c4
        obtain rfl := Option.some.inj H
        go_enter Tryd.func72, Tryd.ntmps72
        go_wp2_with (first | ((with_reducible refine gate_dst (N := 1) rfl ?_); refine box_event ?hg (N := 1) ?hd (cs := #[.int .i64 a0_0, .int .i64 a0_1]) (t := 41) ?hr ?_; (case hd => rfl); (case hg => rfl); (case hr => first | (go_simp; done) | (go_simp; rfl)); intro gb101 hg w7 hbox hb; have n0_ := Aside0.mk (below_step (by repeat (first | (with_reducible first | exact HB.out | apply below_alloc | apply pw_below_drewN | apply below_drew1) | exact HB.out)) hb); have n1_ := Aside0.mk (hbox); have n2_ := Aside0.mk ((by rw [hg]; exact (below_size (by repeat (first | (with_reducible first | exact HB.out | apply below_alloc | apply pw_below_drewN | apply below_drew1) | exact HB.out))) : w.heap.size ≤ gb101)); have n3_ := Aside0.mk ((by rw [hg]; exact (below_size (by repeat (first | (with_reducible first | exact HB.out | apply below_alloc | apply pw_below_drewN | apply below_drew1) | exact HB.out))) : w.heap.size ≤ gb101)); clear HB; have HB := n0_; have BK101 := n1_; have GW101 := n2_; have GE101 := n3_; clear n0_ n1_ n2_ n3_; clear hb hbox hg; have hcz8_0 : w7.cell? ⟨gb101, 0, none⟩ = some (.int .i64 a0_0) := (blk_cell BK101.out 0).trans rfl; have hcz8_1 : w7.cell? ⟨gb101, 1, none⟩ = some (.int .i64 a0_1) := (blk_cell BK101.out 1).trans rfl; have hfz8_0 := blk_frozen BK101.out 0; have hfz8_1 := blk_frozen BK101.out 1))
        go_ret
        exact ⟨by first | rfl | (simp [errW_none, errW_some] <;> rfl) | (simp [*, errW_none, errW_some] <;> rfl), by repeat (first | (with_reducible first | exact HB.out | apply below_alloc | apply pw_below_drewN | apply below_drew1 | refine below_set ?_ GE101.out) | exact HB.out)⟩
    · rw [if_neg c3] at H
      have c3b0 : decide (a0_0 ≤ 60) = false := decide_eq_false c3
      clear c3
      obtain rfl := Option.some.inj H
      go_enter Tryd.func72, Tryd.ntmps72
      go_wp2_with (first | ((with_reducible refine gate_dst (N := 1) rfl ?_); refine box_event ?hg (N := 1) ?hd (cs := #[.int .i64 a0_0, .int .i64 a0_1]) (t := 41) ?hr ?_; (case hd => rfl); (case hg => rfl); (case hr => first | (go_simp; done) | (go_simp; rfl)); intro gb101 hg w9 hbox hb; have n0_ := Aside0.mk (below_step (by repeat (first | (with_reducible first | exact HB.out | apply below_alloc | apply pw_below_drewN | apply below_drew1) | exact HB.out)) hb); have n1_ := Aside0.mk (hbox); have n2_ := Aside0.mk ((by rw [hg]; exact (below_size (by repeat (first | (with_reducible first | exact HB.out | apply below_alloc | apply pw_below_drewN | apply below_drew1) | exact HB.out))) : w.heap.size ≤ gb101)); have n3_ := Aside0.mk ((by rw [hg]; exact (below_size (by repeat (first | (with_reducible first | exact HB.out | apply below_alloc | apply pw_below_drewN | apply below_drew1) | exact HB.out))) : w.heap.size ≤ gb101)); clear HB; have HB := n0_; have BK101 := n1_; have GW101 := n2_; have GE101 := n3_; clear n0_ n1_ n2_ n3_; clear hb hbox hg; have hcz10_0 : w9.cell? ⟨gb101, 0, none⟩ = some (.int .i64 a0_0) := (blk_cell BK101.out 0).trans rfl; have hcz10_1 : w9.cell? ⟨gb101, 1, none⟩ = some (.int .i64 a0_1) := (blk_cell BK101.out 1).trans rfl; have hfz10_0 := blk_frozen BK101.out 0; have hfz10_1 := blk_frozen BK101.out 1))
      go_ret
      exact ⟨by first | rfl | (simp [errW_none, errW_some] <;> rfl) | (simp [*, errW_none, errW_some] <;> rfl), by repeat (first | (with_reducible first | exact HB.out | apply below_alloc | apply pw_below_drewN | apply below_drew1 | refine below_set ?_ GE101.out) | exact HB.out)⟩
  · rw [if_neg c2] at H
    have c2b0 : decide (2 ≤ a0_0) = false := decide_eq_false c2
    clear c2
    obtain rfl := Option.some.inj H
    go_enter Tryd.func72, Tryd.ntmps72
    go_wp2_with (first | ((with_reducible refine gate_dst (N := 1) rfl ?_); refine box_event ?hg (N := 1) ?hd (cs := #[.int .i64 a0_0, .int .i64 a0_1]) (t := 41) ?hr ?_; (case hd => rfl); (case hg => rfl); (case hr => first | (go_simp; done) | (go_simp; rfl)); intro gb101 hg w11 hbox hb; have n0_ := Aside0.mk (below_step (by repeat (first | (with_reducible first | exact HB.out | apply below_alloc | apply pw_below_drewN | apply below_drew1) | exact HB.out)) hb); have n1_ := Aside0.mk (hbox); have n2_ := Aside0.mk ((by rw [hg]; exact (below_size (by repeat (first | (with_reducible first | exact HB.out | apply below_alloc | apply pw_below_drewN | apply below_drew1) | exact HB.out))) : w.heap.size ≤ gb101)); have n3_ := Aside0.mk ((by rw [hg]; exact (below_size (by repeat (first | (with_reducible first | exact HB.out | apply below_alloc | apply pw_below_drewN | apply below_drew1) | exact HB.out))) : w.heap.size ≤ gb101)); clear HB; have HB := n0_; have BK101 := n1_; have GW101 := n2_; have GE101 := n3_; clear n0_ n1_ n2_ n3_; clear hb hbox hg; have hcz12_0 : w11.cell? ⟨gb101, 0, none⟩ = some (.int .i64 a0_0) := (blk_cell BK101.out 0).trans rfl; have hcz12_1 : w11.cell? ⟨gb101, 1, none⟩ = some (.int .i64 a0_1) := (blk_cell BK101.out 1).trans rfl; have hfz12_0 := blk_frozen BK101.out 0; have hfz12_1 := blk_frozen BK101.out 1))
    go_ret
    exact ⟨by first | rfl | (simp [errW_none, errW_some] <;> rfl) | (simp [*, errW_none, errW_some] <;> rfl), by repeat (first | (with_reducible first | exact HB.out | apply below_alloc | apply pw_below_drewN | apply below_drew1 | refine below_set ?_ GE101.out) | exact HB.out)⟩
end Go.Proofs.YtjekkcjlfgfnkaaDoor.P
namespace Go.Proofs.YtjekkcjlfgfnkaaDoor.P
open Go.RowKit Go.Proofs.YtjekkcjlfgfnkaaDoorW.PrintWords Go.Proofs.YtjekkcjlfgfnkaaDoorW.PrintLast Go.Proofs.YtjekkcjlfgfnkaaDoorW.PrintMore
attribute [local go_sem] max2_int min2_int max_two min_two max_three min_three max_four min_four
set_option linter.unusedVariables false
set_option linter.unusedSimpArgs false
def impl_areRules_1.f (a0_0 : Int) (a0_1 : Int) : Option (Bool) := (impl_isRule.f a0_0 a0_1).bind fun t102 => (some (!t102))
set_option maxHeartbeats 8000000 in
set_option maxRecDepth 100000 in
theorem impl_areRules_1.calls (a0_0 : Int) (a0_1 : Int) (r : Bool) (w : World) (h : impl_areRules_1.f a0_0 a0_1 = some r) :
    Calls Tryd.prog 71 #[.agg #[.int .i64 a0_0, .int .i64 a0_1]] w fun e w' => e = .returned (.bool r) ∧ Below w.heap.size w w' := by
  have hu41 := Tryd.underlying41
  have HB := Aside0.mk (Below.refl w.heap.size w)
  have H : ((impl_isRule.f a0_0 a0_1).bind fun t102 => (some (!t102))) = some r := h
  clear h
  replace H := Option.bind_eq_some_iff.mp H
  obtain ⟨t102, A20, H⟩ := H
  replace H : (some (!t102)) = some r := H
  have A2 := Aside0.mk A20
  clear A20
  obtain rfl := Option.some.inj H
  go_enter Tryd.func71, Tryd.ntmps71
  go_wp2_with (first | ((with_reducible refine gate_dst (N := 1) rfl ?_); refine box_event ?hg (N := 1) ?hd (cs := #[.int .i64 a0_0, .int .i64 a0_1]) (t := 41) ?hr ?_; (case hd => rfl); (case hg => rfl); (case hr => first | (go_simp; done) | (go_simp; rfl)); intro gb101 hg w3 hbox hb; have n0_ := Aside0.mk (below_step (by repeat (first | (with_reducible first | exact HB.out | apply below_alloc | apply pw_below_drewN | apply below_drew1) | exact HB.out)) hb); have n1_ := Aside0.mk (hbox); have n2_ := Aside0.mk ((by rw [hg]; exact (below_size (by repeat (first | (with_reducible first | exact HB.out | apply below_alloc | apply pw_below_drewN | apply below_drew1) | exact HB.out))) : w.heap.size ≤ gb101)); have n3_ := Aside0.mk ((by rw [hg]; exact (below_size (by repeat (first | (with_reducible first | exact HB.out | apply below_alloc | apply pw_below_drewN | apply below_drew1) | exact HB.out))) : w.heap.size ≤ gb101)); clear HB; have HB := n0_; have BK101 := n1_; have GW101 := n2_; have GE101 := n3_; clear n0_ n1_ n2_ n3_; clear hb hbox hg; have hcz4_0 : w3.cell? ⟨gb101, 0, none⟩ = some (.int .i64 a0_0) := (blk_cell BK101.out 0).trans rfl; have hcz4_1 : w3.cell? ⟨gb101, 1, none⟩ = some (.int .i64 a0_1) := (blk_cell BK101.out 1).trans rfl; have hfz4_0 := blk_frozen BK101.out 0; have hfz4_1 := blk_frozen BK101.out 1) | ((with_reducible refine gate_callee (f := 72) rfl ?_); refine goesL_ (some 4) rfl rfl Tryd.func72 (by kernel_rfl) rfl #[.agg #[.int .i64 a0_0, .int .i64 a0_1]] rfl (by (try simp only [List.map_toArray, List.map_cons, List.map_nil]); first | done | rfl | (simp only [List.length_drop, List.length_take]; rfl)) ?_; (with_reducible refine (impl_isRule.calls a0_0 a0_1 t102 _ A2.out).mono ?_); rintro e w5 ⟨rfl, hb⟩; refine ⟨_, rfl, ?_⟩; have n0_ := Aside0.mk (blk_below (g := gb101) (o := .cells #[.int .i64 a0_0, .int .i64 a0_1] 41 (0, 0)) (by (with_reducible repeat (first | refine blk_drewN ?_ _ | refine blk_drew ?_ | refine blk_alloc ?_ _)); exact BK101.out) hb); have n1_ := Aside0.mk (below_step (by repeat (first | (with_reducible first | exact HB.out | apply below_alloc | apply pw_below_drewN | apply below_drew1 | refine below_set ?_ GE101.out) | exact HB.out)) hb); clear BK101; clear HB; have BK101 := n0_; have HB := n1_; clear n0_ n1_; (try clear hb); (try clear hb2); (try clear hk); (try clear hi)))
  go_ret
  exact ⟨by first | rfl | (simp [errW_none, errW_some] <;> rfl) | (simp [*, errW_none, errW_some] <;> rfl), by repeat (first | (with_reducible first | exact HB.out | apply below_alloc | apply pw_below_drewN | apply below_drew1 | refine below_set ?_ GE101.out) | exact HB.out)⟩
end Go.Proofs.YtjekkcjlfgfnkaaDoor.P
namespace Go.Proofs.YtjekkcjlfgfnkaaDoor.P
open Go.RowKit Go.Proofs.YtjekkcjlfgfnkaaDoorW.PrintWords Go.Proofs.YtjekkcjlfgfnkaaDoorW.PrintLast Go.Proofs.YtjekkcjlfgfnkaaDoorW.PrintMore
attribute [local go_sem] max2_int min2_int max_two min_two max_three min_three max_four min_four
set_option linter.unusedVariables false
set_option linter.unusedSimpArgs false
def okRule (x : SRule) : Bool := decide (2 ≤ x.f0) && (decide (x.f0 ≤ 60) && (decide (0 ≤ x.f1) && decide (x.f1 < x.f0)))
theorem isRule_ok (x : SRule) : impl_isRule.f x.f0 x.f1 = some (okRule x) := by
  unfold impl_isRule.f okRule
  simp only [ge_iff_le]
  by_cases h1 : 2 ≤ x.f0
  · by_cases h2 : x.f0 ≤ 60
    · by_cases h3 : 0 ≤ x.f1 <;> simp [h1, h2, h3]
    · simp [h1, h2]
  · simp [h1]
theorem all_ok_any : ∀ l : List SRule, l.all okRule = !(l.any fun x => !okRule x)
  | [] => rfl
  | x :: l => by rw [List.all_cons, List.any_cons, all_ok_any l]; cases okRule x <;> simp
theorem areRules_1_ok (x : SRule) : impl_areRules_1.f x.f0 x.f1 = some (!okRule x) := by
  unfold impl_areRules_1.f
  rw [isRule_ok]
  cases okRule x <;> simp
def impl_areRules.f (l0 : List (SRule)) : Option (Bool) := some (decide (l0.length ≤ 12) && l0.all okRule)
set_option maxHeartbeats 2000000 in
set_option maxRecDepth 100000 in
theorem impl_areRules.calls (A0 : Option Addr) (c0 : Nat) (l0 : List (SRule)) (r : Bool) (w : World) (hr0 : Kd.C kRule w A0 l0.length l0) (hc0 : l0.length ≤ c0) (h : impl_areRules.f l0 = some r) :
    Calls Tryd.prog 62 #[.slice A0 l0.length c0] w fun e w' => e = .returned (.bool r) ∧ Below w.heap.size w w' := by
  obtain rfl := Option.some.inj h
  clear h
  have hcall := fun (W : World) (hb : Below w.heap.size w W) => cof_calls (fun x => !okRule x) 71 #[] (enters_of Tryd.func71 (by kernel_rfl) rfl) A0 c0 l0 W
    (fun W' x _ hb' => (impl_areRules_1.calls x.f0 x.f1 _ W' (areRules_1_ok x)).mono fun e w' ⟨he, hb2⟩ => ⟨he, hb'.trans (hb2.mono hb'.size)⟩) (Kd.C_below hr0 hb)
  have HC := Aside0.mk hcall
  have hb0 := Below.refl w.heap.size w
  clear hcall hr0
  by_cases c2 : l0.length ≤ 12
  · have d1 : decide (l0.length ≤ 12) = true := decide_eq_true c2
    have d2 : decide ((l0.length : Int) ≤ 12) = true := decide_eq_true (by omega)
    rw [d1, Bool.true_and, all_ok_any]
    clear c2
    go_enter Tryd.func62, Tryd.ntmps62
    go_wp2_with (go_at_call 70; refine (HC.out _ hb0).mono ?_; rintro e w' ⟨rfl, hb'⟩)
    go_ret
    exact ⟨rfl, hb'⟩
  · have d1 : decide (l0.length ≤ 12) = false := decide_eq_false c2
    have d2 : decide ((l0.length : Int) ≤ 12) = false := decide_eq_false (by omega)
    rw [d1, Bool.false_and]
    go_enter Tryd.func62, Tryd.ntmps62
    go_wp2
    go_ret
    exact ⟨rfl, hb0⟩
end Go.Proofs.YtjekkcjlfgfnkaaDoor.P
namespace Go.Proofs.YtjekkcjlfgfnkaaDoor.P
open Go.RowKit Go.Proofs.YtjekkcjlfgfnkaaDoorW.PrintWords Go.Proofs.YtjekkcjlfgfnkaaDoorW.PrintLast Go.Proofs.YtjekkcjlfgfnkaaDoorW.PrintMore
attribute [local go_sem] max2_int min2_int max_two min_two max_three min_three max_four min_four
set_option linter.unusedVariables false
set_option linter.unusedSimpArgs false
def impl_mod.f (a0 : Int) (a1 : Int) : Option (Int) := if a1 = 0 then (none) else (some (Int.tmod (wrap64 ((Int.tmod a0 a1) + a1)) a1))
set_option maxHeartbeats 8000000 in
set_option maxRecDepth 100000 in
theorem impl_mod.calls (a0 : Int) (a1 : Int) (r : Int) (w : World) (h : impl_mod.f a0 a1 = some r) :
    Calls Tryd.prog 91 #[.int .i64 a0, .int .i64 a1] w fun e w' => e = .returned (.int .i64 r) ∧ Drawn0 w w' := by
  have H : (if a1 = 0 then (none) else (some (Int.tmod (wrap64 ((Int.tmod a0 a1) + a1)) a1))) = some r := h
  clear h
  by_cases c3 : a1 = 0
  · rw [if_pos c3] at H
    exact absurd H (by simp)
  · rw [if_neg c3] at H
    have c3b0 : (a1 == 0) = false := beq_eq_false_iff_ne.mpr c3
    have c3b1 : (a1 != 0) = true := bne_iff_ne.mpr c3
    obtain rfl := Option.some.inj H
    go_enter Tryd.func91, Tryd.ntmps91
    go_wp2
    go_ret
    exact ⟨by first | rfl | (simp; done) | (simp [*]; done), by repeat (first | exact Drawn0.refl _ | apply Drawn0.step)⟩
end Go.Proofs.YtjekkcjlfgfnkaaDoor.P
namespace Go.Proofs.YtjekkcjlfgfnkaaDoor.P
open Go.RowKit Go.Proofs.YtjekkcjlfgfnkaaDoorW.PrintWords Go.Proofs.YtjekkcjlfgfnkaaDoorW.PrintLast Go.Proofs.YtjekkcjlfgfnkaaDoorW.PrintMore
attribute [local go_sem] max2_int min2_int max_two min_two max_three min_three max_four min_four
set_option linter.unusedVariables false
set_option linter.unusedSimpArgs false
def crosses (n : Int) (x : SRule) : Bool := n % x.f0 == x.f1
theorem mod_ok (n b : Int) (h1 : 2 ≤ b) (h2 : b ≤ 60) : impl_mod.f n b = some (n % b) := by
  unfold impl_mod.f
  rw [if_neg (by omega)]
  have a1 := Int.tmod_lt_of_pos n (b := b) (by omega)
  have a2 := Int.lt_tmod_of_pos n (b := b) (by omega)
  rw [show wrap64 (Int.tmod n b + b) = Int.tmod n b + b by unfold wrap64; omega]
  rw [Int.tmod_eq_emod_of_nonneg (by omega : 0 ≤ Int.tmod n b + b), Int.add_emod_right]
  congr 1
  rw [Int.tmod_eq_emod]
  split
  · simp
  · rw [Int.sub_emod, Int.emod_emod_of_dvd _ (Int.dvd_refl _)]
    have : ((b.natAbs : Int)) % b = 0 := by rw [show (b.natAbs : Int) = b by omega]; exact Int.emod_self
    rw [this]; simp
def impl_firstRule.f (l0 : List (SRule)) (a1 : Int) : Option (Int) := if l0.all okRule = true then some (firstIx (crosses a1) l0 0) else none
set_option maxHeartbeats 2000000 in
set_option maxRecDepth 100000 in
theorem firstRule_1_calls (n : Int) (B : Nat) (x : SRule) (W : World) (hx : okRule x = true) (hB : B < W.heap.size) (hn : W.cell? ⟨B, 0, none⟩ = some (.int .i64 n)) :
    Calls Tryd.prog 90 #[.agg #[.int .i64 x.f0, .int .i64 x.f1], .pointer (some ⟨B, 0, none⟩)] W fun e w' => e = .returned (.bool (crosses n x)) ∧ Below W.heap.size W w' := by
  have hu := Tryd.underlying41
  have h1 : 2 ≤ x.f0 ∧ x.f0 ≤ 60 := by unfold okRule at hx; simp at hx; omega
  have HM := Aside0.mk (fun W => impl_mod.calls n x.f0 _ W (mod_ok n x.f0 h1.1 h1.2))
  clear hx h1
  unfold crosses
  go_enter Tryd.func90, Tryd.ntmps90
  go_wp2
  go_quiet ((go_at_call 91; exact Calls.quiet_of ((HM.out _).mono (fun e w' h => ⟨h.1, h.2.out⟩))))
  go_wp2
  go_ret
  exact ⟨rfl, pw_below_drewN (below_alloc (Below.refl _ _) _) _⟩
set_option maxHeartbeats 2000000 in
set_option maxRecDepth 100000 in
theorem impl_firstRule.calls (A0 : Option Addr) (c0 : Nat) (l0 : List (SRule)) (a1 : Int) (r : Int) (w : World) (hr0 : Kd.C kRule w A0 l0.length l0) (hc0 : l0.length ≤ c0) (h : impl_firstRule.f l0 a1 = some r) :
    Calls Tryd.prog 85 #[.slice A0 l0.length c0, .int .i64 a1] w fun e w' => e = .returned (.int .i64 r) ∧ Below w.heap.size w w' := by
  unfold impl_firstRule.f at h
  by_cases hl : l0.all okRule = true
  · rw [if_pos hl] at h
    obtain rfl := Option.some.inj h
    clear h
    have hb := below_alloc (Below.refl w.heap.size w) (.cells #[.int .i64 a1] 3 (0, 0))
    have hcall := ixf_calls (crosses a1) 90 #[.pointer (some ⟨w.heap.size, 0, none⟩)] (enters_of Tryd.func90 (by kernel_rfl) rfl) A0 c0 l0 (w.alloc (.cells #[.int .i64 a1] 3 (0, 0)))
      (fun W' x hx hb' => (firstRule_1_calls a1 w.heap.size x W' (List.all_eq_true.mp hl x hx) (by have := hb'.size; simp at this; omega) ((hb'.cell (p := ⟨w.heap.size, 0, none⟩) (by simp)).trans (by simp))).mono fun e w' ⟨he, hb2⟩ => ⟨he, hb'.trans (hb2.mono hb'.size)⟩) (Kd.C_below hr0 hb)
    have HC := Aside0.mk hcall
    have HB := Aside0.mk hb
    clear hcall hr0 hl hb
    go_enter Tryd.func85, Tryd.ntmps85
    go_wp2_with (go_at_call 66; refine HC.out.mono ?_; rintro e w' ⟨rfl, hb'⟩)
    go_ret
    exact ⟨rfl, HB.out.trans (hb'.mono HB.out.size)⟩
  · rw [if_neg hl] at h
    exact absurd h (by simp)
end Go.Proofs.YtjekkcjlfgfnkaaDoor.P
namespace Go.Proofs.YtjekkcjlfgfnkaaDoor.P
open Go.RowKit Go.Proofs.YtjekkcjlfgfnkaaDoorW.PrintWords Go.Proofs.YtjekkcjlfgfnkaaDoorW.PrintLast Go.Proofs.YtjekkcjlfgfnkaaDoorW.PrintMore
attribute [local go_sem] max2_int min2_int max_two min_two max_three min_three max_four min_four
set_option linter.unusedVariables false
set_option linter.unusedSimpArgs false
def impl_isLeft.f (l0 : List (SRule)) (a1 : Int) : Option (Bool) := (impl_firstRule.f l0 a1).bind fun t101 => (some (decide (t101 < 0)))
set_option maxHeartbeats 8000000 in
set_option maxRecDepth 100000 in
theorem impl_isLeft.calls (A0 : Option Addr) (c0 : Nat) (l0 : List (SRule)) (a1 : Int) (r : Bool) (w : World) (hr0 : Kd.C kRule w A0 l0.length l0) (hc0 : l0.length ≤ c0) (h : impl_isLeft.f l0 a1 = some r) :
    Calls Tryd.prog 75 #[.slice A0 l0.length c0, .int .i64 a1] w fun e w' => e = .returned (.bool r) ∧ Below w.heap.size w w' := by
  have HR0 := Aside0.mk hr0
  have HC0 := Aside0.mk hc0
  clear hr0 hc0
  have HB := Aside0.mk (Below.refl w.heap.size w)
  have H : ((impl_firstRule.f l0 a1).bind fun t101 => (some (decide (t101 < 0)))) = some r := h
  clear h
  replace H := Option.bind_eq_some_iff.mp H
  obtain ⟨t101, A30, H⟩ := H
  replace H : (some (decide (t101 < 0))) = some r := H
  have A3 := Aside0.mk A30
  clear A30
  obtain rfl := Option.some.inj H
  go_enter Tryd.func75, Tryd.ntmps75
  go_wp2_with (first | ((with_reducible refine gate_callee (f := 85) rfl ?_); refine goesL_ (some 7) rfl rfl Tryd.func85 (by kernel_rfl) rfl #[.slice A0 l0.length c0, .int .i64 a1] rfl (by (try simp only [List.map_toArray, List.map_cons, List.map_nil]); first | done | rfl | (simp only [List.length_drop, List.length_take]; rfl)) ?_; (with_reducible refine (impl_firstRule.calls _ _ l0 a1 t101 _ ?side1 ?side2 A3.out).mono ?_); (case side1 => repeat (first | exact HR0.out | (with_reducible refine Kd.C_alloc ?_ _) | (with_reducible refine Kd.C_drewN ?_ _) | (with_reducible refine Kd.C_drew ?_))); (case side2 => exact HC0.out); rintro e w4 ⟨rfl, hb⟩; refine ⟨_, rfl, ?_⟩; have n0_ := Aside0.mk (below_step (by repeat (first | (with_reducible first | exact HB.out | apply below_alloc | apply pw_below_drewN | apply below_drew1) | exact HB.out)) hb); clear HB; have HB := n0_; clear n0_; (try clear hb); (try clear hb2); (try clear hk); (try clear hi)))
  go_ret
  exact ⟨by first | rfl | (simp [errW_none, errW_some] <;> rfl) | (simp [*, errW_none, errW_some] <;> rfl), by repeat (first | (with_reducible first | exact HB.out | apply below_alloc | apply pw_below_drewN | apply below_drew1) | exact HB.out)⟩
end Go.Proofs.YtjekkcjlfgfnkaaDoor.P
namespace Go.Proofs.YtjekkcjlfgfnkaaDoor.P
open Go.RowKit Go.Proofs.YtjekkcjlfgfnkaaDoorW.PrintWords Go.Proofs.YtjekkcjlfgfnkaaDoorW.PrintLast Go.Proofs.YtjekkcjlfgfnkaaDoorW.PrintMore
attribute [local go_sem] max2_int min2_int max_two min_two max_three min_three max_four min_four
set_option linter.unusedVariables false
set_option linter.unusedSimpArgs false
def spec_IsPuzzle.f (k : Nat) (a0_0 : ByteArray) (a0_1 : Int) : Option (Bool) := (spec_pzGood.f k a0_0 a0_1).bind fun t102 => (some t102)
set_option maxHeartbeats 8000000 in
set_option maxRecDepth 100000 in
theorem spec_IsPuzzle.calls (k : Nat) (a0_0 : ByteArray) (a0_1 : Int) (r : Bool) (w : World) (h : spec_IsPuzzle.f k a0_0 a0_1 = some r) :
    Calls Tryd.prog 14 #[.agg #[.string a0_0, .int .i64 a0_1]] w fun e w' => e = .returned (.bool r) ∧ Below w.heap.size w w' := by
  have hu26 := Tryd.underlying26
  have HB := Aside0.mk (Below.refl w.heap.size w)
  have H : ((spec_pzGood.f k a0_0 a0_1).bind fun t102 => (some t102)) = some r := h
  clear h
  replace H := Option.bind_eq_some_iff.mp H
  obtain ⟨t102, A20, H⟩ := H
  replace H : (some t102) = some r := H
  have A2 := Aside0.mk A20
  clear A20
  obtain rfl := Option.some.inj H
  go_enter Tryd.func14, Tryd.ntmps14
  go_wp2_with (first | ((with_reducible refine gate_dst (N := 1) rfl ?_); refine box_event ?hg (N := 1) ?hd (cs := #[.string a0_0, .int .i64 a0_1]) (t := 26) ?hr ?_; (case hd => rfl); (case hg => rfl); (case hr => first | (go_simp; done) | (go_simp; rfl)); intro gb101 hg w3 hbox hb; have n0_ := Aside0.mk (below_step (by repeat (first | (with_reducible first | exact HB.out | apply below_alloc | apply pw_below_drewN | apply below_drew1) | exact HB.out)) hb); have n1_ := Aside0.mk (hbox); have n2_ := Aside0.mk ((by rw [hg]; exact (below_size (by repeat (first | (with_reducible first | exact HB.out | apply below_alloc | apply pw_below_drewN | apply below_drew1) | exact HB.out))) : w.heap.size ≤ gb101)); have n3_ := Aside0.mk ((by rw [hg]; exact (below_size (by repeat (first | (with_reducible first | exact HB.out | apply below_alloc | apply pw_below_drewN | apply below_drew1) | exact HB.out))) : w.heap.size ≤ gb101)); clear HB; have HB := n0_; have BK101 := n1_; have GW101 := n2_; have GE101 := n3_; clear n0_ n1_ n2_ n3_; clear hb hbox hg; have hcz4_0 : w3.cell? ⟨gb101, 0, none⟩ = some (.string a0_0) := (blk_cell BK101.out 0).trans rfl; have hcz4_1 : w3.cell? ⟨gb101, 1, none⟩ = some (.int .i64 a0_1) := (blk_cell BK101.out 1).trans rfl; have hfz4_0 := blk_frozen BK101.out 0; have hfz4_1 := blk_frozen BK101.out 1) | ((with_reducible refine gate_callee (f := 42) rfl ?_); refine goesL_ (some 4) rfl rfl Tryd.func42 (by kernel_rfl) rfl #[.agg #[.string a0_0, .int .i64 a0_1]] rfl (by (try simp only [List.map_toArray, List.map_cons, List.map_nil]); first | done | rfl | (simp only [List.length_drop, List.length_take]; rfl)) ?_; (with_reducible refine (spec_pzGood.calls k a0_0 a0_1 t102 _ A2.out).mono ?_); rintro e w5 ⟨rfl, hb⟩; refine ⟨_, rfl, ?_⟩; have n0_ := Aside0.mk (blk_below (g := gb101) (o := .cells #[.string a0_0, .int .i64 a0_1] 26 (0, 0)) (by (with_reducible repeat (first | refine blk_drewN ?_ _ | refine blk_drew ?_ | refine blk_alloc ?_ _)); exact BK101.out) hb); have n1_ := Aside0.mk (below_step (by repeat (first | (with_reducible first | exact HB.out | apply below_alloc | apply pw_below_drewN | apply below_drew1 | refine below_set ?_ GE101.out) | exact HB.out)) hb); clear BK101; clear HB; have BK101 := n0_; have HB := n1_; clear n0_ n1_; (try clear hb); (try clear hb2); (try clear hk); (try clear hi)))
  go_ret
  exact ⟨by first | rfl | (simp [errW_none, errW_some] <;> rfl) | (simp [*, errW_none, errW_some] <;> rfl), by repeat (first | (with_reducible first | exact HB.out | apply below_alloc | apply pw_below_drewN | apply below_drew1 | refine below_set ?_ GE101.out) | exact HB.out)⟩
end Go.Proofs.YtjekkcjlfgfnkaaDoor.P
namespace Go.Proofs.YtjekkcjlfgfnkaaDoor.P
open Go.RowKit Go.Proofs.YtjekkcjlfgfnkaaDoorW.PrintWords Go.Proofs.YtjekkcjlfgfnkaaDoorW.PrintLast Go.Proofs.YtjekkcjlfgfnkaaDoorW.PrintMore
attribute [local go_sem] max2_int min2_int max_two min_two max_three min_three max_four min_four
set_option linter.unusedVariables false
set_option linter.unusedSimpArgs false
def impl_IsPuzzle.f (a0_0 : ByteArray) (a0_1 : Int) : Option (Bool) := (impl_isPuzzle.f a0_0 a0_1).bind fun t102 => (some t102)
set_option maxHeartbeats 8000000 in
set_option maxRecDepth 100000 in
theorem impl_IsPuzzle.calls (a0_0 : ByteArray) (a0_1 : Int) (r : Bool) (w : World) (h : impl_IsPuzzle.f a0_0 a0_1 = some r) :
    Calls Tryd.prog 16 #[.agg #[.string a0_0, .int .i64 a0_1]] w fun e w' => e = .returned (.bool r) ∧ Below w.heap.size w w' := by
  have hu26 := Tryd.underlying26
  have HB := Aside0.mk (Below.refl w.heap.size w)
  have H : ((impl_isPuzzle.f a0_0 a0_1).bind fun t102 => (some t102)) = some r := h
  clear h
  replace H := Option.bind_eq_some_iff.mp H
  obtain ⟨t102, A20, H⟩ := H
  replace H : (some t102) = some r := H
  have A2 := Aside0.mk A20
  clear A20
  obtain rfl := Option.some.inj H
  go_enter Tryd.func16, Tryd.ntmps16
  go_wp2_with (first | ((with_reducible refine gate_dst (N := 1) rfl ?_); refine box_event ?hg (N := 1) ?hd (cs := #[.string a0_0, .int .i64 a0_1]) (t := 26) ?hr ?_; (case hd => rfl); (case hg => rfl); (case hr => first | (go_simp; done) | (go_simp; rfl)); intro gb101 hg w3 hbox hb; have n0_ := Aside0.mk (below_step (by repeat (first | (with_reducible first | exact HB.out | apply below_alloc | apply pw_below_drewN | apply below_drew1) | exact HB.out)) hb); have n1_ := Aside0.mk (hbox); have n2_ := Aside0.mk ((by rw [hg]; exact (below_size (by repeat (first | (with_reducible first | exact HB.out | apply below_alloc | apply pw_below_drewN | apply below_drew1) | exact HB.out))) : w.heap.size ≤ gb101)); have n3_ := Aside0.mk ((by rw [hg]; exact (below_size (by repeat (first | (with_reducible first | exact HB.out | apply below_alloc | apply pw_below_drewN | apply below_drew1) | exact HB.out))) : w.heap.size ≤ gb101)); clear HB; have HB := n0_; have BK101 := n1_; have GW101 := n2_; have GE101 := n3_; clear n0_ n1_ n2_ n3_; clear hb hbox hg; have hcz4_0 : w3.cell? ⟨gb101, 0, none⟩ = some (.string a0_0) := (blk_cell BK101.out 0).trans rfl; have hcz4_1 : w3.cell? ⟨gb101, 1, none⟩ = some (.int .i64 a0_1) := (blk_cell BK101.out 1).trans rfl; have hfz4_0 := blk_frozen BK101.out 0; have hfz4_1 := blk_frozen BK101.out 1) | ((with_reducible refine gate_callee (f := 43) rfl ?_); refine goesL_ (some 4) rfl rfl Tryd.func43 (by kernel_rfl) rfl #[.agg #[.string a0_0, .int .i64 a0_1]] rfl (by (try simp only [List.map_toArray, List.map_cons, List.map_nil]); first | done | rfl | (simp only [List.length_drop, List.length_take]; rfl)) ?_; (with_reducible refine (impl_isPuzzle.calls a0_0 a0_1 t102 _ A2.out).mono ?_); rintro e w5 ⟨rfl, hb⟩; refine ⟨_, rfl, ?_⟩; have n0_ := Aside0.mk (blk_below (g := gb101) (o := .cells #[.string a0_0, .int .i64 a0_1] 26 (0, 0)) (by (with_reducible repeat (first | refine blk_drewN ?_ _ | refine blk_drew ?_ | refine blk_alloc ?_ _)); exact BK101.out) hb); have n1_ := Aside0.mk (below_step (by repeat (first | (with_reducible first | exact HB.out | apply below_alloc | apply pw_below_drewN | apply below_drew1 | refine below_set ?_ GE101.out) | exact HB.out)) hb); clear BK101; clear HB; have BK101 := n0_; have HB := n1_; clear n0_ n1_; (try clear hb); (try clear hb2); (try clear hk); (try clear hi)))
  go_ret
  exact ⟨by first | rfl | (simp [errW_none, errW_some] <;> rfl) | (simp [*, errW_none, errW_some] <;> rfl), by repeat (first | (with_reducible first | exact HB.out | apply below_alloc | apply pw_below_drewN | apply below_drew1 | refine below_set ?_ GE101.out) | exact HB.out)⟩
end Go.Proofs.YtjekkcjlfgfnkaaDoor.P
namespace Go.Proofs.YtjekkcjlfgfnkaaDoor.P
open Go.RowKit Go.Proofs.YtjekkcjlfgfnkaaDoorW.PrintWords Go.Proofs.YtjekkcjlfgfnkaaDoorW.PrintLast Go.Proofs.YtjekkcjlfgfnkaaDoorW.PrintMore
attribute [local go_sem] max2_int min2_int max_two min_two max_three min_three max_four min_four
set_option linter.unusedVariables false
set_option linter.unusedSimpArgs false
def impl_agrees.l0 : Nat → ByteArray → List (SRule) → Int → Int → Option (Bool)
  | 0, _, _, _, _ => none
  | k + 1, x0, x1, x7, x8 => if x8 < x7 then (if 0 ≤ x8 then (if x8 < (x0.size : Int) then (if (bt x0 x8) = 63 then (impl_agrees.l0 k x0 x1 x7 (wrap64 (x8 + 1))) else ((impl_isLeft.f x1 (wrap64 (x8 + 1))).bind fun t101 => (if (t101 != ((bt x0 x8) == 111)) = true then (some false) else (impl_agrees.l0 k x0 x1 x7 (wrap64 (x8 + 1)))))) else (none)) else (none)) else (some true)
def impl_agrees.f (k : Nat) (a0 : ByteArray) (l1 : List (SRule)) : Option (Bool) := impl_agrees.l0 k a0 l1 (a0.size : Int) 0
def impl_agrees.T4 : Bool × List (List Nat × List Nat) := (true, [([], []), ([], []), ([0, 1], [0, 1]), ([2], [2]), ([3], [3]), ([4], [4]), ([4], [4]), ([6, 4], [4, 6]), ([5, 7, 4, 4], [4, 5, 7]), ([4], [4]), ([4], [4]), ([9, 10, 4], [4, 9, 10]), ([11, 4], [4, 11]), ([8, 12, 4], [4, 8, 12]), ([4, 13], [4, 13])])
def impl_agrees.B4 : List Nat := [0, 0, 3, 7, 15, 31, 31, 95, 255, 31, 31, 1567, 3615, 8191, 16383]
theorem impl_agrees.tab4 : rtab .any (opsOf Tryd.f64 4) = impl_agrees.T4 := by kernel_rfl
theorem impl_agrees.bits4 : waitsOk impl_agrees.T4.2 impl_agrees.B4 = true := by kernel_rfl
set_option maxHeartbeats 8000000 in
set_option maxRecDepth 100000 in
theorem impl_agrees.calls (k : Nat) (a0 : ByteArray) (A1 : Option Addr) (c1 : Nat) (l1 : List (SRule)) (r : Bool) (w : World) (hr1 : Kd.C kRule w A1 l1.length l1) (hc1 : l1.length ≤ c1) (h : impl_agrees.f k a0 l1 = some r) :
    Calls Tryd.prog 64 #[.string a0, .slice A1 l1.length c1] w fun e w' => e = .returned (.bool r) ∧ Below w.heap.size w w' := by
  have HR1 := Aside0.mk hr1
  have HC1 := Aside0.mk hc1
  clear hr1 hc1
  have HB := Aside0.mk (Below.refl w.heap.size w)
  have H : (impl_agrees.l0 k a0 l1 (a0.size : Int) 0) = some r := h
  clear h
  have H' := Aside0.mk H
  clear H
  go_enter Tryd.func64, Tryd.ntmps64
  go_wp2
  go_loopg [8] k (fun kq v8 w' => ∃ (x8_1 : Int), v8 = .int .i64 x8_1 ∧ Aside0 (impl_agrees.l0 kq a0 l1 (a0.size : Int) x8_1 = some r) ∧ Aside0 (kq ≤ k) ∧ Aside0 (Below w.heap.size w w'))
  case atStart => exact ⟨(0), (by first | rfl | (simp; done) | (simp [*]; done)), H', ⟨Nat.le_refl _⟩, ⟨by repeat (first | (with_reducible first | exact HB.out | apply below_alloc | apply pw_below_drewN | apply below_drew1) | exact HB.out)⟩⟩
  case round =>
    clear H'
    try clear c1
    try clear p2
    obtain ⟨x8_1, rfl, HA, HK1, HB⟩ := hrel
    cases gk with
    | zero => exact absurd HA.out (by simp [impl_agrees.l0])
    | succ k1 =>
      have H := HA.out
      clear HA
      simp only [impl_agrees.l0] at H
      by_cases c3 : x8_1 < (a0.size : Int)
      · rw [if_pos c3] at H
        have c3b0 : decide (x8_1 < (a0.size : Int)) = true := decide_eq_true c3
        clear c3
        by_cases c4 : 0 ≤ x8_1
        · rw [if_pos c4] at H
          have c4b0 : decide (0 ≤ x8_1) = true := decide_eq_true c4
          clear c4
          by_cases c5 : x8_1 < (a0.size : Int)
          · rw [if_pos c5] at H
            have c5b0 : decide (x8_1 < (a0.size : Int)) = true := decide_eq_true c5
            clear c5
            by_cases c7 : (bt a0 x8_1) = 63
            · rw [if_pos c7] at H
              have c7b0 : ((bt a0 x8_1) == 63) = true := beq_iff_eq.mpr c7
              have c7b1 : ((bt a0 x8_1) != 63) = false := bne_eq_false_iff_eq.mpr c7
              clear c7
              have H' := Aside0.mk H
              clear H
              try go_wp2
              have n0_ := Aside0.mk (below_drew1 HB.out)
              clear HB
              have HB := n0_
              clear n0_
              have p6 : 0 ≤ (x8_1 : Int) := of_decide_eq_true (by first | (with_reducible assumption) | assumption)
              have q6 : x8_1 < (a0.size : Int) := of_decide_eq_true (by first | (with_reducible assumption) | assumption)
              have hx6 := bt_at a0 x8_1
              replace p6 := eq_true p6
              replace q6 := eq_true q6
              refine start_ (n := 15) (S := fun w' => True) (ds := []) #[false, false, false, false, false, false, false, false, false, false, false, false, false, false, false] (by kernel_rfl) rfl rfl trivial (fun hHeld => ?_); refine with_tabW impl_agrees.tab4 impl_agrees.bits4 (fun HT_ HW_ => ?_)
              generalize wr.drew = w8 at HB hHeld ⊢
              refine pure_ (i := 0) (N := some 11) (v := ?_) (a' := ?_) #[true, false, false, false, false, false, false, false, false, false, false, false, false, false, false] rfl rfl (any_of HT_.out (by kernel_rfl)) (fun _ _ _ h => h) (Or.inl ⟨by rfl, ?_⟩) ?_ ?_
              rotate_left
              · intro w'
                go_simp
                with_reducible rfl
              rotate_left
              · simp only [Act.put, List.setIfInBounds_toArray, List.set_cons_zero, List.set_cons_succ, i64_w, i32_w]
                rfl
              refine pure_ (i := 1) (N := some 12) (v := ?_) (a' := ?_) #[true, true, false, false, false, false, false, false, false, false, false, false, false, false, false] rfl rfl (any_of HT_.out (by kernel_rfl)) (fun _ _ _ h => h) (Or.inl ⟨by rfl, ?_⟩) ?_ ?_
              rotate_left
              · intro w'
                go_simp
                with_reducible rfl
              rotate_left
              · simp only [Act.put, List.setIfInBounds_toArray, List.set_cons_zero, List.set_cons_succ, i64_w, i32_w]
                rfl
              refine take_ (i := 2) (N := some 13) (v := ?_) (a' := ?_) #[true, true, true, false, false, false, false, false, false, false, false, false, false, false, false] rfl rfl (take_ofW HT_.out HW_.out (by kernel_rfl)) (fun _ _ _ h => h) (Or.inl ⟨by rfl, ?_⟩) hHeld ?_ ?_
              rotate_left
              · intro w' _
                go_simp
                with_reducible rfl
              rotate_left
              · simp only [Act.put, List.setIfInBounds_toArray, List.set_cons_zero, List.set_cons_succ, i64_w, i32_w]
                rfl
              refine pure_ (i := 3) (N := some 14) (v := ?_) (a' := ?_) #[true, true, true, true, false, false, false, false, false, false, false, false, false, false, false] rfl rfl (any_of HT_.out (by kernel_rfl)) (fun _ _ _ h => h) (Or.inl ⟨by rfl, ?_⟩) ?_ ?_
              rotate_left
              · intro w'
                go_simp
                with_reducible rfl
              rotate_left
              · simp only [Act.put, List.setIfInBounds_toArray, List.set_cons_zero, List.set_cons_succ, i64_w, i32_w]
                rfl
              refine pure_ (i := 4) (N := some 15) (v := ?_) (a' := ?_) #[true, true, true, true, true, false, false, false, false, false, false, false, false, false, false] rfl rfl (any_of HT_.out (by kernel_rfl)) (fun _ _ _ h => h) (Or.inl ⟨by rfl, ?_⟩) ?_ ?_
              rotate_left
              · intro w'
                go_simp
                with_reducible rfl
              rotate_left
              · simp only [Act.put, List.setIfInBounds_toArray, List.set_cons_zero, List.set_cons_succ, i64_w, i32_w]
                rfl
              refine pure_ (i := 5) (N := some 16) (v := undef) (a' := ?_) #[true, true, true, true, true, true, false, false, false, false, false, false, false, false, false] rfl rfl (any_of HT_.out (by kernel_rfl)) (fun _ _ _ h => h) (Or.inr ⟨by rfl, rfl⟩) ?_ ?_
              rotate_left
              · simp only [Act.put, List.setIfInBounds_toArray, List.set_cons_zero, List.set_cons_succ, i64_w, i32_w]
                rfl
              refine pure_ (i := 6) (N := some 17) (v := undef) (a' := ?_) #[true, true, true, true, true, true, true, false, false, false, false, false, false, false, false] rfl rfl (any_of HT_.out (by kernel_rfl)) (fun _ _ _ h => h) (Or.inr ⟨by rfl, rfl⟩) ?_ ?_
              rotate_left
              · simp only [Act.put, List.setIfInBounds_toArray, List.set_cons_zero, List.set_cons_succ, i64_w, i32_w]
                rfl
              refine pure_ (i := 7) (N := some 18) (v := undef) (a' := ?_) #[true, true, true, true, true, true, true, true, false, false, false, false, false, false, false] rfl rfl (any_of HT_.out (by kernel_rfl)) (fun _ _ _ h => h) (Or.inr ⟨by rfl, rfl⟩) ?_ ?_
              rotate_left
              · simp only [Act.put, List.setIfInBounds_toArray, List.set_cons_zero, List.set_cons_succ, i64_w, i32_w]
                rfl
              refine pure_ (i := 8) (N := some 19) (v := undef) (a' := ?_) #[true, true, true, true, true, true, true, true, true, false, false, false, false, false, false] rfl rfl (any_of HT_.out (by kernel_rfl)) (fun _ _ _ h => h) (Or.inr ⟨by rfl, rfl⟩) ?_ ?_
              rotate_left
              · simp only [Act.put, List.setIfInBounds_toArray, List.set_cons_zero, List.set_cons_succ, i64_w, i32_w]
                rfl
              refine pure_ (i := 9) (N := some 20) (v := undef) (a' := ?_) #[true, true, true, true, true, true, true, true, true, true, false, false, false, false, false] rfl rfl (any_of HT_.out (by kernel_rfl)) (fun _ _ _ h => h) (Or.inr ⟨by rfl, rfl⟩) ?_ ?_
              rotate_left
              · simp only [Act.put, List.setIfInBounds_toArray, List.set_cons_zero, List.set_cons_succ, i64_w, i32_w]
                rfl
              refine pure_ (i := 10) (N := some 21) (v := undef) (a' := ?_) #[true, true, true, true, true, true, true, true, true, true, true, false, false, false, false] rfl rfl (any_of HT_.out (by kernel_rfl)) (fun _ _ _ h => h) (Or.inr ⟨by rfl, rfl⟩) ?_ ?_
              rotate_left
              · simp only [Act.put, List.setIfInBounds_toArray, List.set_cons_zero, List.set_cons_succ, i64_w, i32_w]
                rfl
              refine pure_ (i := 11) (N := some 22) (v := undef) (a' := ?_) #[true, true, true, true, true, true, true, true, true, true, true, true, false, false, false] rfl rfl (any_of HT_.out (by kernel_rfl)) (fun _ _ _ h => h) (Or.inr ⟨by rfl, rfl⟩) ?_ ?_
              rotate_left
              · simp only [Act.put, List.setIfInBounds_toArray, List.set_cons_zero, List.set_cons_succ, i64_w, i32_w]
                rfl
              refine pure_ (i := 12) (N := some 23) (v := undef) (a' := ?_) #[true, true, true, true, true, true, true, true, true, true, true, true, true, false, false] rfl rfl (any_of HT_.out (by kernel_rfl)) (fun _ _ _ h => h) (Or.inr ⟨by rfl, rfl⟩) ?_ ?_
              rotate_left
              · simp only [Act.put, List.setIfInBounds_toArray, List.set_cons_zero, List.set_cons_succ, i64_w, i32_w]
                rfl
              refine pure_ (i := 13) (N := some 24) (v := undef) (a' := ?_) #[true, true, true, true, true, true, true, true, true, true, true, true, true, true, false] rfl rfl (any_of HT_.out (by kernel_rfl)) (fun _ _ _ h => h) (Or.inr ⟨by rfl, rfl⟩) ?_ ?_
              rotate_left
              · simp only [Act.put, List.setIfInBounds_toArray, List.set_cons_zero, List.set_cons_succ, i64_w, i32_w]
                rfl
              refine pure_ (i := 14) (N := some 25) (v := ?_) (a' := ?_) #[true, true, true, true, true, true, true, true, true, true, true, true, true, true, true] rfl rfl (any_of HT_.out (by kernel_rfl)) (fun _ _ _ h => h) (Or.inl ⟨by rfl, ?_⟩) ?_ ?_
              rotate_left
              · intro w'
                go_simp
                with_reducible rfl
              rotate_left
              · simp only [Act.put, List.setIfInBounds_toArray, List.set_cons_zero, List.set_cons_succ, i64_w, i32_w]
                rfl
              refine done_ (done_of HT_.out (by kernel_rfl)) ?_
              try go_wp2
              go_roundg k1
              case measure => have := HK1.out; omega
              case rel => exact ⟨(wrap64 (x8_1 + 1)), (by first | rfl | (simp; done) | (simp [*]; done)), H', ⟨by have := HK1.out; omega⟩, ⟨by repeat (first | (with_reducible first | exact HB.out | apply below_alloc | apply pw_below_drewN | apply below_drew1) | exact HB.out)⟩⟩
            · rw [if_neg c7] at H
              have c7b0 : ((bt a0 x8_1) == 63) = false := beq_eq_false_iff_ne.mpr c7
              have c7b1 : ((bt a0 x8_1) != 63) = true := bne_iff_ne.mpr c7
              replace H := Option.bind_eq_some_iff.mp H
              obtain ⟨t101, A90, H⟩ := H
              replace H : (if (t101 != ((bt a0 x8_1) == 111)) = true then (some false) else (impl_agrees.l0 k1 a0 l1 (a0.size : Int) (wrap64 (x8_1 + 1)))) = some r := H
              have A9 := Aside0.mk A90
              clear A90
              by_cases c11 : (t101 != ((bt a0 x8_1) == 111)) = true
              · rw [if_pos c11] at H
                have c11b0 : (t101 != ((bt a0 x8_1) == 111)) = true := c11
                (try (have c11b1 : decide (t101 = ((bt a0 x8_1) == 111)) = false := by simpa using c11))
                (try (have c11b2 : (t101 == ((bt a0 x8_1) == 111)) = false := by simpa using c11))
                (try (have c11b3 : ¬ (t101 = ((bt a0 x8_1) == 111)) := by simpa using c11))
                clear c11
                obtain rfl := Option.some.inj H
                try go_wp2
                have n0_ := Aside0.mk (below_drew1 HB.out)
                clear HB
                have HB := n0_
                clear n0_
                have p6 : 0 ≤ (x8_1 : Int) := of_decide_eq_true (by first | (with_reducible assumption) | assumption)
                have q6 : x8_1 < (a0.size : Int) := of_decide_eq_true (by first | (with_reducible assumption) | assumption)
                have hx6 := bt_at a0 x8_1
                replace p6 := eq_true p6
                replace q6 := eq_true q6
                have p10 : 0 ≤ (x8_1 : Int) := of_decide_eq_true (by first | (with_reducible assumption) | assumption)
                have q10 : x8_1 < (a0.size : Int) := of_decide_eq_true (by first | (with_reducible assumption) | assumption)
                have hx10 := bt_at a0 x8_1
                replace p10 := eq_true p10
                replace q10 := eq_true q10
                refine start_ (n := 15) (S := fun w' => True) (ds := []) #[false, false, false, false, false, false, false, false, false, false, false, false, false, false, false] (by kernel_rfl) rfl rfl trivial (fun hHeld => ?_); refine with_tabW impl_agrees.tab4 impl_agrees.bits4 (fun HT_ HW_ => ?_)
                generalize wr.drew = w12 at HB hHeld ⊢
                refine pure_ (i := 0) (N := some 11) (v := ?_) (a' := ?_) #[true, false, false, false, false, false, false, false, false, false, false, false, false, false, false] rfl rfl (any_of HT_.out (by kernel_rfl)) (fun _ _ _ h => h) (Or.inl ⟨by rfl, ?_⟩) ?_ ?_
                rotate_left
                · intro w'
                  go_simp
                  with_reducible rfl
                rotate_left
                · simp only [Act.put, List.setIfInBounds_toArray, List.set_cons_zero, List.set_cons_succ, i64_w, i32_w]
                  rfl
                refine pure_ (i := 1) (N := some 12) (v := ?_) (a' := ?_) #[true, true, false, false, false, false, false, false, false, false, false, false, false, false, false] rfl rfl (any_of HT_.out (by kernel_rfl)) (fun _ _ _ h => h) (Or.inl ⟨by rfl, ?_⟩) ?_ ?_
                rotate_left
                · intro w'
                  go_simp
                  with_reducible rfl
                rotate_left
                · simp only [Act.put, List.setIfInBounds_toArray, List.set_cons_zero, List.set_cons_succ, i64_w, i32_w]
                  rfl
                refine take_ (i := 2) (N := some 13) (v := ?_) (a' := ?_) #[true, true, true, false, false, false, false, false, false, false, false, false, false, false, false] rfl rfl (take_ofW HT_.out HW_.out (by kernel_rfl)) (fun _ _ _ h => h) (Or.inl ⟨by rfl, ?_⟩) hHeld ?_ ?_
                rotate_left
                · intro w' _
                  go_simp
                  with_reducible rfl
                rotate_left
                · simp only [Act.put, List.setIfInBounds_toArray, List.set_cons_zero, List.set_cons_succ, i64_w, i32_w]
                  rfl
                refine pure_ (i := 3) (N := some 14) (v := ?_) (a' := ?_) #[true, true, true, true, false, false, false, false, false, false, false, false, false, false, false] rfl rfl (any_of HT_.out (by kernel_rfl)) (fun _ _ _ h => h) (Or.inl ⟨by rfl, ?_⟩) ?_ ?_
                rotate_left
                · intro w'
                  go_simp
                  with_reducible rfl
                rotate_left
                · simp only [Act.put, List.setIfInBounds_toArray, List.set_cons_zero, List.set_cons_succ, i64_w, i32_w]
                  rfl
                refine pure_ (i := 4) (N := some 15) (v := ?_) (a' := ?_) #[true, true, true, true, true, false, false, false, false, false, false, false, false, false, false] rfl rfl (any_of HT_.out (by kernel_rfl)) (fun _ _ _ h => h) (Or.inl ⟨by rfl, ?_⟩) ?_ ?_
                rotate_left
                · intro w'
                  go_simp
                  with_reducible rfl
                rotate_left
                · simp only [Act.put, List.setIfInBounds_toArray, List.set_cons_zero, List.set_cons_succ, i64_w, i32_w]
                  rfl
                refine pure_ (i := 5) (N := some 16) (v := ?_) (a' := ?_) #[true, true, true, true, true, true, false, false, false, false, false, false, false, false, false] rfl rfl (any_of HT_.out (by kernel_rfl)) (fun _ _ _ h => h) (Or.inl ⟨by rfl, ?_⟩) ?_ ?_
                rotate_left
                · intro w'
                  go_simp
                  with_reducible rfl
                rotate_left
                · simp only [Act.put, List.setIfInBounds_toArray, List.set_cons_zero, List.set_cons_succ, i64_w, i32_w]
                  rfl
                refine pure_ (i := 6) (N := some 17) (v := ?_) (a' := ?_) #[true, true, true, true, true, true, true, false, false, false, false, false, false, false, false] rfl rfl (any_of HT_.out (by kernel_rfl)) (fun _ _ _ h => h) (Or.inl ⟨by rfl, ?_⟩) ?_ ?_
                rotate_left
                · intro w'
                  go_simp
                  with_reducible rfl
                rotate_left
                · simp only [Act.put, List.setIfInBounds_toArray, List.set_cons_zero, List.set_cons_succ, i64_w, i32_w]
                  rfl
                refine pure_ (i := 7) (N := some 18) (v := ?_) (a' := ?_) #[true, true, true, true, true, true, true, true, false, false, false, false, false, false, false] rfl rfl (any_of HT_.out (by kernel_rfl)) (fun _ _ _ h => h) (Or.inl ⟨by rfl, ?_⟩) ?_ ?_
                rotate_left
                · intro w'
                  go_simp
                  with_reducible rfl
                rotate_left
                · simp only [Act.put, List.setIfInBounds_toArray, List.set_cons_zero, List.set_cons_succ, i64_w, i32_w]
                  rfl
                refine pure_ (i := 9) (N := some 20) (v := ?_) (a' := ?_) #[true, true, true, true, true, true, true, true, false, true, false, false, false, false, false] rfl rfl (any_of HT_.out (by kernel_rfl)) (fun _ _ _ h => h) (Or.inl ⟨by rfl, ?_⟩) ?_ ?_
                rotate_left
                · intro w'
                  go_simp
                  with_reducible rfl
                rotate_left
                · simp only [Act.put, List.setIfInBounds_toArray, List.set_cons_zero, List.set_cons_succ, i64_w, i32_w]
                  rfl
                refine pure_ (i := 10) (N := some 21) (v := ?_) (a' := ?_) #[true, true, true, true, true, true, true, true, false, true, true, false, false, false, false] rfl rfl (any_of HT_.out (by kernel_rfl)) (fun _ _ _ h => h) (Or.inl ⟨by rfl, ?_⟩) ?_ ?_
                rotate_left
                · intro w'
                  go_simp
                  with_reducible rfl
                rotate_left
                · simp only [Act.put, List.setIfInBounds_toArray, List.set_cons_zero, List.set_cons_succ, i64_w, i32_w]
                  rfl
                refine take_ (i := 11) (N := some 22) (v := ?_) (a' := ?_) #[true, true, true, true, true, true, true, true, false, true, true, true, false, false, false] rfl rfl (take_ofW HT_.out HW_.out (by kernel_rfl)) (fun _ _ _ h => h) (Or.inl ⟨by rfl, ?_⟩) hHeld ?_ ?_
                rotate_left
                · intro w' _
                  go_simp
                  with_reducible rfl
                rotate_left
                · simp only [Act.put, List.setIfInBounds_toArray, List.set_cons_zero, List.set_cons_succ, i64_w, i32_w]
                  rfl
                refine pure_ (i := 12) (N := some 23) (v := ?_) (a' := ?_) #[true, true, true, true, true, true, true, true, false, true, true, true, true, false, false] rfl rfl (any_of HT_.out (by kernel_rfl)) (fun _ _ _ h => h) (Or.inl ⟨by rfl, ?_⟩) ?_ ?_
                rotate_left
                · intro w'
                  go_simp
                  with_reducible rfl
                rotate_left
                · simp only [Act.put, List.setIfInBounds_toArray, List.set_cons_zero, List.set_cons_succ, i64_w, i32_w]
                  rfl
                refine one_ (i := 8) (N := some 19) #[true, true, true, true, true, true, true, true, true, true, true, true, true, false, false] rfl rfl (one_of HT_.out (by kernel_rfl)) (by decide) (fun K hK => ?_)
                refine goes_ Tryd.func75 (by kernel_rfl) rfl #[.slice A1 l1.length c1, .int .i64 (wrap64 (x8_1 + 1))] (by rfl) rfl rfl (by (try simp only [List.map_toArray, List.map_cons, List.map_nil]); first | done | rfl | (simp only [List.length_drop, List.length_take]; rfl)) ?_
                with_reducible refine (impl_isLeft.calls _ _ l1 (wrap64 (x8_1 + 1)) t101 _ ?side1 ?side2 A9.out).mono ?_
                (case side1 => repeat (first | exact (Kd.C_below HR1.out HB.out) | (with_reducible refine Kd.C_alloc ?_ _) | (with_reducible refine Kd.C_drewN ?_ _) | (with_reducible refine Kd.C_drew ?_)))
                (case side2 => exact HC1.out)
                rintro e w13 ⟨rfl, hb⟩
                refine ⟨_, rfl, ?_⟩
                have n0_ := Aside0.mk (below_step (by repeat (first | (with_reducible first | exact HB.out | apply below_alloc | apply pw_below_drewN | apply below_drew1) | exact HB.out)) hb)
                clear HB
                have HB := n0_
                clear n0_
                (try clear hb)
                (try clear hb2)
                (try clear hk)
                (try clear hi)
                refine hK.out _ _ trivial (fun hHeld => ?_)
                clear hK K
                refine norm_ (a' := ?_) ?_ ?_
                rotate_left
                · show Act.put _ (some 19) _ = _
                  simp only [Act.put, List.setIfInBounds_toArray, List.set_cons_zero, List.set_cons_succ, i64_w, i32_w]
                  rfl
                refine pure_ (i := 13) (N := some 24) (v := ?_) (a' := ?_) #[true, true, true, true, true, true, true, true, true, true, true, true, true, true, false] rfl rfl (any_of HT_.out (by kernel_rfl)) (fun _ _ _ h => h) (Or.inl ⟨by rfl, ?_⟩) ?_ ?_
                rotate_left
                · intro w'
                  go_simp
                  with_reducible rfl
                rotate_left
                · simp only [Act.put, List.setIfInBounds_toArray, List.set_cons_zero, List.set_cons_succ, i64_w, i32_w]
                  rfl
                refine pure_ (i := 14) (N := some 25) (v := ?_) (a' := ?_) #[true, true, true, true, true, true, true, true, true, true, true, true, true, true, true] rfl rfl (any_of HT_.out (by kernel_rfl)) (fun _ _ _ h => h) (Or.inl ⟨by rfl, ?_⟩) ?_ ?_
                rotate_left
                · intro w'
                  go_simp
                  with_reducible rfl
                rotate_left
                · simp only [Act.put, List.setIfInBounds_toArray, List.set_cons_zero, List.set_cons_succ, i64_w, i32_w]
                  rfl
                refine done_ (done_of HT_.out (by kernel_rfl)) ?_
                try go_wp2
                go_ret
                exact ⟨by first | rfl | (simp [errW_none, errW_some] <;> rfl) | (simp [*, errW_none, errW_some] <;> rfl), by repeat (first | (with_reducible first | exact HB.out | apply below_alloc | apply pw_below_drewN | apply below_drew1) | exact HB.out)⟩
              · rw [if_neg c11] at H
                have c11b0 : (t101 != ((bt a0 x8_1) == 111)) = false := by simpa using c11
                (try (have c11b1 : decide (t101 = ((bt a0 x8_1) == 111)) = true := by simpa using c11))
                (try (have c11b2 : (t101 == ((bt a0 x8_1) == 111)) = true := by simpa using c11))
                clear c11
                have H' := Aside0.mk H
                clear H
                try go_wp2
                have n0_ := Aside0.mk (below_drew1 HB.out)
                clear HB
                have HB := n0_
                clear n0_
                have p6 : 0 ≤ (x8_1 : Int) := of_decide_eq_true (by first | (with_reducible assumption) | assumption)
                have q6 : x8_1 < (a0.size : Int) := of_decide_eq_true (by first | (with_reducible assumption) | assumption)
                have hx6 := bt_at a0 x8_1
                replace p6 := eq_true p6
                replace q6 := eq_true q6
                have p10 : 0 ≤ (x8_1 : Int) := of_decide_eq_true (by first | (with_reducible assumption) | assumption)
                have q10 : x8_1 < (a0.size : Int) := of_decide_eq_true (by first | (with_reducible assumption) | assumption)
                have hx10 := bt_at a0 x8_1
                replace p10 := eq_true p10
                replace q10 := eq_true q10
                refine start_ (n := 15) (S := fun w' => True) (ds := []) #[false, false, false, false, false, false, false, false, false, false, false, false, false, false, false] (by kernel_rfl) rfl rfl trivial (fun hHeld => ?_); refine with_tabW impl_agrees.tab4 impl_agrees.bits4 (fun HT_ HW_ => ?_)
                generalize wr.drew = w14 at HB hHeld ⊢
                refine pure_ (i := 0) (N := some 11) (v := ?_) (a' := ?_) #[true, false, false, false, false, false, false, false, false, false, false, false, false, false, false] rfl rfl (any_of HT_.out (by kernel_rfl)) (fun _ _ _ h => h) (Or.inl ⟨by rfl, ?_⟩) ?_ ?_
                rotate_left
                · intro w'
                  go_simp
                  with_reducible rfl
                rotate_left
                · simp only [Act.put, List.setIfInBounds_toArray, List.set_cons_zero, List.set_cons_succ, i64_w, i32_w]
                  rfl
                refine pure_ (i := 1) (N := some 12) (v := ?_) (a' := ?_) #[true, true, false, false, false, false, false, false, false, false, false, false, false, false, false] rfl rfl (any_of HT_.out (by kernel_rfl)) (fun _ _ _ h => h) (Or.inl ⟨by rfl, ?_⟩) ?_ ?_
                rotate_left
                · intro w'
                  go_simp
                  with_reducible rfl
                rotate_left
                · simp only [Act.put, List.setIfInBounds_toArray, List.set_cons_zero, List.set_cons_succ, i64_w, i32_w]
                  rfl
                refine take_ (i := 2) (N := some 13) (v := ?_) (a' := ?_) #[true, true, true, false, false, false, false, false, false, false, false, false, false, false, false] rfl rfl (take_ofW HT_.out HW_.out (by kernel_rfl)) (fun _ _ _ h => h) (Or.inl ⟨by rfl, ?_⟩) hHeld ?_ ?_
                rotate_left
                · intro w' _
                  go_simp
                  with_reducible rfl
                rotate_left
                · simp only [Act.put, List.setIfInBounds_toArray, List.set_cons_zero, List.set_cons_succ, i64_w, i32_w]
                  rfl
                refine pure_ (i := 3) (N := some 14) (v := ?_) (a' := ?_) #[true, true, true, true, false, false, false, false, false, false, false, false, false, false, false] rfl rfl (any_of HT_.out (by kernel_rfl)) (fun _ _ _ h => h) (Or.inl ⟨by rfl, ?_⟩) ?_ ?_
                rotate_left
                · intro w'
                  go_simp
                  with_reducible rfl
                rotate_left
                · simp only [Act.put, List.setIfInBounds_toArray, List.set_cons_zero, List.set_cons_succ, i64_w, i32_w]
                  rfl
                refine pure_ (i := 4) (N := some 15) (v := ?_) (a' := ?_) #[true, true, true, true, true, false, false, false, false, false, false, false, false, false, false] rfl rfl (any_of HT_.out (by kernel_rfl)) (fun _ _ _ h => h) (Or.inl ⟨by rfl, ?_⟩) ?_ ?_
                rotate_left
                · intro w'
                  go_simp
                  with_reducible rfl
                rotate_left
                · simp only [Act.put, List.setIfInBounds_toArray, List.set_cons_zero, List.set_cons_succ, i64_w, i32_w]
                  rfl
                refine pure_ (i := 5) (N := some 16) (v := ?_) (a' := ?_) #[true, true, true, true, true, true, false, false, false, false, false, false, false, false, false] rfl rfl (any_of HT_.out (by kernel_rfl)) (fun _ _ _ h => h) (Or.inl ⟨by rfl, ?_⟩) ?_ ?_
                rotate_left
                · intro w'
                  go_simp
                  with_reducible rfl
                rotate_left
                · simp only [Act.put, List.setIfInBounds_toArray, List.set_cons_zero, List.set_cons_succ, i64_w, i32_w]
                  rfl
                refine pure_ (i := 6) (N := some 17) (v := ?_) (a' := ?_) #[true, true, true, true, true, true, true, false, false, false, false, false, false, false, false] rfl rfl (any_of HT_.out (by kernel_rfl)) (fun _ _ _ h => h) (Or.inl ⟨by rfl, ?_⟩) ?_ ?_
                rotate_left
                · intro w'
                  go_simp
                  with_reducible rfl
                rotate_left
                · simp only [Act.put, List.setIfInBounds_toArray, List.set_cons_zero, List.set_cons_succ, i64_w, i32_w]
                  rfl
                refine pure_ (i := 7) (N := some 18) (v := ?_) (a' := ?_) #[true, true, true, true, true, true, true, true, false, false, false, false, false, false, false] rfl rfl (any_of HT_.out (by kernel_rfl)) (fun _ _ _ h => h) (Or.inl ⟨by rfl, ?_⟩) ?_ ?_
                rotate_left
                · intro w'
                  go_simp
                  with_reducible rfl
                rotate_left
                · simp only [Act.put, List.setIfInBounds_toArray, List.set_cons_zero, List.set_cons_succ, i64_w, i32_w]
                  rfl
                refine pure_ (i := 9) (N := some 20) (v := ?_) (a' := ?_) #[true, true, true, true, true, true, true, true, false, true, false, false, false, false, false] rfl rfl (any_of HT_.out (by kernel_rfl)) (fun _ _ _ h => h) (Or.inl ⟨by rfl, ?_⟩) ?_ ?_
                rotate_left
                · intro w'
                  go_simp
                  with_reducible rfl
                rotate_left
                · simp only [Act.put, List.setIfInBounds_toArray, List.set_cons_zero, List.set_cons_succ, i64_w, i32_w]
                  rfl
                refine pure_ (i := 10) (N := some 21) (v := ?_) (a' := ?_) #[true, true, true, true, true, true, true, true, false, true, true, false, false, false, false] rfl rfl (any_of HT_.out (by kernel_rfl)) (fun _ _ _ h => h) (Or.inl ⟨by rfl, ?_⟩) ?_ ?_
                rotate_left
                · intro w'
                  go_simp
                  with_reducible rfl
                rotate_left
                · simp only [Act.put, List.setIfInBounds_toArray, List.set_cons_zero, List.set_cons_succ, i64_w, i32_w]
                  rfl
                refine take_ (i := 11) (N := some 22) (v := ?_) (a' := ?_) #[true, true, true, true, true, true, true, true, false, true, true, true, false, false, false] rfl rfl (take_ofW HT_.out HW_.out (by kernel_rfl)) (fun _ _ _ h => h) (Or.inl ⟨by rfl, ?_⟩) hHeld ?_ ?_
                rotate_left
                · intro w' _
                  go_simp
                  with_reducible rfl
                rotate_left
                · simp only [Act.put, List.setIfInBounds_toArray, List.set_cons_zero, List.set_cons_succ, i64_w, i32_w]
                  rfl
                refine pure_ (i := 12) (N := some 23) (v := ?_) (a' := ?_) #[true, true, true, true, true, true, true, true, false, true, true, true, true, false, false] rfl rfl (any_of HT_.out (by kernel_rfl)) (fun _ _ _ h => h) (Or.inl ⟨by rfl, ?_⟩) ?_ ?_
                rotate_left
                · intro w'
                  go_simp
                  with_reducible rfl
                rotate_left
                · simp only [Act.put, List.setIfInBounds_toArray, List.set_cons_zero, List.set_cons_succ, i64_w, i32_w]
                  rfl
                refine one_ (i := 8) (N := some 19) #[true, true, true, true, true, true, true, true, true, true, true, true, true, false, false] rfl rfl (one_of HT_.out (by kernel_rfl)) (by decide) (fun K hK => ?_)
                refine goes_ Tryd.func75 (by kernel_rfl) rfl #[.slice A1 l1.length c1, .int .i64 (wrap64 (x8_1 + 1))] (by rfl) rfl rfl (by (try simp only [List.map_toArray, List.map_cons, List.map_nil]); first | done | rfl | (simp only [List.length_drop, List.length_take]; rfl)) ?_
                with_reducible refine (impl_isLeft.calls _ _ l1 (wrap64 (x8_1 + 1)) t101 _ ?side1 ?side2 A9.out).mono ?_
                (case side1 => repeat (first | exact (Kd.C_below HR1.out HB.out) | (with_reducible refine Kd.C_alloc ?_ _) | (with_reducible refine Kd.C_drewN ?_ _) | (with_reducible refine Kd.C_drew ?_)))
                (case side2 => exact HC1.out)
                rintro e w15 ⟨rfl, hb⟩
                refine ⟨_, rfl, ?_⟩
                have n0_ := Aside0.mk (below_step (by repeat (first | (with_reducible first | exact HB.out | apply below_alloc | apply pw_below_drewN | apply below_drew1) | exact HB.out)) hb)
                clear HB
                have HB := n0_
                clear n0_
                (try clear hb)
                (try clear hb2)
                (try clear hk)
                (try clear hi)
                refine hK.out _ _ trivial (fun hHeld => ?_)
                clear hK K
                refine norm_ (a' := ?_) ?_ ?_
                rotate_left
                · show Act.put _ (some 19) _ = _
                  simp only [Act.put, List.setIfInBounds_toArray, List.set_cons_zero, List.set_cons_succ, i64_w, i32_w]
                  rfl
                refine pure_ (i := 13) (N := some 24) (v := ?_) (a' := ?_) #[true, true, true, true, true, true, true, true, true, true, true, true, true, true, false] rfl rfl (any_of HT_.out (by kernel_rfl)) (fun _ _ _ h => h) (Or.inl ⟨by rfl, ?_⟩) ?_ ?_
                rotate_left
                · intro w'
                  go_simp
                  with_reducible rfl
                rotate_left
                · simp only [Act.put, List.setIfInBounds_toArray, List.set_cons_zero, List.set_cons_succ, i64_w, i32_w]
                  rfl
                refine pure_ (i := 14) (N := some 25) (v := ?_) (a' := ?_) #[true, true, true, true, true, true, true, true, true, true, true, true, true, true, true] rfl rfl (any_of HT_.out (by kernel_rfl)) (fun _ _ _ h => h) (Or.inl ⟨by rfl, ?_⟩) ?_ ?_
                rotate_left
                · intro w'
                  go_simp
                  with_reducible rfl
                rotate_left
                · simp only [Act.put, List.setIfInBounds_toArray, List.set_cons_zero, List.set_cons_succ, i64_w, i32_w]
                  rfl
                refine done_ (done_of HT_.out (by kernel_rfl)) ?_
                try go_wp2
                go_roundg k1
                case measure => have := HK1.out; omega
                case rel => exact ⟨(wrap64 (x8_1 + 1)), (by first | rfl | (simp; done) | (simp [*]; done)), H', ⟨by have := HK1.out; omega⟩, ⟨by repeat (first | (with_reducible first | exact HB.out | apply below_alloc | apply pw_below_drewN | apply below_drew1) | exact HB.out)⟩⟩
          · rw [if_neg c5] at H
            exact absurd H (by simp)
        · rw [if_neg c4] at H
          exact absurd H (by simp)
      · rw [if_neg c3] at H
        have c3b0 : decide (x8_1 < (a0.size : Int)) = false := decide_eq_false c3
        clear c3
        obtain rfl := Option.some.inj H
        go_wp2
        go_ret
        exact ⟨by first | rfl | (simp [errW_none, errW_some] <;> rfl) | (simp [*, errW_none, errW_some] <;> rfl), by repeat (first | (with_reducible first | exact HB.out | apply below_alloc | apply pw_below_drewN | apply below_drew1) | exact HB.out)⟩
end Go.Proofs.YtjekkcjlfgfnkaaDoor.P
namespace Go.Proofs.YtjekkcjlfgfnkaaDoor.P
open Go.RowKit Go.Proofs.YtjekkcjlfgfnkaaDoorW.PrintWords Go.Proofs.YtjekkcjlfgfnkaaDoorW.PrintLast Go.Proofs.YtjekkcjlfgfnkaaDoorW.PrintMore
attribute [local go_sem] max2_int min2_int max_two min_two max_three min_three max_four min_four
set_option linter.unusedVariables false
set_option linter.unusedSimpArgs false
mutual
def impl_someAnswers_1.f : Nat → ByteArray → Int → Int → List SRule → List SRule → Int → List (List SRule) → Option (List (List SRule))
  | 0, _, _, _, _, _, _, _ => none
  | k + 1, p, R, most, rules, list, frm, out => if (out.length : Int) = most then some out else (if (list.length : Int) = R then ((impl_agrees.f k p list).bind fun t => if t = true then (if out.length < 5864062014805 then some (out ++ [list]) else none) else some out) else impl_someAnswers_1.l0 k p R most rules list out frm)
def impl_someAnswers_1.l0 : Nat → ByteArray → Int → Int → List SRule → List SRule → List (List SRule) → Int → Option (List (List SRule))
  | 0, _, _, _, _, _, _, _ => none
  | k + 1, p, R, most, rules, list, out, i => if i < (rules.length : Int) then (if 0 ≤ i then (if list.length < 8796093022207 then ((impl_someAnswers_1.f k p R most rules (list ++ [rd_Rule rules i]) (wrap64 (i + 1)) out).bind fun o => impl_someAnswers_1.l0 k p R most rules list o (wrap64 (i + 1))) else none) else none) else some out
end
theorem goesV_ {P : Program} {ops : Array Oper} {Q : Exit → Act → World → Prop} {oi : Oper} {N : Option Tmp} {a : Act} {w : World} {K : Act → World → Prop} {f : FuncId} {fn : Func} {fv : Operand} {xs : Array Operand} {ts : Array TypeId} (lb : Array Value) (hf : P.funcs[f]? = some fn) (hname : (fn.name == "runtime.NumGoroutine") = false) (hb : fn.body.isSome = true) (args : Array Value)
    (hw : Region.wanted oi (yielded ops a.tmps) = true) (hN : oi.dst = N) (hop : oi.op = .call { callee := .value fv, args := xs, argTypes := ts }) (hv : a.eval fv = .func (.func f) #[] lb) (hargs : xs.map a.eval = args)
    (h : Calls P f (args ++ lb) w fun e w' => ∃ v, e = .returned v ∧ K (a.put N v) w') : if Region.wanted oi (yielded ops a.tmps) = true then Oper.wp P oi a w K Q else K (a.put N undef) w := by
  refine call_ f (args ++ lb) hw hN ?_ h
  have he := enters_ hf hname hb (args ++ lb) w
  unfold execOp
  simp [hop, resolve, Deferred.ofValue, invoke, hv, hargs, he]
structure ChMv (g : Nat) (row : Option Nat) (w w' : World) : Prop where
  os : w'.os = w.os
  tape : w'.tape = w.tape
  output : w'.output = w.output
  size : w.heap.size ≤ w'.heap.size
  block : ∀ k, k < w.heap.size → k ≠ g → some k ≠ row → w'.heap[k]? = w.heap[k]?
section
variable {g : Nat} {row row' : Option Nat} {w w1 w2 : World}
theorem ChMv.of_below (h : Below w.heap.size w w1) : ChMv g row w w1 := ⟨h.os, h.tape, h.output, h.size, fun k hk _ _ => h.block k hk⟩
theorem ChMv.of_grown (h : w.grownBy w1 row) : ChMv g row w w1 := ⟨h.os, h.tape, h.output, h.size, fun k hk _ hr => h.block k hk hr⟩
theorem ChMv.refl (w : World) : ChMv g row w w := ChMv.of_below (Below.refl _ _)
theorem ChMv.trans (h : ChMv g row w w1) (h2 : ChMv g row' w1 w2) (hr : ∀ k, row' = some k → row = some k ∨ w.heap.size ≤ k) : ChMv g row w w2 :=
  ⟨h2.os.trans h.os, h2.tape.trans h.tape, h2.output.trans h.output, Nat.le_trans h.size h2.size, fun k hk hg hne => (h2.block k (Nat.lt_of_lt_of_le hk h.size) hg (fun e => by
    rcases hr k e.symm with hr | hb
    · exact hne hr.symm
    · omega)).trans (h.block k hk hg hne)⟩
theorem ChMv.then_below (h : ChMv g row w w1) (hb : Below w1.heap.size w1 w2) : ChMv g row w w2 := ChMv.trans h (ChMv.of_below (row := none) hb) (fun k hk => by simp at hk)
theorem ChMv.set (h : ChMv g row w w1) (u : Value) : ChMv g row w (w1.setCell ⟨g, 0, none⟩ u) :=
  ⟨h.os, h.tape, h.output, by simpa [World.setCell] using h.size, fun k hk hg hr => (Below.heap_setCell w1 ⟨g, 0, none⟩ u k hg).trans (h.block k hk hg hr)⟩
theorem ChMv.blk {b gL : Nat} {o : Obj} (h : ChMv g (some gL) w w1) (hb : w.heap[b]? = some o) (hne : b ≠ g ∧ b ≠ gL) : w1.heap[b]? = some o := (h.block b (blk_lt hb) hne.1 (by simpa using hne.2)).trans hb
end
def ChFix (w0 : World) (bs gL g gM gP gR gC : Nat) (p : ByteArray) (R most : Int) (AR : Option Addr) (cR : Nat) (rules : List SRule) : Prop :=
  (g < w0.heap.size ∧ g ≠ gL ∧ bs ≤ w0.heap.size) ∧ ((gM ≠ g ∧ gM ≠ gL) ∧ (gP ≠ g ∧ gP ≠ gL) ∧ (gR ≠ g ∧ gR ≠ gL) ∧ (gC ≠ g ∧ gC ≠ gL)) ∧ w0.heap[gM]? = some (.cells #[.int .i64 most] 3 (0, 0)) ∧ w0.heap[gP]? = some (.cells #[.string p, .int .i64 R] 26 (0, 0)) ∧ w0.heap[gR]? = some (.cells #[.slice AR rules.length cR] 35 (0, 0)) ∧ w0.heap[gC]? = some (.cells #[.func (.func 67) #[] #[.pointer (some ⟨g, 0, none⟩), .pointer (some ⟨gM, 0, none⟩), .pointer (some ⟨gP, 0, none⟩), .pointer (some ⟨gR, 0, none⟩), .pointer (some ⟨gC, 0, none⟩)]] 75 (0, 0)) ∧ rules.length ≤ cR ∧ (∀ W', ChMv g (some gL) w0 W' → Kd.C kRule W' AR rules.length rules)
def ChSt (w0 : World) (bs gL g : Nat) (vo : Value) (out : List (List SRule)) (W : World) : Prop :=
  W.heap[g]? = some (.cells #[vo] 62 (0, 0)) ∧ Kd.S (Kd.slice 41 kRule) 35 W bs (fun k => k = gL ∨ w0.heap.size ≤ k) vo out ∧ ChMv g (some gL) w0 W
theorem ChSt.below {w0 : World} {bs gL g : Nat} {vo : Value} {out : List (List SRule)} {W W1 : World} (h : ChSt w0 bs gL g vo out W) (hb : Below W.heap.size W W1) : ChSt w0 bs gL g vo out W1 :=
  ⟨blk_below h.1 hb, Kd.S_below h.2.1 hb, ChMv.then_below h.2.2 hb⟩
def ChRo (W : World) (vo v : Value) : Prop := ∀ k, v.ownBlock = some k → vo.ownBlock = some k ∨ W.heap.size ≤ k
theorem ch_list {w0 : World} {bs gL g b' : Nat} {ok' : Nat → Prop} {vo : Value} {out : List (List SRule)} {W W1 : World} {A : Option Addr} {c : Nat} {l : List SRule} (hS : ChSt w0 bs gL g vo out W) (h : Kd.R kRule 41 W b' ok' (.slice A l.length c) l) (hm : ChMv g vo.ownBlock W W1) : Kd.C kRule W1 A l.length l :=
  (Kd.R_reads' (Kd.R_step (Kd.R_bound h) (fun k hk hlt => hm.block k hlt (fun e => by
    obtain ⟨_, _, _, q, hq, cells', hc'⟩ := hk
    rw [e, hS.1] at hc'
    injection hc' with hc'
    injection hc' with _ hq'
    subst hq'
    revert hq
    decide) (fun e => by
    obtain ⟨cells, hc⟩ := Kd.S_typed hS.2.1 k e.symm
    obtain ⟨_, _, _, q, hq, cells', hc'⟩ := hk
    rw [hc] at hc'
    injection hc' with hc'
    injection hc' with _ hq'
    subst hq'
    revert hq
    decide)))).2.2
theorem ch_rules {gL g b' : Nat} {ok' : Nat → Prop} {W W1 : World} {cs : Array Value} {A : Option Addr} {c : Nat} {l : List SRule} (hG : W.heap[g]? = some (.cells cs 62 (0, 0))) (hL : ∃ cells, W.heap[gL]? = some (.cells cells 35 (0, 0))) (h : Kd.R kRule 41 W b' ok' (.slice A l.length c) l) (hm : ChMv g (some gL) W W1) : Kd.C kRule W1 A l.length l :=
  (Kd.R_reads' (Kd.R_step (Kd.R_bound h) (fun k hk hlt => hm.block k hlt (fun e => by
    obtain ⟨_, _, _, q, hq, cells', hc'⟩ := hk
    rw [e, hG] at hc'
    injection hc' with hc'
    injection hc' with _ hq'
    subst hq'
    revert hq
    decide) (fun e => by
    obtain ⟨cells, hc⟩ := hL
    obtain ⟨_, _, _, q, hq, cells', hc'⟩ := hk
    injection e with e
    rw [e, hc] at hc'
    injection hc' with hc'
    injection hc' with _ hq'
    subst hq'
    revert hq
    decide)))).2.2
theorem infoS_RuleA : (Tryd.prog.info? 35).map (fun i => (i.zero, i.size, i.bytes)) = some (some (.slice none 0 0), 1, 24) := by kernel_rfl
set_option maxHeartbeats 8000000 in
set_option maxRecDepth 100000 in
theorem impl_someAnswers_1.own (w0 : World) (bs gL g gM gP gR gC : Nat) (p : ByteArray) (R most : Int) (AR : Option Addr) (cR : Nat) (rules : List SRule) (hfix : Aside0 (ChFix w0 bs gL g gM gP gR gC p R most AR cR rules)) (k : Nat) : ∀ (list : List SRule) (frm : Int) (out r : List (List SRule)) (Al : Option Addr) (cl : Nat) (vo : Value) (W : World)
    (_ : ChSt w0 bs gL g vo out W) (_ : list.length ≤ cl) (_ : Kd.R kRule 41 W w0.heap.size (fun _ => True) (.slice Al list.length cl) list) (_ : Kd.S (Kd.slice 41 kRule) 35 W bs (fun k => (k = gL ∨ w0.heap.size ≤ k) ∧ some k ≠ (Value.slice Al list.length cl).ownBlock) vo out) (_ : impl_someAnswers_1.f k p R most rules list frm out = some r),
    Calls Tryd.prog 67 (#[.slice Al list.length cl, .int .i64 frm] ++ #[.pointer (some ⟨g, 0, none⟩), .pointer (some ⟨gM, 0, none⟩), .pointer (some ⟨gP, 0, none⟩), .pointer (some ⟨gR, 0, none⟩), .pointer (some ⟨gC, 0, none⟩)]) W fun e w' => e = .returned (.tuple #[]) ∧ ∃ v1, ChSt w0 bs gL g v1 r w' ∧ ChMv g vo.ownBlock W w' ∧ ChRo W vo v1 := by
  induction k using Nat.strongRecOn with
  | ind k ih =>
  intro list frm out r Al cl vo W hst hlc hown hap h
  have hcM : W.cell? ⟨gM, 0, none⟩ = some (.int .i64 most) := (blk_cell (ChMv.blk hst.2.2 hfix.out.2.2.1 hfix.out.2.1.1) 0).trans rfl
  have hcP0 : W.cell? ⟨gP, 0, none⟩ = some (.string p) := (blk_cell (ChMv.blk hst.2.2 hfix.out.2.2.2.1 hfix.out.2.1.2.1) 0).trans rfl
  have hcP1 : W.cell? ⟨gP, 1, none⟩ = some (.int .i64 R) := (blk_cell (ChMv.blk hst.2.2 hfix.out.2.2.2.1 hfix.out.2.1.2.1) 1).trans rfl
  have hS0 := hst.2.1
  obtain ⟨Ao, co, eo⟩ := Kd.S_slice hS0
  subst eo
  have hcG : W.cell? ⟨g, 0, none⟩ = some (.slice Ao out.length co) := (blk_cell hst.1 0).trans rfl
  have HLC := Aside0.mk (show ∀ W1, ChMv g (Value.slice Ao out.length co).ownBlock W W1 → Kd.C kRule W1 Al list.length list from fun W1 hm => ch_list hst hown hm)
  have IH := Aside0.mk ih
  have HST0 := Aside0.mk hst
  have HLE := Aside0.mk hlc
  have HOWN := Aside0.mk hown
  have HAP := Aside0.mk hap
  have HG := Aside0.mk hfix.out.1
  clear ih hst hlc hown hap hS0
  cases k with
  | zero => exact absurd h (by simp [impl_someAnswers_1.f])
  | succ k =>
    simp only [impl_someAnswers_1.f] at h
    by_cases c1_ : (out.length : Int) = most
    · rw [if_pos c1_] at h
      have c1b : ((out.length : Int) == most) = true := beq_iff_eq.mpr c1_
      have HR := Aside0.mk (Option.some.inj h)
      clear c1_ h
      go_enter Tryd.func67, Tryd.ntmps67
      go_wp2
      (first | (refine bodyPost_ret (results_none rfl _ _ _) rfl ?_) | go_end0)
      exact ⟨rfl, _, by rw [← HR.out]; exact HST0.out, ChMv.refl _, fun _ h_ => .inl h_⟩
    · rw [if_neg c1_] at h
      have c1b : ((out.length : Int) == most) = false := beq_eq_false_iff_ne.mpr c1_
      clear c1_
      by_cases c2_ : (list.length : Int) = R
      · rw [if_pos c2_] at h
        have c2b : ((list.length : Int) == R) = true := beq_iff_eq.mpr c2_
        clear c2_
        replace h := Option.bind_eq_some_iff.mp h
        obtain ⟨t, A0_, h⟩ := h
        have A_ := Aside0.mk A0_
        clear A0_
        cases t with
        | true =>
          rw [if_pos rfl] at h
          by_cases c3_ : out.length < 5864062014805
          · rw [if_pos c3_] at h
            have HLO := Aside0.mk c3_
            have HR := Aside0.mk (Option.some.inj h)
            clear c3_ h
            go_enter Tryd.func67, Tryd.ntmps67
            go_wp2_with (first | ((with_reducible refine gate_callee (f := 64) rfl ?_); refine goesL_ (some 22) rfl rfl Tryd.func64 (by kernel_rfl) rfl #[.string p, .slice Al list.length cl] rfl (by (try simp only [List.map_toArray, List.map_cons, List.map_nil]); first | done | rfl) ?_; (with_reducible refine (impl_agrees.calls k p _ _ list true _ ?side1 ?side2 A_.out).mono ?_); (case side1 => exact HLC.out _ (ChMv.refl _)); (case side2 => exact HLE.out); rintro e w1 ⟨rfl, hb⟩; refine ⟨_, rfl, ?_⟩; have HB1 := Aside0.mk hb; have hcG1 : w1.cell? ⟨g, 0, none⟩ = some (.slice Ao out.length co) := (blk_cell (blk_below HST0.out.1 hb) 0).trans rfl; clear hb) | ((with_reducible refine gate_builtin (b := .append) (xs := #[.tmp 23, .tmp 25]) rfl ?_); at_builtin; refine Kd.S_append (Kd.slice 41 kRule) (w0 := w1) bs rfl (.tmp 23) (.tmp 25) 62 35 (.slice none 0 0) 24 rfl Tryd.underlying62 infoS_RuleA rfl (by decide) (by omega) (.slice Ao out.length co) out list [.slice Al list.length cl] (fun k_ => k_ = gL ∨ w0.heap.size ≤ k_) (fun k_ => some k_ = (.slice Al list.length cl : Value).ownBlock) rfl rfl ?aP ?aK ?aF ?aO ?aB ?aS ?aL ?_; (case aP => exact Kd.M_row (Kd.R_tight rfl (Kd.R_lower (Kd.R_below HOWN.out HB1.out) HG.out.2.2))); (case aF => exact (fun k_ hk => .inr (Nat.le_trans (Nat.le_trans HST0.out.2.2.size HB1.out.size) hk))); (case aK => exact (fun k_ hk => ⟨.inr (Kd.R_base HOWN.out k_ hk.symm), fun e_ => ((Kd.S_R HAP.out).1 k_ e_.symm).2 hk⟩)); (case aO => exact Kd.S_below HAP.out HB1.out); (case aB => exact Below.refl _ _); (case aS => exact Nat.le_trans HG.out.2.2 (Nat.le_trans HST0.out.2.2.size HB1.out.size)); (case aL => have h_ := HLO.out; omega); intro v1 w4 ho hb hg hat; rw [HR.out] at ho; obtain ⟨A1v, c1v, e1v⟩ := Kd.S_slice ho; subst e1v; have HO4 := Aside0.mk ho; have HG4 := Aside0.mk hg; have HAT := Aside0.mk hat; have hbk4 := blk_grown (blk_below HST0.out.1 HB1.out) hg (fun e_ => by have h1_ := (Kd.S_R HST0.out.2.1).1 g e_.symm; have h2_ := HG.out; omega); have HK4 := Aside0.mk hbk4; have hcG4 : w4.cell? ⟨g, 0, none⟩ = some (.slice Ao out.length co) := (blk_cell hbk4 0).trans rfl; have hfG4 := blk_frozen hbk4 0; clear ho hb hg hat hbk4))
            (first | (refine bodyPost_ret (results_none rfl _ _ _) rfl ?_) | go_end0)
            refine ⟨rfl, (.slice A1v r.length c1v), ?_, ?_, ?_⟩
            · refine ⟨blk_put HK4.out 0 (.slice A1v r.length c1v) rfl, ?_, ?_⟩
              · exact Kd.S_mono (Kd.S_far (p := ⟨g, 0, none⟩) (Kd.S_bound HO4.out) (fun k_ hk => by have h1_ := hk.1; have h2_ := HG.out; show k_ ≠ g; omega) (.slice A1v r.length c1v)) (fun _ hk => hk.1)
              · exact ChMv.set (ChMv.trans (ChMv.then_below HST0.out.2.2 HB1.out) (ChMv.of_grown HG4.out) (fun k_ hk => ((Kd.S_R HST0.out.2.1).1 k_ hk).imp (fun e_ => by rw [e_]) id)) _
            · exact ChMv.set (ChMv.trans (ChMv.of_below HB1.out) (ChMv.of_grown HG4.out) (fun _ h_ => .inl h_)) _
            · exact (fun k_ hk => HAT.out.elim (fun e_ => .inl (e_ ▸ hk)) (fun ⟨b_, e_, hb_⟩ => .inr (by rw [e_] at hk; injection hk with hk; have := HB1.out.size; omega)))
          · rw [if_neg c3_] at h
            exact absurd h (by simp)
        | false =>
          rw [if_neg (by decide)] at h
          have HR := Aside0.mk (Option.some.inj h)
          clear h
          go_enter Tryd.func67, Tryd.ntmps67
          go_wp2_with (((with_reducible refine gate_callee (f := 64) rfl ?_); refine goesL_ (some 22) rfl rfl Tryd.func64 (by kernel_rfl) rfl #[.string p, .slice Al list.length cl] rfl (by (try simp only [List.map_toArray, List.map_cons, List.map_nil]); first | done | rfl) ?_; (with_reducible refine (impl_agrees.calls k p _ _ list false _ ?side1 ?side2 A_.out).mono ?_); (case side1 => exact HLC.out _ (ChMv.refl _)); (case side2 => exact HLE.out); rintro e w1 ⟨rfl, hb⟩; refine ⟨_, rfl, ?_⟩; have HB1 := Aside0.mk hb; clear hb))
          (first | (refine bodyPost_ret (results_none rfl _ _ _) rfl ?_) | go_end0)
          exact ⟨rfl, _, by rw [← HR.out]; exact ChSt.below HST0.out HB1.out, ChMv.of_below HB1.out, fun _ h_ => .inl h_⟩
      · rw [if_neg c2_] at h
        have c2b : ((list.length : Int) == R) = false := beq_eq_false_iff_ne.mpr c2_
        clear c2_
        have H' := Aside0.mk h
        clear h
        have HMV0 := Aside0.mk (ChMv.refl (g := g) (row := (Value.slice Ao out.length co).ownBlock) W)
        have HRO0 := Aside0.mk (show ChRo W (Value.slice Ao out.length co) (Value.slice Ao out.length co) from fun _ h_ => .inl h_)
        go_enter Tryd.func67, Tryd.ntmps67
        go_wp2
        go_loopg [9] k (fun kq v9 wx => ∃ (o : List (List SRule)) (i : Int) (vq : Value), v9 = .int .i64 i ∧ Aside0 (impl_someAnswers_1.l0 kq p R most rules list o i = some r) ∧ Aside0 (kq ≤ k) ∧ Aside0 (ChSt w0 bs gL g vq o wx) ∧ Aside0 (ChMv g (Value.slice Ao out.length co).ownBlock W wx) ∧ Aside0 (ChRo W (Value.slice Ao out.length co) vq))
        case atStart => exact ⟨out, frm, _, rfl, H', ⟨Nat.le_refl _⟩, HST0, HMV0, HRO0⟩
        case round =>
          clear H' HMV0 HRO0 hcG hcM hcP0 hcP1
          obtain ⟨o, i, vq, rfl, HA_, HK, HST, HMV, HRO⟩ := hrel
          cases gk with
          | zero => exact absurd HA_.out (by simp [impl_someAnswers_1.l0])
          | succ k1 =>
            have H := HA_.out
            clear HA_
            simp only [impl_someAnswers_1.l0] at H
            have hcR : wr.cell? ⟨gR, 0, none⟩ = some (.slice AR rules.length cR) := (blk_cell (ChMv.blk HST.out.2.2 hfix.out.2.2.2.2.1 hfix.out.2.1.2.2.1) 0).trans rfl
            by_cases c1_ : i < (rules.length : Int)
            · rw [if_pos c1_] at H
              have c1b_ : decide (i < (rules.length : Int)) = true := decide_eq_true c1_
              by_cases c2_ : 0 ≤ i
              · rw [if_pos c2_] at H
                have c2b_ : decide (0 ≤ i) = true := decide_eq_true c2_
                by_cases c3_ : list.length < 8796093022207
                · rw [if_pos c3_] at H
                  have HLB := Aside0.mk c3_
                  clear c3_
                  replace H := Option.bind_eq_some_iff.mp H
                  obtain ⟨o2, A0_, H⟩ := H
                  have A_ := Aside0.mk A0_
                  have H' := Aside0.mk H
                  clear A0_ H
                  obtain ⟨Aq, cq, eq_⟩ := Kd.S_slice HST.out.2.1
                  subst eq_
                  obtain ⟨ad, e_, hx0, hx1⟩ := at_Rule (hfix.out.2.2.2.2.2.2.2 _ HST.out.2.2) i c2_ c1_
                  subst e_
                  have hcC : wr.cell? ⟨gC, 0, none⟩ = some (.func (.func 67) #[] #[.pointer (some ⟨g, 0, none⟩), .pointer (some ⟨gM, 0, none⟩), .pointer (some ⟨gP, 0, none⟩), .pointer (some ⟨gR, 0, none⟩), .pointer (some ⟨gC, 0, none⟩)]) := (blk_cell (ChMv.blk HST.out.2.2 hfix.out.2.2.2.2.2.1 hfix.out.2.1.2.2.2) 0).trans rfl
                  have HXc := Aside0.mk (show wr.drew.cell? ⟨gC, 0, none⟩ = _ from hcC)
                  have HXr := Aside0.mk (show wr.drew.cell? ⟨gR, 0, none⟩ = _ from hcR)
                  have HX0 := Aside0.mk (show wr.drew.cell? (ad.add (i.toNat * 2)) = _ from hx0)
                  have HX1 := Aside0.mk (show wr.drew.cell? ⟨(ad.add (i.toNat * 2)).block, (ad.add (i.toNat * 2)).off + 1, none⟩ = _ from hx1)
                  have HBx := Aside0.mk (below_drew1 (Below.refl wr.heap.size wr))
                  clear hx0 hx1 hcC
                  go_wp2
                  refine start_ (n := 13) (S := fun w' => w'.cell? ⟨gC, 0, none⟩ = some (.func (.func 67) #[] #[.pointer (some ⟨g, 0, none⟩), .pointer (some ⟨gM, 0, none⟩), .pointer (some ⟨gP, 0, none⟩), .pointer (some ⟨gR, 0, none⟩), .pointer (some ⟨gC, 0, none⟩)]) ∧ w'.cell? ⟨gR, 0, none⟩ = some (.slice (some ad) rules.length cR) ∧ w'.cell? (ad.add (i.toNat * 2)) = some (.int .i64 (rd_Rule rules i).f0) ∧ w'.cell? ⟨(ad.add (i.toNat * 2)).block, (ad.add (i.toNat * 2)).off + 1, none⟩ = some (.int .i64 (rd_Rule rules i).f1)) (ds := [12]) #[false, false, false, false, false, false, false, false, false, false, false, false, false] (by kernel_rfl) rfl rfl ⟨HXc.out, HXr.out, HX0.out, HX1.out⟩ (fun hHeld => ?_)
                  generalize wr.drew = wS at HXc HXr HX0 HX1 HBx hHeld ⊢
                  have HBc := Aside0.mk (Below.refl wS.heap.size wS)
                  refine pure_ (i := 2) (N := some 36) (v := ?_) (a' := ?_) #[false, false, true, false, false, false, false, false, false, false, false, false, false] rfl rfl (by kernel_rfl) (fun _ _ _ h => h) (Or.inl ⟨by rfl, ?_⟩) ?_ ?_
                  rotate_left
                  · intro w'
                    go_simp
                    with_reducible rfl
                  rotate_left
                  · simp only [Act.put, List.setIfInBounds_toArray, List.set_cons_zero, List.set_cons_succ, i64_w, i32_w]
                    rfl
                  refine pure_ (i := 5) (N := some 39) (v := ?_) (a' := ?_) #[false, false, true, false, false, true, false, false, false, false, false, false, false] rfl rfl (by kernel_rfl) (fun _ _ _ h => h) (Or.inl ⟨by rfl, ?_⟩) ?_ ?_
                  rotate_left
                  · intro w'
                    go_simp
                    with_reducible rfl
                  rotate_left
                  · simp only [Act.put, List.setIfInBounds_toArray, List.set_cons_zero, List.set_cons_succ, i64_w, i32_w]
                    rfl
                  refine pure_ (i := 10) (N := some 44) (v := ?_) (a' := ?_) #[false, false, true, false, false, true, false, false, false, false, true, false, false] rfl rfl (by kernel_rfl) (fun _ _ _ h => h) (Or.inl ⟨by rfl, ?_⟩) ?_ ?_
                  rotate_left
                  · intro w'
                    go_simp
                    with_reducible rfl
                  rotate_left
                  · simp only [Act.put, List.setIfInBounds_toArray, List.set_cons_zero, List.set_cons_succ, i64_w, i32_w]
                    rfl
                  refine pure_ (i := 11) (N := some 45) (v := ?_) (a' := ?_) #[false, false, true, false, false, true, false, false, false, false, true, true, false] rfl rfl (by kernel_rfl) (fun _ _ _ h => h) (Or.inl ⟨by rfl, ?_⟩) ?_ ?_
                  rotate_left
                  · intro w'
                    go_simp
                    with_reducible rfl
                  rotate_left
                  · simp only [Act.put, List.setIfInBounds_toArray, List.set_cons_zero, List.set_cons_succ, i64_w, i32_w]
                    rfl
                  refine take_ (i := 0) (N := some 34) (v := ?_) (a' := ?_) #[true, false, true, false, false, true, false, false, false, false, true, true, false] rfl rfl (by kernel_rfl) (fun _ _ _ h => h) (Or.inl ⟨by rfl, ?_⟩) hHeld ?_ ?_
                  rotate_left
                  · rintro w' ⟨s0, s1, s2, s3⟩
                    go_simp
                    with_reducible rfl
                  rotate_left
                  · simp only [Act.put, List.setIfInBounds_toArray, List.set_cons_zero, List.set_cons_succ, i64_w, i32_w]
                    rfl
                  refine take_ (i := 4) (N := some 38) (v := ?_) (a' := ?_) #[true, false, true, false, true, true, false, false, false, false, true, true, false] rfl rfl (by kernel_rfl) (fun _ _ _ h => h) (Or.inl ⟨by rfl, ?_⟩) hHeld ?_ ?_
                  rotate_left
                  · rintro w' ⟨s0, s1, s2, s3⟩
                    go_simp
                    with_reducible rfl
                  rotate_left
                  · simp only [Act.put, List.setIfInBounds_toArray, List.set_cons_zero, List.set_cons_succ, i64_w, i32_w]
                    rfl
                  refine pure_ (i := 6) (N := some 40) (v := ?_) (a' := ?_) #[true, false, true, false, true, true, true, false, false, false, true, true, false] rfl rfl (by kernel_rfl) (fun _ _ _ h => h) (Or.inl ⟨by rfl, ?_⟩) ?_ ?_
                  rotate_left
                  · intro w'
                    go_simp
                    with_reducible rfl
                  rotate_left
                  · simp only [Act.put, List.setIfInBounds_toArray, List.set_cons_zero, List.set_cons_succ, i64_w, i32_w]
                    rfl
                  refine take_ (i := 7) (N := some 41) (v := ?_) (a' := ?_) #[true, false, true, false, true, true, true, true, false, false, true, true, false] rfl rfl (by kernel_rfl) (fun _ _ _ h => h) (Or.inl ⟨by rfl, ?_⟩) hHeld ?_ ?_
                  rotate_left
                  · rintro w' ⟨s0, s1, s2, s3⟩
                    go_simp
                    with_reducible rfl
                  rotate_left
                  · simp only [Act.put, List.setIfInBounds_toArray, List.set_cons_zero, List.set_cons_succ, i64_w, i32_w]
                    rfl
                  refine join_ (σ := Value × Value × Value) 2 #[true, true, true, true, true, true, true, true, true, false, true, true, false] (fun s_ => [(35, s_.1), (37, s_.2.1), (42, s_.2.2)]) (fun s_ w' => Kd.R kRule 41 w' wS.heap.size (fun _ => True) s_.2.1 list ∧ Kd.R kRule 41 w' wS.heap.size (fun _ => True) s_.2.2 [rd_Rule rules i] ∧ Below wS.heap.size wS w') ?_ ?_
                  rotate_left
                  · intro hCont
                    refine two_ (i := 1) (j := 8) (Ni := some 35) (Nj := some 42) #[true, true, true, false, true, true, true, true, false, false, true, true, false] #[true, false, true, false, true, true, true, true, true, false, true, true, false] rfl rfl rfl rfl (by kernel_rfl) (by decide) (by decide) (fun K hK => ?_) (fun K hK => ?_)
                    · skip
                      refine Kd.R_lit_step kRule _ 41 ?hg (N := 35) ?hd (xs := ([] : List SRule)) (inner := []) (ok := fun _ => True) (okp := fun _ => True) ?hr ?hp (fun _ hk => hk) trivial (Below.refl _ _) (Nat.le_refl _) (by simp) ?_
                      (case hd => rfl)
                      (case hg => rfl)
                      (case hr => first | (go_simp; done) | (go_simp; rfl))
                      (case hp => exact Reps.none _ _)
                      intro v35 w1_0 ho hb hg_ hnew_
                      clear hg_ hnew_
                      have HL0 := Aside0.mk (Kd.R_lower ho (below_size HBc.out))
                      clear ho
                      have n9_ := Aside0.mk (below_step HBc.out hb)
                      clear HBc hb
                      have HBc := n9_
                      clear n9_
                      refine hK.out _ _ ⟨(pw_cell_below HBc.out HXc.out), (pw_cell_below HBc.out HXr.out), (pw_cell_below HBc.out HX0.out), (pw_cell_below HBc.out HX1.out)⟩ (fun hHeld => ?_)
                      clear hK K
                      refine norm_ (a' := ?_) ?_ ?_
                      rotate_left
                      · show Act.put _ (some 35) _ = _
                        simp only [Act.put, List.setIfInBounds_toArray, List.set_cons_zero, List.set_cons_succ, i64_w, i32_w]
                        rfl
                      refine two_ (i := 3) (j := 8) (Ni := some 37) (Nj := some 42) #[true, true, true, true, true, true, true, true, false, false, true, true, false] #[true, true, true, false, true, true, true, true, true, false, true, true, false] rfl rfl rfl rfl (by kernel_rfl) (by decide) (by decide) (fun K hK => ?_) (fun K hK => ?_)
                      · skip
                        refine Kd.R_append_rows_step kRule (w0 := wS) wS.heap.size (by rfl) (.tmp 35) (.tmp 36) 35 41 (.agg #[(.int .i64 0), (.int .i64 0)]) 16 rfl Tryd.underlying35 infoE_Rule rfl (by decide) (by omega) v35 ([] : List SRule) list _ _ _ (fun _ => True) (fun _ => False) rfl rfl HL0.out ?aR (fun _ _ h => h) (fun _ h => h.elim) (fun _ _ => trivial) HBc.out (below_size HBc.out) ?aL ?_
                        (case aR => exact HLC.out _ (ChMv.then_below (ChMv.then_below HMV.out HBx.out) HBc.out))
                        (case aL => have h_ := HLB.out; simp only [List.length_nil]; omega)
                        intro v37 w3_1 ho hb hg hat_
                        simp only [List.nil_append] at ho
                        clear hg hat_ HL0 HBc
                        have HA := Aside0.mk ho
                        have HBc := Aside0.mk hb
                        clear ho hb
                        refine hK.out _ _ ⟨(pw_cell_below HBc.out HXc.out), (pw_cell_below HBc.out HXr.out), (pw_cell_below HBc.out HX0.out), (pw_cell_below HBc.out HX1.out)⟩ (fun hHeld => ?_)
                        clear hK K
                        refine norm_ (a' := ?_) ?_ ?_
                        rotate_left
                        · show Act.put _ (some 37) _ = _
                          simp only [Act.put, List.setIfInBounds_toArray, List.set_cons_zero, List.set_cons_succ, i64_w, i32_w]
                          rfl
                        refine one_ (i := 8) (N := some 42) #[true, true, true, true, true, true, true, true, true, false, true, true, false] rfl rfl (by kernel_rfl) (by decide) (fun K hK => ?_)
                        refine Kd.R_lit_step kRule _ 41 ?hg (N := 42) ?hd (xs := ([rd_Rule rules i] : List SRule)) (inner := [.int .i64 (rd_Rule rules i).f0, .int .i64 (rd_Rule rules i).f1]) (ok := fun _ => True) (okp := fun _ => True) ?hr ?hp (fun _ hk => hk) trivial (Below.refl _ _) (Nat.le_refl _) (by simp) ?_
                        (case hd => rfl)
                        (case hg => rfl)
                        (case hr => first | (go_simp; done) | (go_simp; rfl))
                        (case hp => exact Reps.front (kRule_mkM _ _ _ (rd_Rule rules i)) rfl (Reps.none _ _) rfl)
                        intro v42 w8_2 ho hb hg_ hnew_
                        clear hg_ hnew_
                        have n1_ := Aside0.mk (Kd.R_below HA.out hb)
                        clear HA
                        have HA := n1_
                        clear n1_
                        have HL1 := Aside0.mk (Kd.R_lower ho (below_size HBc.out))
                        clear ho
                        have n9_ := Aside0.mk (below_step HBc.out hb)
                        clear HBc hb
                        have HBc := n9_
                        clear n9_
                        refine hK.out _ _ ⟨(pw_cell_below HBc.out HXc.out), (pw_cell_below HBc.out HXr.out), (pw_cell_below HBc.out HX0.out), (pw_cell_below HBc.out HX1.out)⟩ (fun hHeld => ?_)
                        clear hK K
                        refine norm_ (a' := ?_) ?_ ?_
                        rotate_left
                        · show Act.put _ (some 42) _ = _
                          simp only [Act.put, List.setIfInBounds_toArray, List.set_cons_zero, List.set_cons_succ, i64_w, i32_w]
                          rfl
                        exact norm_ (by simp only [putAll, Act.put, List.setIfInBounds_toArray, List.set_cons_zero, List.set_cons_succ]) (hCont (v35, v37, v42) _ ⟨HA.out, Kd.R_mono HL1.out (fun _ _ => trivial), HBc.out⟩)
                      · skip
                        refine Kd.R_lit_step kRule _ 41 ?hg (N := 42) ?hd (xs := ([rd_Rule rules i] : List SRule)) (inner := [.int .i64 (rd_Rule rules i).f0, .int .i64 (rd_Rule rules i).f1]) (ok := fun _ => True) (okp := fun _ => True) ?hr ?hp (fun _ hk => hk) trivial (Below.refl _ _) (Nat.le_refl _) (by simp) ?_
                        (case hd => rfl)
                        (case hg => rfl)
                        (case hr => first | (go_simp; done) | (go_simp; rfl))
                        (case hp => exact Reps.front (kRule_mkM _ _ _ (rd_Rule rules i)) rfl (Reps.none _ _) rfl)
                        intro v42 w8_1 ho hb hg_ hnew_
                        clear hg_ hnew_
                        have HL1 := Aside0.mk (Kd.R_mono (Kd.R_lower (Kd.R_new' ho (Kd.R_lt HL0.out)) (below_size HBc.out)) (fun _ hk => hk.2))
                        have n1_ := Aside0.mk (Kd.R_below HL0.out hb)
                        clear HL0 ho
                        have HL0 := n1_
                        clear n1_
                        have n9_ := Aside0.mk (below_step HBc.out hb)
                        clear HBc hb
                        have HBc := n9_
                        clear n9_
                        refine hK.out _ _ ⟨(pw_cell_below HBc.out HXc.out), (pw_cell_below HBc.out HXr.out), (pw_cell_below HBc.out HX0.out), (pw_cell_below HBc.out HX1.out)⟩ (fun hHeld => ?_)
                        clear hK K
                        refine norm_ (a' := ?_) ?_ ?_
                        rotate_left
                        · show Act.put _ (some 42) _ = _
                          simp only [Act.put, List.setIfInBounds_toArray, List.set_cons_zero, List.set_cons_succ, i64_w, i32_w]
                          rfl
                        refine one_ (i := 3) (N := some 37) #[true, true, true, true, true, true, true, true, true, false, true, true, false] rfl rfl (by kernel_rfl) (by decide) (fun K hK => ?_)
                        refine Kd.R_append_rows_step kRule (w0 := wS) wS.heap.size (by rfl) (.tmp 35) (.tmp 36) 35 41 (.agg #[(.int .i64 0), (.int .i64 0)]) 16 rfl Tryd.underlying35 infoE_Rule rfl (by decide) (by omega) v35 ([] : List SRule) list _ _ _ (fun _ => True) (fun _ => False) rfl rfl HL0.out ?aR (fun _ _ h => h) (fun _ h => h.elim) (fun _ _ => trivial) HBc.out (below_size HBc.out) ?aL ?_
                        (case aR => exact HLC.out _ (ChMv.then_below (ChMv.then_below HMV.out HBx.out) HBc.out))
                        (case aL => have h_ := HLB.out; simp only [List.length_nil]; omega)
                        intro v37 w3_2 ho hb hg hat_
                        simp only [List.nil_append] at ho
                        have n1_ := Aside0.mk (Kd.R_grown HL1.out hg (fun _ hk => hk))
                        clear HL1
                        have HL1 := n1_
                        clear n1_
                        clear hg hat_ HL0 HBc
                        have HA := Aside0.mk ho
                        have HBc := Aside0.mk hb
                        clear ho hb
                        refine hK.out _ _ ⟨(pw_cell_below HBc.out HXc.out), (pw_cell_below HBc.out HXr.out), (pw_cell_below HBc.out HX0.out), (pw_cell_below HBc.out HX1.out)⟩ (fun hHeld => ?_)
                        clear hK K
                        refine norm_ (a' := ?_) ?_ ?_
                        rotate_left
                        · show Act.put _ (some 37) _ = _
                          simp only [Act.put, List.setIfInBounds_toArray, List.set_cons_zero, List.set_cons_succ, i64_w, i32_w]
                          rfl
                        exact norm_ (by simp only [putAll, Act.put, List.setIfInBounds_toArray, List.set_cons_zero, List.set_cons_succ]) (hCont (v35, v37, v42) _ ⟨HA.out, Kd.R_mono HL1.out (fun _ _ => trivial), HBc.out⟩)
                    · skip
                      refine Kd.R_lit_step kRule _ 41 ?hg (N := 42) ?hd (xs := ([rd_Rule rules i] : List SRule)) (inner := [.int .i64 (rd_Rule rules i).f0, .int .i64 (rd_Rule rules i).f1]) (ok := fun _ => True) (okp := fun _ => True) ?hr ?hp (fun _ hk => hk) trivial (Below.refl _ _) (Nat.le_refl _) (by simp) ?_
                      (case hd => rfl)
                      (case hg => rfl)
                      (case hr => first | (go_simp; done) | (go_simp; rfl))
                      (case hp => exact Reps.front (kRule_mkM _ _ _ (rd_Rule rules i)) rfl (Reps.none _ _) rfl)
                      intro v42 w8_0 ho hb hg_ hnew_
                      clear hg_ hnew_
                      have HL1 := Aside0.mk (Kd.R_lower ho (below_size HBc.out))
                      clear ho
                      have n9_ := Aside0.mk (below_step HBc.out hb)
                      clear HBc hb
                      have HBc := n9_
                      clear n9_
                      refine hK.out _ _ ⟨(pw_cell_below HBc.out HXc.out), (pw_cell_below HBc.out HXr.out), (pw_cell_below HBc.out HX0.out), (pw_cell_below HBc.out HX1.out)⟩ (fun hHeld => ?_)
                      clear hK K
                      refine norm_ (a' := ?_) ?_ ?_
                      rotate_left
                      · show Act.put _ (some 42) _ = _
                        simp only [Act.put, List.setIfInBounds_toArray, List.set_cons_zero, List.set_cons_succ, i64_w, i32_w]
                        rfl
                      refine one_ (i := 1) (N := some 35) #[true, true, true, false, true, true, true, true, true, false, true, true, false] rfl rfl (by kernel_rfl) (by decide) (fun K hK => ?_)
                      refine Kd.R_lit_step kRule _ 41 ?hg (N := 35) ?hd (xs := ([] : List SRule)) (inner := []) (ok := fun _ => True) (okp := fun _ => True) ?hr ?hp (fun _ hk => hk) trivial (Below.refl _ _) (Nat.le_refl _) (by simp) ?_
                      (case hd => rfl)
                      (case hg => rfl)
                      (case hr => first | (go_simp; done) | (go_simp; rfl))
                      (case hp => exact Reps.none _ _)
                      intro v35 w1_1 ho hb hg_ hnew_
                      clear hg_ hnew_
                      have n1_ := Aside0.mk (Kd.R_mono (Kd.R_elder' HL1.out (Kd.R_base ho) hb) (fun _ hk => hk.2))
                      clear HL1
                      have HL1 := n1_
                      clear n1_
                      have HL0 := Aside0.mk (Kd.R_lower ho (below_size HBc.out))
                      clear ho
                      have n9_ := Aside0.mk (below_step HBc.out hb)
                      clear HBc hb
                      have HBc := n9_
                      clear n9_
                      refine hK.out _ _ ⟨(pw_cell_below HBc.out HXc.out), (pw_cell_below HBc.out HXr.out), (pw_cell_below HBc.out HX0.out), (pw_cell_below HBc.out HX1.out)⟩ (fun hHeld => ?_)
                      clear hK K
                      refine norm_ (a' := ?_) ?_ ?_
                      rotate_left
                      · show Act.put _ (some 35) _ = _
                        simp only [Act.put, List.setIfInBounds_toArray, List.set_cons_zero, List.set_cons_succ, i64_w, i32_w]
                        rfl
                      refine one_ (i := 3) (N := some 37) #[true, true, true, true, true, true, true, true, true, false, true, true, false] rfl rfl (by kernel_rfl) (by decide) (fun K hK => ?_)
                      refine Kd.R_append_rows_step kRule (w0 := wS) wS.heap.size (by rfl) (.tmp 35) (.tmp 36) 35 41 (.agg #[(.int .i64 0), (.int .i64 0)]) 16 rfl Tryd.underlying35 infoE_Rule rfl (by decide) (by omega) v35 ([] : List SRule) list _ _ _ (fun _ => True) (fun _ => False) rfl rfl HL0.out ?aR (fun _ _ h => h) (fun _ h => h.elim) (fun _ _ => trivial) HBc.out (below_size HBc.out) ?aL ?_
                      (case aR => exact HLC.out _ (ChMv.then_below (ChMv.then_below HMV.out HBx.out) HBc.out))
                      (case aL => have h_ := HLB.out; simp only [List.length_nil]; omega)
                      intro v37 w3_2 ho hb hg hat_
                      simp only [List.nil_append] at ho
                      have n1_ := Aside0.mk (Kd.R_grown HL1.out hg (fun _ hk => hk))
                      clear HL1
                      have HL1 := n1_
                      clear n1_
                      clear hg hat_ HL0 HBc
                      have HA := Aside0.mk ho
                      have HBc := Aside0.mk hb
                      clear ho hb
                      refine hK.out _ _ ⟨(pw_cell_below HBc.out HXc.out), (pw_cell_below HBc.out HXr.out), (pw_cell_below HBc.out HX0.out), (pw_cell_below HBc.out HX1.out)⟩ (fun hHeld => ?_)
                      clear hK K
                      refine norm_ (a' := ?_) ?_ ?_
                      rotate_left
                      · show Act.put _ (some 37) _ = _
                        simp only [Act.put, List.setIfInBounds_toArray, List.set_cons_zero, List.set_cons_succ, i64_w, i32_w]
                        rfl
                      exact norm_ (by simp only [putAll, Act.put, List.setIfInBounds_toArray, List.set_cons_zero, List.set_cons_succ]) (hCont (v35, v37, v42) _ ⟨HA.out, Kd.R_mono HL1.out (fun _ _ => trivial), HBc.out⟩)
                  rintro ⟨v35, v37, v42⟩ wJ ⟨ha_, hl_, hb_⟩
                  clear HBc
                  have HA := Aside0.mk ha_
                  have HL1 := Aside0.mk hl_
                  have HBc := Aside0.mk hb_
                  clear ha_ hl_ hb_
                  obtain ⟨A42, c42, e42⟩ := Kd.R_slice HL1.out
                  dsimp only at e42
                  subst e42
                  refine norm_ (a' := ?_) ?_ ?_
                  rotate_left
                  · simp only [putAll, Act.put, List.setIfInBounds_toArray, List.set_cons_zero, List.set_cons_succ]
                    rfl
                  refine one_ (i := 9) (N := some 43) #[true, true, true, true, true, true, true, true, true, true, true, true, false] rfl rfl (by kernel_rfl) (by decide) (fun K hK => ?_)
                  refine Kd.R_append_rows_step kRule (w0 := wS) wS.heap.size (by rfl) (.tmp 37) (.tmp 42) 35 41 (.agg #[(.int .i64 0), (.int .i64 0)]) 16 rfl Tryd.underlying35 infoE_Rule rfl (by decide) (by omega) v37 list [rd_Rule rules i] _ _ _ (fun _ => True) (fun _ => False) rfl rfl HA.out ?aR (fun _ _ h => h) (fun _ h => h.elim) (fun _ _ => trivial) HBc.out (below_size HBc.out) ?aL ?_
                  (case aR => exact (Kd.R_reads' HL1.out).2.2)
                  (case aL => have h_ := HLB.out; simp only [List.length_singleton]; omega)
                  intro v43 wB ho hb hg hat_
                  clear hg hat_ HA HL1 HBc
                  have HA := Aside0.mk ho
                  have HBc := Aside0.mk hb
                  clear ho hb
                  obtain ⟨A43, c43, e43⟩ := Kd.R_slice HA.out
                  subst e43
                  refine hK.out _ _ ⟨(pw_cell_below HBc.out HXc.out), (pw_cell_below HBc.out HXr.out), (pw_cell_below HBc.out HX0.out), (pw_cell_below HBc.out HX1.out)⟩ (fun hHeld => ?_)
                  clear hK K
                  refine norm_ (a' := ?_) ?_ ?_
                  rotate_left
                  · show Act.put _ (some 43) _ = _
                    simp only [Act.put, List.setIfInBounds_toArray, List.set_cons_zero, List.set_cons_succ, i64_w, i32_w]
                    rfl
                  refine last_ (i := 12) (N := some 46) #[true, true, true, true, true, true, true, true, true, true, true, true, true] rfl rfl (by kernel_rfl) (by decide) (fun K hK => ?_)
                  refine goesV_ #[.pointer (some ⟨g, 0, none⟩), .pointer (some ⟨gM, 0, none⟩), .pointer (some ⟨gP, 0, none⟩), .pointer (some ⟨gR, 0, none⟩), .pointer (some ⟨gC, 0, none⟩)] Tryd.func67 (by kernel_rfl) rfl #[.slice A43 (list ++ [rd_Rule rules i]).length c43, .int .i64 (wrap64 (i + 1))] (by rfl) rfl rfl rfl (by (try simp only [List.map_toArray, List.map_cons, List.map_nil]); first | done | rfl) ?_
                  have HSB := Aside0.mk (ChSt.below (ChSt.below HST.out HBx.out) HBc.out)
                  refine (IH.out k1 (by have := HK.out; omega) (list ++ [rd_Rule rules i]) (wrap64 (i + 1)) o o2 A43 c43 (.slice Aq o.length cq) _ ?s1 ?s2 ?s3 ?s4 A_.out).mono ?_
                  (case s1 => exact HSB.out)
                  (case s2 => exact (Kd.R_reads' HA.out).2.1)
                  (case s3 => exact Kd.R_lower HA.out (Nat.le_trans HST.out.2.2.size HBx.out.size))
                  (case s4 => exact Kd.S_mono (Kd.S_below (Kd.S_below (Kd.S_bound HST.out.2.1) HBx.out) HBc.out) (fun k_ hk => ⟨hk.1, fun e_ => by have h1_ := Kd.R_base HA.out k_ e_.symm; have h2_ := hk.2.2.1; have h3_ := HBx.out.size; omega⟩))
                  rintro e wC ⟨rfl, v1, h1_, h2_, h3_⟩
                  refine ⟨_, rfl, ?_⟩
                  have HSTN := Aside0.mk h1_
                  have HMVN := Aside0.mk (ChMv.trans (ChMv.then_below (ChMv.then_below HMV.out HBx.out) HBc.out) h2_ HRO.out)
                  have HRON := Aside0.mk (show ChRo W (Value.slice Ao out.length co) v1 from fun k_ hk => (h3_ k_ hk).elim (fun e_ => HRO.out k_ e_) (fun hb_ => .inr (Nat.le_trans (Nat.le_trans HMV.out.size (Nat.le_trans HBx.out.size HBc.out.size)) hb_)))
                  clear h1_ h2_ h3_ HSB
                  refine hK.out _ _ ?_
                  clear hK K
                  refine norm_ (a' := ?_) ?_ ?_
                  rotate_left
                  · show Act.put _ (some 46) _ = _
                    simp only [Act.put, List.setIfInBounds_toArray, List.set_cons_zero, List.set_cons_succ, i64_w, i32_w]
                    rfl
                  refine done_ (by kernel_rfl) ?_
                  go_wp2
                  go_roundg k1
                  case measure => have := HK.out; omega
                  case rel => exact ⟨o2, wrap64 (i + 1), v1, (by first | rfl | (simp; done)), H', ⟨by have := HK.out; omega⟩, HSTN, HMVN, HRON⟩
                · rw [if_neg c3_] at H
                  exact absurd H (by simp)
              · rw [if_neg c2_] at H
                exact absurd H (by simp)
            · rw [if_neg c1_] at H
              have c1b_ : decide (i < (rules.length : Int)) = false := decide_eq_false c1_
              clear c1_
              have HR := Aside0.mk (Option.some.inj H)
              clear H
              go_wp2
              (first | (refine bodyPost_ret (results_none rfl _ _ _) rfl ?_) | go_end0)
              exact ⟨rfl, _, by rw [← HR.out]; exact HST.out, HMV.out, HRO.out⟩
end Go.Proofs.YtjekkcjlfgfnkaaDoor.P
namespace Go.Proofs.YtjekkcjlfgfnkaaDoor.P
open Go.RowKit Go.Proofs.YtjekkcjlfgfnkaaDoorW.PrintWords Go.Proofs.YtjekkcjlfgfnkaaDoorW.PrintLast Go.Proofs.YtjekkcjlfgfnkaaDoorW.PrintMore
attribute [local go_sem] max2_int min2_int max_two min_two max_three min_three max_four min_four
set_option linter.unusedVariables false
set_option linter.unusedSimpArgs false
def impl_someAnswers.f (k : Nat) (a0_0 : ByteArray) (a0_1 : Int) (a1 : Int) : Option (List (List SRule)) := (impl_fitting.f k a0_0).bind fun rules => impl_someAnswers_1.f k a0_0 a0_1 a1 rules [] 0 []
set_option maxHeartbeats 8000000 in
set_option maxRecDepth 100000 in
theorem impl_someAnswers.calls (k : Nat) (a0_0 : ByteArray) (a0_1 : Int) (a1 : Int) (r : List (List SRule)) (w : World) (h : impl_someAnswers.f k a0_0 a0_1 a1 = some r) :
    Calls Tryd.prog 54 #[.agg #[.string a0_0, .int .i64 a0_1], .int .i64 a1] w fun e w' => ∃ v0_ : Value, e = .returned (v0_) ∧ Kd.S (Kd.slice 41 kRule) 35 w' w.heap.size (fun _ => True) v0_ r ∧ Below w.heap.size w w' := by
  have hu := Tryd.underlying26
  unfold impl_someAnswers.f at h
  replace h := Option.bind_eq_some_iff.mp h
  obtain ⟨rules, A1_, h⟩ := h
  have A1 := Aside0.mk A1_
  have H := Aside0.mk h
  clear A1_ h
  go_enter Tryd.func54, Tryd.ntmps54
  go_wp2_with (first | ((with_reducible refine gate_dst (N := 2) rfl ?_); (try (refine gate_guard (by rfl) ?_; dsimp only)); refine box_event ?hg (N := 2) ?hd (cs := #[.string a0_0, .int .i64 a0_1]) (t := 26) ?hr ?_; (case hd => rfl); (case hg => rfl); (case hr => first | (go_simp; done) | (go_simp; rfl)); intro gP hg w1 hbox hb; have BP1 := Aside0.mk hbox; have HB1 := Aside0.mk hb; have GP := Aside0.mk (show w.heap.size ≤ gP by rw [hg]; exact Nat.le_refl _); clear hbox hb hg) | ((with_reducible refine gate_dst (N := 3) rfl ?_); (try (refine gate_guard (by rfl) ?_; dsimp only)); refine box_event ?hg (N := 3) ?hd (cs := #[.int .i64 a1]) (t := 3) ?hr ?_; (case hd => rfl); (case hg => rfl); (case hr => first | (go_simp; done) | (go_simp; rfl)); intro gM hg w2 hbox hb; have BM2 := Aside0.mk hbox; have BP2 := Aside0.mk (blk_below BP1.out hb); have HB2 := Aside0.mk (below_step HB1.out hb); have GM := Aside0.mk (show gP < gM by rw [hg]; exact blk_lt BP1.out); have hcP0 : w2.cell? ⟨gP, 0, none⟩ = some (.string a0_0) := (blk_cell BP2.out 0).trans rfl; clear BP1 HB1; clear hbox hb hg) | ((with_reducible refine gate_callee (f := 48) rfl ?_); refine goesL_ (some 10) rfl rfl Tryd.func48 (by kernel_rfl) rfl #[.string a0_0] rfl (by (try simp only [List.map_toArray, List.map_cons, List.map_nil]); first | done | rfl) ?_; (with_reducible refine (impl_fitting.calls k a0_0 rules _ A1.out).mono ?_); rintro e w3 ⟨v10, rfl, ho, hb⟩; refine ⟨_, rfl, ?_⟩; obtain ⟨A10, c10, e10⟩ := Kd.R_slice ho; subst e10; have HL3 := Aside0.mk ho; have BP3 := Aside0.mk (blk_below BP2.out hb); have BM3 := Aside0.mk (blk_below BM2.out hb); have HB3 := Aside0.mk (below_step HB2.out hb); clear ho hb hcP0 BP2 BM2 HB2) | ((with_reducible refine gate_dst (N := 5) rfl ?_); (try (refine gate_guard (by rfl) ?_; dsimp only)); refine box_event ?hg (N := 5) ?hd (cs := #[.slice none 0 0]) (t := 35) ?hr ?_; (case hd => rfl); (case hg => rfl); (case hr => first | (go_simp; done) | (go_simp; rfl)); intro gR hg w4 hbox hb; have BR4 := Aside0.mk hbox; have BP4 := Aside0.mk (blk_below BP3.out hb); have BM4 := Aside0.mk (blk_below BM3.out hb); have HL4 := Aside0.mk (Kd.R_below HL3.out hb); have HB4 := Aside0.mk (below_step HB3.out hb); have GR := Aside0.mk (show gM < gR by rw [hg]; exact blk_lt BM3.out); have hcR : w4.cell? ⟨gR, 0, none⟩ = some (.slice none 0 0) := (blk_cell hbox 0).trans rfl; have hfR := blk_frozen hbox 0; clear BP3 BM3 HL3 HB3; clear hbox hb hg) | ((with_reducible refine gate_dst (N := 11) rfl ?_); obtain ⟨gL, hgL⟩ : ∃ g_, g_ = (w4.setCell ⟨gR, 0, none⟩ (.slice A10 rules.length c10)).heap.size := ⟨_, rfl⟩; refine Kd.R_lit (Kd.tag (fun _ => 0) (Kd.slice 41 kRule)) _ 35 ?hg (N := 11) ?hd (xs := ([] : List (List SRule × Nat))) (inner := []) (ok := fun k_ => k_ = gL) (okp := fun _ => False) ?hr ?hp (fun _ hk => hk.elim) hgL.symm (Below.refl _ _) (Nat.le_refl _) (by simp) ?_; (case hd => rfl); (case hg => rfl); (case hr => first | (go_simp; done) | (go_simp; rfl)); (case hp => exact Reps.none _ _); intro v11 w5 ho hb hg_ hnew_; clear hg_; obtain ⟨b_, hb1_, -⟩ := hnew_; have hb2_ := ho.1 b_ hb1_; have GLT := Aside0.mk (show gL < w5.heap.size by rw [← hb2_]; exact Kd.R_lt ho b_ hb1_); have HTL := Aside0.mk (show ∃ cells_, w5.heap[gL]? = some (.cells cells_ 35 (0, 0)) by rw [← hb2_]; exact Kd.R_typed ho b_ hb1_); clear hb1_ hb2_; obtain ⟨A11, c11, e11⟩ := Kd.R_slice ho; replace e11 : v11 = (.slice A11 0 c11) := e11; subst e11; have HS5 := Aside0.mk (Kd.R_lower ho (show w.heap.size ≤ (w4.setCell ⟨gR, 0, none⟩ (.slice A10 rules.length c10)).heap.size by have := HB4.out.size; simpa [World.setCell] using this)); have BR5 := Aside0.mk (blk_below (blk_put (cs' := #[(.slice A10 rules.length c10)]) BR4.out 0 (.slice A10 rules.length c10) rfl) hb); have BP5 := Aside0.mk (blk_below (blk_far BP4.out (p := ⟨gR, 0, none⟩) (by have h1_ := GM.out; have h2_ := GR.out; show gP ≠ gR; omega) (.slice A10 rules.length c10)) hb); have BM5 := Aside0.mk (blk_below (blk_far BM4.out (p := ⟨gR, 0, none⟩) (by have h2_ := GR.out; show gM ≠ gR; omega) (.slice A10 rules.length c10)) hb); have HL5 := Aside0.mk (Kd.R_below (Kd.R_set HL4.out BR4.out (by decide) 0 (.slice A10 rules.length c10)) hb); have HB5 := Aside0.mk (below_step (below_set HB4.out (by have h0_ := GP.out; have h1_ := GM.out; have h2_ := GR.out; omega)) hb); have GL := Aside0.mk (show gR < gL by rw [hgL]; have := blk_lt BR4.out; simpa [World.setCell] using this); clear hgL ho hb BR4 BP4 BM4 HL4 HB4 hcR hfR) | ((with_reducible refine gate_dst (N := 6) rfl ?_); (try (refine gate_guard (by rfl) ?_; dsimp only)); refine box_event ?hg (N := 6) ?hd (cs := #[.slice none 0 0]) (t := 62) ?hr ?_; (case hd => rfl); (case hg => rfl); (case hr => first | (go_simp; done) | (go_simp; rfl)); intro gO hg w6 hbox hb; have BO6 := Aside0.mk hbox; have BR6 := Aside0.mk (blk_below BR5.out hb); have BP6 := Aside0.mk (blk_below BP5.out hb); have BM6 := Aside0.mk (blk_below BM5.out hb); have HL6 := Aside0.mk (Kd.R_below HL5.out hb); have HS6 := Aside0.mk (Kd.R_below HS5.out hb); have HTL6 := Aside0.mk (HTL.out.elim (fun c_ hc_ => ⟨c_, blk_below hc_ hb⟩) : ∃ cells_, w6.heap[gL]? = some (.cells cells_ 35 (0, 0))); have HB6 := Aside0.mk (below_step HB5.out hb); have GO := Aside0.mk (show gL < gO ∧ gR < gO by rw [hg]; exact ⟨GLT.out, blk_lt BR5.out⟩); have hcO : w6.cell? ⟨gO, 0, none⟩ = some (.slice none 0 0) := (blk_cell hbox 0).trans rfl; have hfO := blk_frozen hbox 0; clear BR5 BP5 BM5 HL5 HS5 HB5 HTL GLT; clear hbox hb hg) | ((with_reducible refine gate_dst (N := 7) rfl ?_); (try (refine gate_guard (by rfl) ?_; dsimp only)); refine box_event ?hg (N := 7) ?hd (cs := #[.nilFunc]) (t := 75) ?hr ?_; (case hd => rfl); (case hg => rfl); (case hr => first | (go_simp; done) | (go_simp; rfl)); intro gC hg w8 hbox hb; have BC8 := Aside0.mk hbox; have BO8 := Aside0.mk (blk_below (blk_put (cs' := #[(.slice A11 0 c11)]) BO6.out 0 (.slice A11 0 c11) rfl) hb); have BR8 := Aside0.mk (blk_below (blk_far BR6.out (p := ⟨gO, 0, none⟩) (by have h1_ := GO.out.2; show gR ≠ gO; omega) (.slice A11 0 c11)) hb); have BP8 := Aside0.mk (blk_below (blk_far BP6.out (p := ⟨gO, 0, none⟩) (by have h1_ := GO.out.2; have h2_ := GR.out; have h3_ := GM.out; show gP ≠ gO; omega) (.slice A11 0 c11)) hb); have BM8 := Aside0.mk (blk_below (blk_far BM6.out (p := ⟨gO, 0, none⟩) (by have h1_ := GO.out.2; have h2_ := GR.out; show gM ≠ gO; omega) (.slice A11 0 c11)) hb); have HL8 := Aside0.mk (Kd.R_below (Kd.R_set HL6.out BO6.out (by decide) 0 (.slice A11 0 c11)) hb); have HS8 := Aside0.mk (Kd.R_below (Kd.R_far (p := ⟨gO, 0, none⟩) HS6.out (fun k_ hk => by have h1_ := GO.out.1; show k_ ≠ gO; omega) (.slice A11 0 c11)) hb); have HB8 := Aside0.mk (below_step (below_set HB6.out (by have h0_ := GP.out; have h1_ := GM.out; have h2_ := GR.out; have h3_ := GO.out.2; omega)) hb); have HTL8 := Aside0.mk (HTL6.out.elim (fun c_ hc_ => ⟨c_, blk_below (blk_far hc_ (p := ⟨gO, 0, none⟩) (by have h1_ := GO.out.1; show gL ≠ gO; omega) _) hb⟩) : ∃ cells_, w8.heap[gL]? = some (.cells cells_ 35 (0, 0))); have GC := Aside0.mk (show gO < gC by rw [hg]; have := blk_lt BO6.out; simpa [World.setCell] using this); have hcC : w8.cell? ⟨gC, 0, none⟩ = some .nilFunc := (blk_cell hbox 0).trans rfl; have hfC := blk_frozen hbox 0; have hstF : ∀ (m : Mode) (W : World), Sem.run Tryd.prog (store ⟨gC, 0, none⟩ (.func (.func 67) #[] #[.pointer (some ⟨gO, 0, none⟩), .pointer (some ⟨gM, 0, none⟩), .pointer (some ⟨gP, 0, none⟩), .pointer (some ⟨gR, 0, none⟩), .pointer (some ⟨gC, 0, none⟩)]) m) W = stored Tryd.prog W ⟨gC, 0, none⟩ (.func (.func 67) #[] #[.pointer (some ⟨gO, 0, none⟩), .pointer (some ⟨gM, 0, none⟩), .pointer (some ⟨gP, 0, none⟩), .pointer (some ⟨gR, 0, none⟩), .pointer (some ⟨gC, 0, none⟩)]) m := fun m W => run_store _ W _ _ m rfl; clear BO6 BR6 BP6 BM6 HL6 HS6 HB6 HTL6 hcO hfO; clear hbox hb hg))
  have BC0 := Aside0.mk (show (w8.setCell ⟨gC, 0, none⟩ (.func (.func 67) #[] #[.pointer (some ⟨gO, 0, none⟩), .pointer (some ⟨gM, 0, none⟩), .pointer (some ⟨gP, 0, none⟩), .pointer (some ⟨gR, 0, none⟩), .pointer (some ⟨gC, 0, none⟩)])).heap[gC]? = _ from blk_put (cs' := #[(.func (.func 67) #[] #[.pointer (some ⟨gO, 0, none⟩), .pointer (some ⟨gM, 0, none⟩), .pointer (some ⟨gP, 0, none⟩), .pointer (some ⟨gR, 0, none⟩), .pointer (some ⟨gC, 0, none⟩)])]) BC8.out 0 (.func (.func 67) #[] #[.pointer (some ⟨gO, 0, none⟩), .pointer (some ⟨gM, 0, none⟩), .pointer (some ⟨gP, 0, none⟩), .pointer (some ⟨gR, 0, none⟩), .pointer (some ⟨gC, 0, none⟩)]) rfl)
  have BO0 := Aside0.mk (show (w8.setCell ⟨gC, 0, none⟩ (.func (.func 67) #[] #[.pointer (some ⟨gO, 0, none⟩), .pointer (some ⟨gM, 0, none⟩), .pointer (some ⟨gP, 0, none⟩), .pointer (some ⟨gR, 0, none⟩), .pointer (some ⟨gC, 0, none⟩)])).heap[gO]? = _ from blk_far BO8.out (p := ⟨gC, 0, none⟩) (by have h1_ := GC.out; show gO ≠ gC; omega) _)
  have BR0 := Aside0.mk (show (w8.setCell ⟨gC, 0, none⟩ (.func (.func 67) #[] #[.pointer (some ⟨gO, 0, none⟩), .pointer (some ⟨gM, 0, none⟩), .pointer (some ⟨gP, 0, none⟩), .pointer (some ⟨gR, 0, none⟩), .pointer (some ⟨gC, 0, none⟩)])).heap[gR]? = _ from blk_far BR8.out (p := ⟨gC, 0, none⟩) (by have h1_ := GC.out; have h2_ := GO.out.2; show gR ≠ gC; omega) _)
  have BP0 := Aside0.mk (show (w8.setCell ⟨gC, 0, none⟩ (.func (.func 67) #[] #[.pointer (some ⟨gO, 0, none⟩), .pointer (some ⟨gM, 0, none⟩), .pointer (some ⟨gP, 0, none⟩), .pointer (some ⟨gR, 0, none⟩), .pointer (some ⟨gC, 0, none⟩)])).heap[gP]? = _ from blk_far BP8.out (p := ⟨gC, 0, none⟩) (by have h1_ := GC.out; have h2_ := GO.out.2; have h3_ := GR.out; have h4_ := GM.out; show gP ≠ gC; omega) _)
  have BM0 := Aside0.mk (show (w8.setCell ⟨gC, 0, none⟩ (.func (.func 67) #[] #[.pointer (some ⟨gO, 0, none⟩), .pointer (some ⟨gM, 0, none⟩), .pointer (some ⟨gP, 0, none⟩), .pointer (some ⟨gR, 0, none⟩), .pointer (some ⟨gC, 0, none⟩)])).heap[gM]? = _ from blk_far BM8.out (p := ⟨gC, 0, none⟩) (by have h1_ := GC.out; have h2_ := GO.out.2; have h3_ := GR.out; show gM ≠ gC; omega) _)
  have HL0 := Aside0.mk (Kd.R_set HL8.out BC8.out (by decide) 0 (.func (.func 67) #[] #[.pointer (some ⟨gO, 0, none⟩), .pointer (some ⟨gM, 0, none⟩), .pointer (some ⟨gP, 0, none⟩), .pointer (some ⟨gR, 0, none⟩), .pointer (some ⟨gC, 0, none⟩)]))
  have HTL0 := Aside0.mk (HTL8.out.elim (fun c_ hc_ => ⟨c_, blk_far hc_ (p := ⟨gC, 0, none⟩) (by have h1_ := GO.out.1; have h2_ := GC.out; show gL ≠ gC; omega) _⟩) : ∃ cells_, (w8.setCell ⟨gC, 0, none⟩ (.func (.func 67) #[] #[.pointer (some ⟨gO, 0, none⟩), .pointer (some ⟨gM, 0, none⟩), .pointer (some ⟨gP, 0, none⟩), .pointer (some ⟨gR, 0, none⟩), .pointer (some ⟨gC, 0, none⟩)])).heap[gL]? = some (.cells cells_ 35 (0, 0)))
  have HS0 := Aside0.mk (Kd.R_far (p := ⟨gC, 0, none⟩) HS8.out (fun k_ hk => by have h1_ := GO.out.1; have h2_ := GC.out; show k_ ≠ gC; omega) (.func (.func 67) #[] #[.pointer (some ⟨gO, 0, none⟩), .pointer (some ⟨gM, 0, none⟩), .pointer (some ⟨gP, 0, none⟩), .pointer (some ⟨gR, 0, none⟩), .pointer (some ⟨gC, 0, none⟩)]))
  have HB0 := Aside0.mk (below_set (g := gC) (j := 0) (v := (.func (.func 67) #[] #[.pointer (some ⟨gO, 0, none⟩), .pointer (some ⟨gM, 0, none⟩), .pointer (some ⟨gP, 0, none⟩), .pointer (some ⟨gR, 0, none⟩), .pointer (some ⟨gC, 0, none⟩)])) HB8.out (by have h0_ := GP.out; have h1_ := GM.out; have h2_ := GR.out; have h3_ := GO.out.2; have h4_ := GC.out; omega))
  clear BC8 BO8 BR8 BP8 BM8 HL8 HTL8 HS8 HB8 hcC hfC hstF
  generalize w8.setCell ⟨gC, 0, none⟩ (.func (.func 67) #[] #[.pointer (some ⟨gO, 0, none⟩), .pointer (some ⟨gM, 0, none⟩), .pointer (some ⟨gP, 0, none⟩), .pointer (some ⟨gR, 0, none⟩), .pointer (some ⟨gC, 0, none⟩)]) = W0 at BC0 BO0 BR0 BP0 BM0 HL0 HTL0 HS0 HB0 ⊢
  have HF := Aside0.mk (show ChFix W0 w.heap.size gL gO gM gP gR gC a0_0 a0_1 a1 A10 c10 rules from ⟨⟨blk_lt BO0.out, by have h1_ := GO.out.1; omega, HB0.out.size⟩, ⟨⟨by have h1_ := GO.out.2; have h2_ := GR.out; omega, by have h1_ := GL.out; have h2_ := GR.out; omega⟩, ⟨by have h1_ := GO.out.2; have h2_ := GR.out; have h3_ := GM.out; omega, by have h1_ := GL.out; have h2_ := GR.out; have h3_ := GM.out; omega⟩, ⟨by have h1_ := GO.out.2; omega, by have h1_ := GL.out; omega⟩, ⟨by have h1_ := GC.out; omega, by have h1_ := GC.out; have h2_ := GO.out.1; omega⟩⟩, BM0.out, BP0.out, BR0.out, BC0.out, (Kd.R_reads' HL0.out).2.1, fun W' hm => ch_rules BO0.out HTL0.out HL0.out hm⟩)
  have HSS := Aside0.mk (show Kd.S (Kd.slice 41 kRule) 35 W0 w.heap.size (fun k_ => k_ = gL) (.slice A11 0 c11) [] from ⟨fun _ => 0, HS0.out⟩)
  refine calls_of_args (args' := #[.slice none ([] : List SRule).length 0, .int .i64 0] ++ #[.pointer (some ⟨gO, 0, none⟩), .pointer (some ⟨gM, 0, none⟩), .pointer (some ⟨gP, 0, none⟩), .pointer (some ⟨gR, 0, none⟩), .pointer (some ⟨gC, 0, none⟩)]) rfl ?_
  refine (impl_someAnswers_1.own W0 w.heap.size gL gO gM gP gR gC a0_0 a0_1 a1 A10 c10 rules HF k [] 0 [] r none 0 (.slice A11 0 c11) W0 ⟨BO0.out, Kd.S_mono HSS.out (fun _ h_ => .inl h_), ChMv.refl _⟩ (Nat.le_refl _) (Kd.R_nil _ _ _ _ _) (Kd.S_mono HSS.out (fun _ h_ => ⟨.inl h_, by simp [Value.ownBlock]⟩)) H.out).mono ?_
  rintro e wE ⟨rfl, v1, h1_, h2_, h3_⟩
  have HE1 := Aside0.mk h1_
  clear h1_ h2_ h3_
  obtain ⟨A1v, c1v, e1v⟩ := Kd.S_slice HE1.out.2.1
  subst e1v
  have hcE : wE.cell? ⟨gO, 0, none⟩ = some (.slice A1v r.length c1v) := (blk_cell HE1.out.1 0).trans rfl
  go_wp2
  go_ret
  exact ⟨_, rfl, Kd.S_mono HE1.out.2.1 (fun _ _ => trivial), HE1.out.2.2.os.trans HB0.out.os, HE1.out.2.2.tape.trans HB0.out.tape, HE1.out.2.2.output.trans HB0.out.output, Nat.le_trans HB0.out.size HE1.out.2.2.size, fun k_ hk => (HE1.out.2.2.block k_ (Nat.lt_of_lt_of_le hk HB0.out.size) (by have h0_ := GP.out; have h1_ := GM.out; have h2_ := GR.out; have h3_ := GO.out.2; omega) (fun e_ => by injection e_ with e_; have h0_ := GP.out; have h1_ := GM.out; have h2_ := GR.out; have h3_ := GL.out; omega)).trans (HB0.out.block k_ hk)⟩
end Go.Proofs.YtjekkcjlfgfnkaaDoor.P
namespace Go.Proofs.YtjekkcjlfgfnkaaDoor.P
open Go.RowKit Go.Proofs.YtjekkcjlfgfnkaaDoorW.PrintWords Go.Proofs.YtjekkcjlfgfnkaaDoorW.PrintLast Go.Proofs.YtjekkcjlfgfnkaaDoorW.PrintMore
attribute [local go_sem] max2_int min2_int max_two min_two max_three min_three max_four min_four
set_option linter.unusedVariables false
set_option linter.unusedSimpArgs false
def spec_pzCovers.l0 : Nat → ByteArray → List SRule → Nat → Option Bool
  | 0, _, _, _ => none
  | k + 1, s, l, pos => if pos < s.size then (if bt s pos < 128 then (if bt s pos = 120 then ((spec_siLeft.f k l (wrap64 ((pos : Int) + 1))).bind fun q => (if q = true then some false else spec_pzCovers.l0 k s l (pos + 1))) else spec_pzCovers.l0 k s l (pos + 1)) else none) else some true
def spec_pzCovers.f (k : Nat) (a0 : ByteArray) (l1 : List (SRule)) : Option (Bool) := spec_pzCovers.l0 k a0 l1 0
set_option maxHeartbeats 8000000 in
set_option maxRecDepth 100000 in
theorem spec_pzCovers.calls (k : Nat) (a0 : ByteArray) (A1 : Option Addr) (c1 : Nat) (l1 : List (SRule)) (r : Bool) (w : World) (hr1 : Kd.C kRule w A1 l1.length l1) (hc1 : l1.length ≤ c1) (h : spec_pzCovers.f k a0 l1 = some r) :
    Calls Tryd.prog 60 #[.string a0, .slice A1 l1.length c1] w fun e w' => e = .returned (.bool r) ∧ Below w.heap.size w w' := by
  have HR := Aside0.mk hr1
  have HC := Aside0.mk hc1
  clear hr1 hc1
  have H : spec_pzCovers.l0 k a0 l1 0 = some r := h
  clear h
  have H' := Aside0.mk H
  clear H
  go_enter Tryd.func60, Tryd.ntmps60
  go_wp2
  go_loopg [] k (fun kq wx => ∃ pos : Nat, wx.heap[w.heap.size]? = some (.stringIter a0 pos) ∧ Aside0 (Below w.heap.size w wx) ∧ Aside0 (spec_pzCovers.l0 kq a0 l1 pos = some r) ∧ Aside0 (kq ≤ k))
  case atStart => exact ⟨0, World.iter_heap w a0 0, ⟨(Below.refl _ w).alloc (Nat.le_refl _) _⟩, H', ⟨Nat.le_refl _⟩⟩
  case round =>
    clear H'
    obtain ⟨pos, hit, HB, HA, HK⟩ := hrel
    cases gk with
    | zero => exact absurd HA.out (by simp [spec_pzCovers.l0])
    | succ k1 =>
      have H := HA.out
      clear HA
      simp only [spec_pzCovers.l0] at H
      by_cases hps : pos < a0.size
      · rw [if_pos hps] at H
        by_cases ha : bt a0 pos < 128
        · rw [if_pos ha] at H
          have hnx : ∀ ty, (Instr.next (.pointer (some ⟨w.heap.size, 0, none⟩)) true ty).run Tryd.prog wr = _ := fun ty => Lib.run_next_ascii_at wr w.heap.size a0 pos ty hit hps (by have := bt_get a0 pos hps; omega)
          have hit2 := Lib.iterAt_heap wr w.heap.size a0 pos (pos + 1) hit
          have hbw2 := Lib.below_iterAt HB.out (k := w.heap.size) (Nat.le_refl _) a0 (pos + 1)
          obtain ⟨W, hWd⟩ : ∃ W, wr.iterAt w.heap.size a0 (pos + 1) = W := ⟨_, rfl⟩
          rw [hWd] at hnx hit2 hbw2
          have hltW : w.heap.size < W.heap.size := (Array.getElem?_eq_some_iff.1 hit2).1
          clear hit hWd HB ha
          have HB := Aside0.mk hbw2
          have HI := Aside0.mk hit2
          clear hbw2 hit2
          have hx6 := bt_get a0 pos
          have p6 := eq_true (show 0 ≤ ((pos : Nat) : Int) by omega)
          have q6 := eq_true (show ((pos : Nat) : Int) < (a0.size : Int) by omega)
          by_cases c11 : (bt a0 pos) = 120
          · rw [if_pos c11] at H
            have c11b0 : ((bt a0 pos) == 120) = true := beq_iff_eq.mpr c11
            have c11b1 : ((bt a0 pos) != 120) = false := bne_eq_false_iff_eq.mpr c11
            clear c11
            replace H := Option.bind_eq_some_iff.mp H
            obtain ⟨q, A20, H⟩ := H
            have HM := Aside0.mk (spec_siLeft.calls k1 A1 c1 l1 (wrap64 ((pos : Int) + 1)) q W (Kd.C_below HR.out HB.out) HC.out A20)
            clear A20
            cases q with
            | true =>
              rw [if_pos rfl] at H
              obtain rfl := Option.some.inj H
              clear H
              go_wp2_with (go_at_call 69; refine HM.out.mono ?_; rintro e W' ⟨rfl, hbc⟩)
              go_ret
              exact ⟨rfl, HB.out.trans (hbc.mono HB.out.size)⟩
            | false =>
              rw [if_neg (by decide)] at H
              have H' := Aside0.mk H
              clear H
              go_wp2_with (go_at_call 69; refine HM.out.mono ?_; rintro e W' ⟨rfl, hbc⟩)
              go_roundg k1
              case measure => have := HK.out; omega
              case rel => exact ⟨pos + 1, (hbc.block _ hltW).trans HI.out, ⟨HB.out.trans (hbc.mono HB.out.size)⟩, H', ⟨by have := HK.out; omega⟩⟩
          · rw [if_neg c11] at H
            have c11b0 : ((bt a0 pos) == 120) = false := beq_eq_false_iff_ne.mpr c11
            have c11b1 : ((bt a0 pos) != 120) = true := bne_iff_ne.mpr c11
            have H' := Aside0.mk H
            clear H
            go_wp2
            go_roundg k1
            case measure => have := HK.out; omega
            case rel => exact ⟨pos + 1, HI.out, HB, H', ⟨by have := HK.out; omega⟩⟩
        · rw [if_neg ha] at H
          exact absurd H (by simp)
      · rw [if_neg hps] at H
        have hnx : ∀ ty, (Instr.next (.pointer (some ⟨w.heap.size, 0, none⟩)) true ty).run Tryd.prog wr = _ := fun ty => Lib.run_next_end_at wr w.heap.size a0 pos ty hit hps
        obtain rfl := Option.some.inj H
        go_wp2
        go_ret
        exact ⟨rfl, HB.out⟩
end Go.Proofs.YtjekkcjlfgfnkaaDoor.P
namespace Go.Proofs.YtjekkcjlfgfnkaaDoor.P
open Go.RowKit Go.Proofs.YtjekkcjlfgfnkaaDoorW.PrintWords Go.Proofs.YtjekkcjlfgfnkaaDoorW.PrintLast Go.Proofs.YtjekkcjlfgfnkaaDoorW.PrintMore
attribute [local go_sem] max2_int min2_int max_two min_two max_three min_three max_four min_four
set_option linter.unusedVariables false
set_option linter.unusedSimpArgs false
mutual
def spec_pzAll.f : Nat → ByteArray → List SRule → List SRule → Int → List (List SRule) → Option (List (List SRule))
  | 0, _, _, _, _, _ => none
  | k + 1, p, fit, rules, left, out => if left = 0 then ((spec_pzCovers.f k p rules).bind fun t => if t = true then (if out.length < 5864062014805 then (if rules.length < 8796093022207 then some (out ++ [rules]) else none) else none) else some out) else spec_pzAll.l0 k p fit rules left out 0
def spec_pzAll.l0 : Nat → ByteArray → List SRule → List SRule → Int → List (List SRule) → Nat → Option (List (List SRule))
  | 0, _, _, _, _, _, _ => none
  | k + 1, p, fit, rules, left, out, i => if i < fit.length then (if 300 < out.length then some out else (if rules.length < 8796093022207 then ((spec_pzAll.f k p (fit.drop (i + 1)) (rules ++ [rd_Rule fit i]) (wrap64 (left - 1)) out).bind fun o => spec_pzAll.l0 k p fit rules left o (i + 1)) else none)) else some out
end
theorem infoS_Rule : (Tryd.prog.info? 35).map (fun i => (i.zero, i.size, i.bytes)) = some (some (.slice none 0 0), 1, 24) := by kernel_rfl
set_option maxHeartbeats 8000000 in
set_option maxRecDepth 100000 in
theorem spec_pzAll.own (k : Nat) : ∀ (p : ByteArray) (fit rules : List SRule) (left : Int) (out r : List (List SRule)) (A1 : Option Addr) (c1 : Nat) (A2 : Option Addr) (c2 : Nat) (vo : Value) (w0 w : World)
    (_ : ∀ W', w.grownBy W' vo.ownBlock → Kd.C kRule W' A1 fit.length fit) (_ : fit.length ≤ c1) (_ : ∀ W', w.grownBy W' vo.ownBlock → Kd.C kRule W' A2 rules.length rules) (_ : rules.length ≤ c2)
    (_ : Kd.S (Kd.slice 41 kRule) 35 w w0.heap.size (fun _ => True) vo out) (_ : Below w0.heap.size w0 w) (_ : spec_pzAll.f k p fit rules left out = some r),
    Calls Tryd.prog 53 #[.string p, .slice A1 fit.length c1, .slice A2 rules.length c2, .int .i64 left, vo] w fun e w' => ∃ v1, e = .returned v1 ∧ PzPost w0 w vo v1 r w' := by
  induction k using Nat.strongRecOn with
  | ind k ih =>
  intro p fit rules left out r A1 c1 A2 c2 vo w0 w h1 hc1 h2 hc2 hS hB h
  have IH := Aside0.mk ih
  have H1 := Aside0.mk h1
  have HC1 := Aside0.mk hc1
  have H2 := Aside0.mk h2
  have HC2 := Aside0.mk hc2
  have HP := Aside0.mk (PzPost.refl hS hB)
  have HB := Aside0.mk hB
  have HS0 := Aside0.mk (Kd.S_mono (Kd.S_bound hS) (fun _ hk => hk.2.2.1))
  have HVO := Aside0.mk (Kd.S_lt hS)
  obtain ⟨Ao, co, eo⟩ := Kd.S_slice hS
  subst eo
  clear ih h1 hc1 h2 hc2 hS hB
  cases k with
  | zero => exact absurd h (by simp [spec_pzAll.f])
  | succ k =>
    simp only [spec_pzAll.f] at h
    by_cases c1_ : left = 0
    · rw [if_pos c1_] at h
      have c1b : (left == 0) = true := beq_iff_eq.mpr c1_
      clear c1_
      replace h := Option.bind_eq_some_iff.mp h
      obtain ⟨t, A0_, h⟩ := h
      have A_ := Aside0.mk A0_
      clear A0_
      cases t with
      | true =>
        rw [if_pos rfl] at h
        by_cases c2_ : out.length < 5864062014805
        · rw [if_pos c2_] at h
          have HLO := Aside0.mk c2_
          clear c2_
          by_cases c3_ : rules.length < 8796093022207
          · rw [if_pos c3_] at h
            have HLB := Aside0.mk c3_
            clear c3_
            have HR := Aside0.mk (Option.some.inj h)
            clear h
            go_enter Tryd.func53, Tryd.ntmps53
            go_wp2_with (first | ((with_reducible refine gate_callee (f := 60) rfl ?_); refine goesL_ (some 17) rfl rfl Tryd.func60 (by kernel_rfl) rfl #[.string p, .slice A2 rules.length c2] rfl (by (try simp only [List.map_toArray, List.map_cons, List.map_nil]); first | done | rfl) ?_; (with_reducible refine (spec_pzCovers.calls k p _ _ rules true _ ?side1 ?side2 A_.out).mono ?_); (case side1 => exact H2.out _ (grown_of_below (Below.refl _ _) _)); (case side2 => exact HC2.out); rintro e w1 ⟨rfl, hb⟩; refine ⟨_, rfl, ?_⟩; have HB1 := Aside0.mk hb; have HS1 := Aside0.mk (H2.out _ (grown_of_below hb _)); clear hb) | ((with_reducible refine gate_dst (N := 19) rfl ?_); refine Kd.R_lit kRule _ 41 ?hg (N := 19) ?hd (xs := ([] : List SRule)) (inner := []) (ok := fun _ => True) (okp := fun _ => True) ?hr ?hp (fun _ hk => hk) trivial (Below.refl _ _) (Nat.le_refl _) (by simp) ?_; (case hd => rfl); (case hg => rfl); (case hr => first | (go_simp; done) | (go_simp; rfl)); (case hp => exact Reps.none _ _); intro v19 w2 ho hb hg_ hnew_; clear hg_ hnew_; have HL0 := Aside0.mk ho; have HB2 := Aside0.mk hb; clear ho hb) | ((with_reducible refine gate_builtin (b := .append) (xs := #[.tmp 19, .tmp 20]) rfl ?_); at_builtin; refine Kd.R_append_rows kRule (w0 := w1) w1.heap.size rfl (.tmp 19) (.tmp 20) 35 41 (.agg #[(.int .i64 0), (.int .i64 0)]) 16 rfl Tryd.underlying35 infoE_Rule rfl (by decide) (by omega) v19 ([] : List SRule) rules _ _ _ (fun _ => True) (fun _ => False) rfl rfl ?aO ?aR (fun _ _ h => h) (fun _ h => h.elim) (fun _ _ => trivial) ?aB ?aS ?aL ?_; (case aO => exact HL0.out); (case aR => exact Kd.C_below HS1.out HB2.out); (case aB => exact HB2.out); (case aS => exact below_size HB2.out); (case aL => have h_ := HLB.out; simp only [List.length_nil]; omega); intro v21 w3 ho hb hg_ hat_; clear hg_ hat_; simp only [List.nil_append] at ho; have HL := Aside0.mk ho; have HB3 := Aside0.mk hb; clear HL0 HB2 ho hb; obtain ⟨A21, c21, e21⟩ := Kd.R_slice HL.out; subst e21) | ((with_reducible refine gate_builtin (b := .append) (xs := #[.tmp 18, .tmp 22]) rfl ?_); at_builtin; refine Kd.S_append (Kd.slice 41 kRule) (w0 := w0) w0.heap.size rfl (.tmp 18) (.tmp 22) 62 35 (.slice none 0 0) 24 rfl Tryd.underlying62 infoS_Rule rfl (by decide) (by omega) (.slice Ao out.length co) out rules [.slice A21 rules.length c21] (fun _ => True) (fun k_ => some k_ = (.slice A21 rules.length c21 : Value).ownBlock) rfl rfl ?aP ?aK (fun _ _ => trivial) ?aO ?aB ?aS ?aL ?_; (case aP => exact Kd.M_row (Kd.R_tight rfl (Kd.R_lower HL.out (Nat.le_trans HB.out.size HB1.out.size)))); (case aK => exact (fun k_ hk => ⟨trivial, fun e_ => by have h1_ := Kd.R_base HL.out k_ hk.symm; have h2_ := HVO.out k_ e_.symm; have h3_ := HB1.out.size; omega⟩)); (case aO => exact Kd.S_mono (Kd.S_below HS0.out (below_step HB1.out HB3.out)) (fun k_ hk => ⟨trivial, fun e_ => by have h1_ := Kd.R_base HL.out k_ e_.symm; have h3_ := HB1.out.size; omega⟩)); (case aB => exact below_step (below_step HB.out HB1.out) HB3.out); (case aS => exact below_size (below_step (below_step HB.out HB1.out) HB3.out)); (case aL => have h_ := HLO.out; omega); intro v1 w4 ho hb hg hat; have HFIN := Aside0.mk (show PzPost w0 w (.slice Ao out.length co) v1 (out ++ [rules]) w4 from ⟨ho, hb, below_grown_ (below_step HB1.out HB3.out) hg, hat.imp id (fun ⟨b_, e_, hb_⟩ => ⟨b_, e_, Nat.le_trans (below_step HB1.out HB3.out).size hb_⟩)⟩); clear ho hb hg hat))
            go_ret
            exact ⟨_, rfl, by rw [← HR.out]; exact HFIN.out⟩
          · rw [if_neg c3_] at h
            exact absurd h (by simp)
        · rw [if_neg c2_] at h
          exact absurd h (by simp)
      | false =>
        rw [if_neg (by decide)] at h
        have HR := Aside0.mk (Option.some.inj h)
        clear h
        go_enter Tryd.func53, Tryd.ntmps53
        go_wp2_with (((with_reducible refine gate_callee (f := 60) rfl ?_); refine goesL_ (some 17) rfl rfl Tryd.func60 (by kernel_rfl) rfl #[.string p, .slice A2 rules.length c2] rfl (by (try simp only [List.map_toArray, List.map_cons, List.map_nil]); first | done | rfl) ?_; (with_reducible refine (spec_pzCovers.calls k p _ _ rules false _ ?side1 ?side2 A_.out).mono ?_); (case side1 => exact H2.out _ (grown_of_below (Below.refl _ _) _)); (case side2 => exact HC2.out); rintro e w1 ⟨rfl, hb⟩; refine ⟨_, rfl, ?_⟩; have HP1 := Aside0.mk (PzPost.below HP.out hb); clear HP hb))
        go_ret
        exact ⟨_, rfl, by rw [← HR.out]; exact HP1.out⟩
    · rw [if_neg c1_] at h
      have c1b : (left == 0) = false := beq_eq_false_iff_ne.mpr c1_
      clear c1_
      have H' := Aside0.mk h
      clear h
      go_enter Tryd.func53, Tryd.ntmps53
      go_wp2
      go_loopg [4, 27] k (fun kq v4 v27 wx => ∃ (o : List (List SRule)) (i : Nat), v27 = .int .i64 i ∧ Aside0 (spec_pzAll.l0 kq p fit rules left o i = some r) ∧ Aside0 (kq ≤ k) ∧ Aside0 (PzPost w0 w (.slice Ao out.length co) v4 o wx))
      case atStart => exact ⟨out, 0, rfl, H', ⟨Nat.le_refl _⟩, HP⟩
      case round =>
        clear H' HP
        obtain ⟨o, i, rfl, HA_, HK, HPS⟩ := hrel
        cases gk with
        | zero => exact absurd HA_.out (by simp [spec_pzAll.l0])
        | succ k1 =>
          have H := HA_.out
          clear HA_
          simp only [spec_pzAll.l0] at H
          by_cases c1_ : i < fit.length
          · rw [if_pos c1_] at H
            have c1b : decide ((i : Int) < (fit.length : Int)) = true := decide_eq_true (by omega)
            have c1c : decide (i < fit.length) = true := decide_eq_true c1_
            obtain ⟨ad, e_, hx0, hx1⟩ := at_Rule (H1.out _ HPS.out.2.2.1) (i : Int) (by omega) (by omega)
            cases e_
            simp only [Int.toNat_natCast] at hx0 hx1
            have c1z : (i : Int) < (fit.length : Int) := by omega
            by_cases c2_ : 300 < o.length
            · rw [if_pos c2_] at H
              have c2b : decide ((300 : Int) < (o.length : Int)) = true := decide_eq_true (by omega)
              have c2c : decide (300 < o.length) = true := decide_eq_true c2_
              clear c2_
              have HR := Aside0.mk (Option.some.inj H)
              clear H
              obtain ⟨Aq, cq, eq_⟩ := Kd.S_slice HPS.out.1
              subst eq_
              go_wp2_with ((with_reducible refine gate_dst (N := 12) rfl ?_); refine box_event ?hg (N := 12) ?hd (cs := #[.int .i64 0, .int .i64 0]) (t := 41) ?hr ?_; (case hd => rfl); (case hg => rfl); (case hr => first | (go_simp; done) | (go_simp; rfl)); intro g12 hg w20 hbox hb; have BK := Aside0.mk hbox; have HBx0 := Aside0.mk hb; have HG := Aside0.mk (Nat.le_of_eq hg.symm); have hcz0 : w20.cell? ⟨g12, 0, none⟩ = some (.int .i64 0) := (blk_cell hbox 0).trans rfl; have hcz1 : w20.cell? ⟨g12, 1, none⟩ = some (.int .i64 0) := (blk_cell hbox 1).trans rfl; have hfz0 := blk_frozen hbox 0; have hfz1 := blk_frozen hbox 1; clear hbox hb hg)
              go_ret
              exact ⟨_, rfl, by rw [← HR.out]; exact PzPost.below HPS.out (below_set (below_set HBx0.out HG.out) HG.out)⟩
            · rw [if_neg c2_] at H
              have c2b : decide ((300 : Int) < (o.length : Int)) = false := decide_eq_false (by omega)
              have c2c : decide (300 < o.length) = false := decide_eq_false c2_
              clear c2_
              by_cases c3_ : rules.length < 8796093022207
              · rw [if_pos c3_] at H
                have HLB := Aside0.mk c3_
                clear c3_
                replace H := Option.bind_eq_some_iff.mp H
                obtain ⟨o2, A0_, H⟩ := H
                obtain ⟨fd, hfd⟩ : ∃ l_, l_ = fit.drop (i + 1) := ⟨_, rfl⟩
                rw [← hfd] at A0_
                have A_ := Aside0.mk A0_
                have H' := Aside0.mk H
                clear A0_ H
                have HV := Aside0.mk (Kd.S_lt HPS.out.1)
                obtain ⟨Aq, cq, eq_⟩ := Kd.S_slice HPS.out.1
                subst eq_
                have hfl : fit.length ≤ 9223372036854775807 := Kd.C_max (H1.out _ HPS.out.2.2.1)
                have hil : (i : Int) < (fit.length : Int) := of_decide_eq_true c1b
                have hw_ : (wrap64 ((i : Int) + 1)).toNat = i + 1 := by unfold wrap64; omega
                have hw0_ : 0 ≤ wrap64 ((i : Int) + 1) := by unfold wrap64; omega
                have hw1_ : wrap64 ((i : Int) + 1) ≤ (fit.length : Int) := by unfold wrap64; omega
                obtain ⟨A39, hA39⟩ : ∃ a_, a_ = (if c1 = i + 1 then some ad else (some ad : Option Addr).map (·.add ((i + 1) * 2))) := ⟨_, rfl⟩
                obtain ⟨c39, hc39⟩ : ∃ a_, a_ = c1 - (i + 1) := ⟨_, rfl⟩
                obtain ⟨i0_, hi0_, _, hsz_, _⟩ := info_parts infoE_Rule
                have hcut : ∀ W : World, (Instr.slice 35 (.slice (some ad) fit.length c1) (some (.int .i64 (wrap64 ((i : Int) + 1)))) none none).run Tryd.prog W = .ok (.slice A39 fd.length c39) W := by
                  intro W
                  have h := cut_from (P := Tryd.prog) 35 41 .i64 Tryd.underlying35 hi0_ 2 hsz_ (some ad) fit.length c1 (wrap64 ((i : Int) + 1)) hw0_ hw1_ W
                  rw [hw_] at h
                  rw [h, hA39, hc39, hfd, List.length_drop]
                have HF2 := Aside0.mk (show ∀ W' : World, Kd.C kRule W' (some ad) fit.length fit → Kd.C kRule W' A39 fd.length fd from fun W' h_ => by rw [hA39, hfd]; exact Kd.C_drop h_ (by omega) HC1.out)
                have HC39 := Aside0.mk (show fd.length ≤ c39 by rw [hc39, hfd, List.length_drop]; have := HC1.out; omega)
                clear hw_ hw0_ hw1_ hA39 hc39 hi0_ hsz_ hfd
                go_wp2_with ((with_reducible refine gate_dst (N := 12) rfl ?_); refine box_event ?hg (N := 12) ?hd (cs := #[.int .i64 0, .int .i64 0]) (t := 41) ?hr ?_; (case hd => rfl); (case hg => rfl); (case hr => first | (go_simp; done) | (go_simp; rfl)); intro g12 hg w20 hbox hb; have BK := Aside0.mk hbox; have HBx0 := Aside0.mk hb; have HG := Aside0.mk (Nat.le_of_eq hg.symm); have hcz0 : w20.cell? ⟨g12, 0, none⟩ = some (.int .i64 0) := (blk_cell hbox 0).trans rfl; have hcz1 : w20.cell? ⟨g12, 1, none⟩ = some (.int .i64 0) := (blk_cell hbox 1).trans rfl; have hfz0 := blk_frozen hbox 0; have hfz1 := blk_frozen hbox 1; clear hbox hb hg)
                have hk7_ := blk_put (blk_put BK.out 0 (.int .i64 (rd_Rule fit i).f0) rfl) 1 (.int .i64 (rd_Rule fit i).f1) rfl
                have HX0 := Aside0.mk (show (((w20.setCell ⟨g12, 0, none⟩ (.int .i64 (rd_Rule fit i).f0)).setCell ⟨g12, 1, none⟩ (.int .i64 (rd_Rule fit i).f1)).drew).cell? ⟨g12, 0, none⟩ = some (.int .i64 (rd_Rule fit i).f0) from (blk_cell (blk_drew hk7_) 0).trans rfl)
                have HX1 := Aside0.mk (show (((w20.setCell ⟨g12, 0, none⟩ (.int .i64 (rd_Rule fit i).f0)).setCell ⟨g12, 1, none⟩ (.int .i64 (rd_Rule fit i).f1)).drew).cell? ⟨g12, 1, none⟩ = some (.int .i64 (rd_Rule fit i).f1) from (blk_cell (blk_drew hk7_) 1).trans rfl)
                have HBx := Aside0.mk (show Below wr.heap.size wr ((w20.setCell ⟨g12, 0, none⟩ (.int .i64 (rd_Rule fit i).f0)).setCell ⟨g12, 1, none⟩ (.int .i64 (rd_Rule fit i).f1)).drew from below_drew1 (below_set (below_set HBx0.out HG.out) HG.out))
                clear hk7_ hcz0 hcz1 hfz0 hfz1 BK HBx0 HG
                refine start_ (n := 16) (S := fun w' => w'.cell? ⟨g12, 0, none⟩ = some (.int .i64 (rd_Rule fit i).f0) ∧ w'.cell? ⟨g12, 1, none⟩ = some (.int .i64 (rd_Rule fit i).f1)) (ds := [14]) #[false, false, false, false, false, false, false, false, false, false, false, false, false, false, false, false] (by kernel_rfl) rfl rfl ⟨HX0.out, HX1.out⟩ (fun hHeld => ?_)
                generalize ((w20.setCell ⟨g12, 0, none⟩ (.int .i64 (rd_Rule fit i).f0)).setCell ⟨g12, 1, none⟩ (.int .i64 (rd_Rule fit i).f1)).drew = wS at HX0 HX1 HBx hHeld ⊢
                have HBc := Aside0.mk (Below.refl wS.heap.size wS)
                refine pure_ (i := 0) (N := some 35) (v := ?_) (a' := ?_) #[true, false, false, false, false, false, false, false, false, false, false, false, false, false, false, false] rfl rfl (by kernel_rfl) (fun _ _ _ h => h) (Or.inl ⟨by rfl, ?_⟩) ?_ ?_
                rotate_left
                · intro w'
                  go_simp
                  with_reducible rfl
                rotate_left
                · simp only [Act.put, List.setIfInBounds_toArray, List.set_cons_zero, List.set_cons_succ, i64_w, i32_w]
                  rfl
                refine pure_ (i := 1) (N := some 36) (v := ?_) (a' := ?_) #[true, true, false, false, false, false, false, false, false, false, false, false, false, false, false, false] rfl rfl (by kernel_rfl) (fun _ _ _ h => h) (Or.inl ⟨by rfl, ?_⟩) ?_ ?_
                rotate_left
                · intro w'
                  go_simp
                  with_reducible rfl
                rotate_left
                · simp only [Act.put, List.setIfInBounds_toArray, List.set_cons_zero, List.set_cons_succ, i64_w, i32_w]
                  rfl
                refine pure_ (i := 2) (N := some 37) (v := ?_) (a' := ?_) #[true, true, true, false, false, false, false, false, false, false, false, false, false, false, false, false] rfl rfl (by kernel_rfl) (fun _ _ _ h => h) (Or.inl ⟨by rfl, ?_⟩) ?_ ?_
                rotate_left
                · intro w'
                  go_simp
                  with_reducible rfl
                rotate_left
                · simp only [Act.put, List.setIfInBounds_toArray, List.set_cons_zero, List.set_cons_succ, i64_w, i32_w]
                  rfl
                refine pure_ (i := 3) (N := some 38) (v := ?_) (a' := ?_) #[true, true, true, true, false, false, false, false, false, false, false, false, false, false, false, false] rfl rfl (by kernel_rfl) (fun _ _ _ h => h) (Or.inl ⟨by rfl, ?_⟩) ?_ ?_
                rotate_left
                · intro w'
                  go_simp
                  with_reducible rfl
                rotate_left
                · simp only [Act.put, List.setIfInBounds_toArray, List.set_cons_zero, List.set_cons_succ, i64_w, i32_w]
                  rfl
                refine pure_ (i := 4) (N := some 39) (v := ?_) (a' := ?_) #[true, true, true, true, true, false, false, false, false, false, false, false, false, false, false, false] rfl rfl (by kernel_rfl) (fun _ _ _ h => h) (Or.inl ⟨by rfl, ?_⟩) ?_ ?_
                rotate_left
                · intro w'
                  go_simp
                  with_reducible rfl
                rotate_left
                · simp only [Act.put, List.setIfInBounds_toArray, List.set_cons_zero, List.set_cons_succ, i64_w, i32_w]
                  rfl
                refine pure_ (i := 6) (N := some 41) (v := ?_) (a' := ?_) #[true, true, true, true, true, false, true, false, false, false, false, false, false, false, false, false] rfl rfl (by kernel_rfl) (fun _ _ _ h => h) (Or.inl ⟨by rfl, ?_⟩) ?_ ?_
                rotate_left
                · intro w'
                  go_simp
                  with_reducible rfl
                rotate_left
                · simp only [Act.put, List.setIfInBounds_toArray, List.set_cons_zero, List.set_cons_succ, i64_w, i32_w]
                  rfl
                refine pure_ (i := 11) (N := some 46) (v := ?_) (a' := ?_) #[true, true, true, true, true, false, true, false, false, false, false, true, false, false, false, false] rfl rfl (by kernel_rfl) (fun _ _ _ h => h) (Or.inl ⟨by rfl, ?_⟩) ?_ ?_
                rotate_left
                · intro w'
                  go_simp
                  with_reducible rfl
                rotate_left
                · simp only [Act.put, List.setIfInBounds_toArray, List.set_cons_zero, List.set_cons_succ, i64_w, i32_w]
                  rfl
                refine pure_ (i := 12) (N := some 47) (v := ?_) (a' := ?_) #[true, true, true, true, true, false, true, false, false, false, false, true, true, false, false, false] rfl rfl (by kernel_rfl) (fun _ _ _ h => h) (Or.inl ⟨by rfl, ?_⟩) ?_ ?_
                rotate_left
                · intro w'
                  go_simp
                  with_reducible rfl
                rotate_left
                · simp only [Act.put, List.setIfInBounds_toArray, List.set_cons_zero, List.set_cons_succ, i64_w, i32_w]
                  rfl
                refine pure_ (i := 13) (N := some 48) (v := ?_) (a' := ?_) #[true, true, true, true, true, false, true, false, false, false, false, true, true, true, false, false] rfl rfl (by kernel_rfl) (fun _ _ _ h => h) (Or.inl ⟨by rfl, ?_⟩) ?_ ?_
                rotate_left
                · intro w'
                  go_simp
                  with_reducible rfl
                rotate_left
                · simp only [Act.put, List.setIfInBounds_toArray, List.set_cons_zero, List.set_cons_succ, i64_w, i32_w]
                  rfl
                refine take_ (i := 8) (N := some 43) (v := ?_) (a' := ?_) #[true, true, true, true, true, false, true, false, true, false, false, true, true, true, false, false] rfl rfl (by kernel_rfl) (fun _ _ _ h => h) (Or.inl ⟨by rfl, ?_⟩) hHeld ?_ ?_
                rotate_left
                · rintro w' ⟨s0, s1⟩
                  go_simp
                  with_reducible rfl
                rotate_left
                · simp only [Act.put, List.setIfInBounds_toArray, List.set_cons_zero, List.set_cons_succ, i64_w, i32_w]
                  rfl
                refine join_ (σ := Value × Value × Value) 3 #[true, true, true, true, true, true, true, true, true, true, false, true, true, true, false, false] (fun s_ => [(40, s_.1), (42, s_.2.1), (44, s_.2.2)]) (fun s_ w' => Kd.R kRule 41 w' wS.heap.size (fun _ => True) s_.2.1 rules ∧ Kd.R kRule 41 w' wS.heap.size (fun _ => True) s_.2.2 [rd_Rule fit i] ∧ Below wS.heap.size wS w') ?_ ?_
                rotate_left
                · intro hCont
                  refine two_ (i := 5) (j := 9) (Ni := some 40) (Nj := some 44) #[true, true, true, true, true, true, true, false, true, false, false, true, true, true, false, false] #[true, true, true, true, true, false, true, false, true, true, false, true, true, true, false, false] rfl rfl rfl rfl (by kernel_rfl) (by decide) (by decide) (fun K hK => ?_) (fun K hK => ?_)
                  · skip
                    refine Kd.R_lit_step kRule _ 41 ?hg (N := 40) ?hd (xs := ([] : List SRule)) (inner := []) (ok := fun _ => True) (okp := fun _ => True) ?hr ?hp (fun _ hk => hk) trivial (Below.refl _ _) (Nat.le_refl _) (by simp) ?_
                    (case hd => rfl)
                    (case hg => rfl)
                    (case hr => first | (go_simp; done) | (go_simp; rfl))
                    (case hp => exact Reps.none _ _)
                    intro v40 w5_0 ho hb hg_ hnew_
                    clear hg_ hnew_
                    have HL0 := Aside0.mk (Kd.R_lower ho (below_size HBc.out))
                    clear ho
                    have n9_ := Aside0.mk (below_step HBc.out hb)
                    clear HBc hb
                    have HBc := n9_
                    clear n9_
                    refine hK.out _ _ ⟨(pw_cell_below HBc.out HX0.out), (pw_cell_below HBc.out HX1.out)⟩ (fun hHeld => ?_)
                    clear hK K
                    refine norm_ (a' := ?_) ?_ ?_
                    rotate_left
                    · show Act.put _ (some 40) _ = _
                      simp only [Act.put, List.setIfInBounds_toArray, List.set_cons_zero, List.set_cons_succ, i64_w, i32_w]
                      rfl
                    refine two_ (i := 7) (j := 9) (Ni := some 42) (Nj := some 44) #[true, true, true, true, true, true, true, true, true, false, false, true, true, true, false, false] #[true, true, true, true, true, true, true, false, true, true, false, true, true, true, false, false] rfl rfl rfl rfl (by kernel_rfl) (by decide) (by decide) (fun K hK => ?_) (fun K hK => ?_)
                    · skip
                      refine Kd.R_append_rows_step kRule (w0 := wS) wS.heap.size (by rfl) (.tmp 40) (.tmp 41) 35 41 (.agg #[(.int .i64 0), (.int .i64 0)]) 16 rfl Tryd.underlying35 infoE_Rule rfl (by decide) (by omega) v40 ([] : List SRule) rules _ _ _ (fun _ => True) (fun _ => False) rfl rfl HL0.out ?aR (fun _ _ h => h) (fun _ h => h.elim) (fun _ _ => trivial) HBc.out (below_size HBc.out) ?aL ?_
                      (case aR => exact H2.out _ (PzPost.below (PzPost.below HPS.out HBx.out) HBc.out).2.2.1)
                      (case aL => have h_ := HLB.out; simp only [List.length_nil]; omega)
                      intro v42 w7_1 ho hb hg hat_
                      simp only [List.nil_append] at ho
                      clear hg hat_ HL0 HBc
                      have HA := Aside0.mk ho
                      have HBc := Aside0.mk hb
                      clear ho hb
                      refine hK.out _ _ ⟨(pw_cell_below HBc.out HX0.out), (pw_cell_below HBc.out HX1.out)⟩ (fun hHeld => ?_)
                      clear hK K
                      refine norm_ (a' := ?_) ?_ ?_
                      rotate_left
                      · show Act.put _ (some 42) _ = _
                        simp only [Act.put, List.setIfInBounds_toArray, List.set_cons_zero, List.set_cons_succ, i64_w, i32_w]
                        rfl
                      refine one_ (i := 9) (N := some 44) #[true, true, true, true, true, true, true, true, true, true, false, true, true, true, false, false] rfl rfl (by kernel_rfl) (by decide) (fun K hK => ?_)
                      refine Kd.R_lit_step kRule _ 41 ?hg (N := 44) ?hd (xs := ([rd_Rule fit i] : List SRule)) (inner := [.int .i64 (rd_Rule fit i).f0, .int .i64 (rd_Rule fit i).f1]) (ok := fun _ => True) (okp := fun _ => True) ?hr ?hp (fun _ hk => hk) trivial (Below.refl _ _) (Nat.le_refl _) (by simp) ?_
                      (case hd => rfl)
                      (case hg => rfl)
                      (case hr => first | (go_simp; done) | (go_simp; rfl))
                      (case hp => exact Reps.front (kRule_mkM _ _ _ (rd_Rule fit i)) rfl (Reps.none _ _) rfl)
                      intro v44 w9_2 ho hb hg_ hnew_
                      clear hg_ hnew_
                      have n1_ := Aside0.mk (Kd.R_below HA.out hb)
                      clear HA
                      have HA := n1_
                      clear n1_
                      have HL1 := Aside0.mk (Kd.R_lower ho (below_size HBc.out))
                      clear ho
                      have n9_ := Aside0.mk (below_step HBc.out hb)
                      clear HBc hb
                      have HBc := n9_
                      clear n9_
                      refine hK.out _ _ ⟨(pw_cell_below HBc.out HX0.out), (pw_cell_below HBc.out HX1.out)⟩ (fun hHeld => ?_)
                      clear hK K
                      refine norm_ (a' := ?_) ?_ ?_
                      rotate_left
                      · show Act.put _ (some 44) _ = _
                        simp only [Act.put, List.setIfInBounds_toArray, List.set_cons_zero, List.set_cons_succ, i64_w, i32_w]
                        rfl
                      exact norm_ (by simp only [putAll, Act.put, List.setIfInBounds_toArray, List.set_cons_zero, List.set_cons_succ]) (hCont (v40, v42, v44) _ ⟨HA.out, Kd.R_mono HL1.out (fun _ _ => trivial), HBc.out⟩)
                    · skip
                      refine Kd.R_lit_step kRule _ 41 ?hg (N := 44) ?hd (xs := ([rd_Rule fit i] : List SRule)) (inner := [.int .i64 (rd_Rule fit i).f0, .int .i64 (rd_Rule fit i).f1]) (ok := fun _ => True) (okp := fun _ => True) ?hr ?hp (fun _ hk => hk) trivial (Below.refl _ _) (Nat.le_refl _) (by simp) ?_
                      (case hd => rfl)
                      (case hg => rfl)
                      (case hr => first | (go_simp; done) | (go_simp; rfl))
                      (case hp => exact Reps.front (kRule_mkM _ _ _ (rd_Rule fit i)) rfl (Reps.none _ _) rfl)
                      intro v44 w9_1 ho hb hg_ hnew_
                      clear hg_ hnew_
                      have HL1 := Aside0.mk (Kd.R_mono (Kd.R_lower (Kd.R_new' ho (Kd.R_lt HL0.out)) (below_size HBc.out)) (fun _ hk => hk.2))
                      have n1_ := Aside0.mk (Kd.R_below HL0.out hb)
                      clear HL0 ho
                      have HL0 := n1_
                      clear n1_
                      have n9_ := Aside0.mk (below_step HBc.out hb)
                      clear HBc hb
                      have HBc := n9_
                      clear n9_
                      refine hK.out _ _ ⟨(pw_cell_below HBc.out HX0.out), (pw_cell_below HBc.out HX1.out)⟩ (fun hHeld => ?_)
                      clear hK K
                      refine norm_ (a' := ?_) ?_ ?_
                      rotate_left
                      · show Act.put _ (some 44) _ = _
                        simp only [Act.put, List.setIfInBounds_toArray, List.set_cons_zero, List.set_cons_succ, i64_w, i32_w]
                        rfl
                      refine one_ (i := 7) (N := some 42) #[true, true, true, true, true, true, true, true, true, true, false, true, true, true, false, false] rfl rfl (by kernel_rfl) (by decide) (fun K hK => ?_)
                      refine Kd.R_append_rows_step kRule (w0 := wS) wS.heap.size (by rfl) (.tmp 40) (.tmp 41) 35 41 (.agg #[(.int .i64 0), (.int .i64 0)]) 16 rfl Tryd.underlying35 infoE_Rule rfl (by decide) (by omega) v40 ([] : List SRule) rules _ _ _ (fun _ => True) (fun _ => False) rfl rfl HL0.out ?aR (fun _ _ h => h) (fun _ h => h.elim) (fun _ _ => trivial) HBc.out (below_size HBc.out) ?aL ?_
                      (case aR => exact H2.out _ (PzPost.below (PzPost.below HPS.out HBx.out) HBc.out).2.2.1)
                      (case aL => have h_ := HLB.out; simp only [List.length_nil]; omega)
                      intro v42 w7_2 ho hb hg hat_
                      simp only [List.nil_append] at ho
                      have n1_ := Aside0.mk (Kd.R_grown HL1.out hg (fun _ hk => hk))
                      clear HL1
                      have HL1 := n1_
                      clear n1_
                      clear hg hat_ HL0 HBc
                      have HA := Aside0.mk ho
                      have HBc := Aside0.mk hb
                      clear ho hb
                      refine hK.out _ _ ⟨(pw_cell_below HBc.out HX0.out), (pw_cell_below HBc.out HX1.out)⟩ (fun hHeld => ?_)
                      clear hK K
                      refine norm_ (a' := ?_) ?_ ?_
                      rotate_left
                      · show Act.put _ (some 42) _ = _
                        simp only [Act.put, List.setIfInBounds_toArray, List.set_cons_zero, List.set_cons_succ, i64_w, i32_w]
                        rfl
                      exact norm_ (by simp only [putAll, Act.put, List.setIfInBounds_toArray, List.set_cons_zero, List.set_cons_succ]) (hCont (v40, v42, v44) _ ⟨HA.out, Kd.R_mono HL1.out (fun _ _ => trivial), HBc.out⟩)
                  · skip
                    refine Kd.R_lit_step kRule _ 41 ?hg (N := 44) ?hd (xs := ([rd_Rule fit i] : List SRule)) (inner := [.int .i64 (rd_Rule fit i).f0, .int .i64 (rd_Rule fit i).f1]) (ok := fun _ => True) (okp := fun _ => True) ?hr ?hp (fun _ hk => hk) trivial (Below.refl _ _) (Nat.le_refl _) (by simp) ?_
                    (case hd => rfl)
                    (case hg => rfl)
                    (case hr => first | (go_simp; done) | (go_simp; rfl))
                    (case hp => exact Reps.front (kRule_mkM _ _ _ (rd_Rule fit i)) rfl (Reps.none _ _) rfl)
                    intro v44 w9_0 ho hb hg_ hnew_
                    clear hg_ hnew_
                    have HL1 := Aside0.mk (Kd.R_lower ho (below_size HBc.out))
                    clear ho
                    have n9_ := Aside0.mk (below_step HBc.out hb)
                    clear HBc hb
                    have HBc := n9_
                    clear n9_
                    refine hK.out _ _ ⟨(pw_cell_below HBc.out HX0.out), (pw_cell_below HBc.out HX1.out)⟩ (fun hHeld => ?_)
                    clear hK K
                    refine norm_ (a' := ?_) ?_ ?_
                    rotate_left
                    · show Act.put _ (some 44) _ = _
                      simp only [Act.put, List.setIfInBounds_toArray, List.set_cons_zero, List.set_cons_succ, i64_w, i32_w]
                      rfl
                    refine one_ (i := 5) (N := some 40) #[true, true, true, true, true, true, true, false, true, true, false, true, true, true, false, false] rfl rfl (by kernel_rfl) (by decide) (fun K hK => ?_)
                    refine Kd.R_lit_step kRule _ 41 ?hg (N := 40) ?hd (xs := ([] : List SRule)) (inner := []) (ok := fun _ => True) (okp := fun _ => True) ?hr ?hp (fun _ hk => hk) trivial (Below.refl _ _) (Nat.le_refl _) (by simp) ?_
                    (case hd => rfl)
                    (case hg => rfl)
                    (case hr => first | (go_simp; done) | (go_simp; rfl))
                    (case hp => exact Reps.none _ _)
                    intro v40 w5_1 ho hb hg_ hnew_
                    clear hg_ hnew_
                    have n1_ := Aside0.mk (Kd.R_mono (Kd.R_elder' HL1.out (Kd.R_base ho) hb) (fun _ hk => hk.2))
                    clear HL1
                    have HL1 := n1_
                    clear n1_
                    have HL0 := Aside0.mk (Kd.R_lower ho (below_size HBc.out))
                    clear ho
                    have n9_ := Aside0.mk (below_step HBc.out hb)
                    clear HBc hb
                    have HBc := n9_
                    clear n9_
                    refine hK.out _ _ ⟨(pw_cell_below HBc.out HX0.out), (pw_cell_below HBc.out HX1.out)⟩ (fun hHeld => ?_)
                    clear hK K
                    refine norm_ (a' := ?_) ?_ ?_
                    rotate_left
                    · show Act.put _ (some 40) _ = _
                      simp only [Act.put, List.setIfInBounds_toArray, List.set_cons_zero, List.set_cons_succ, i64_w, i32_w]
                      rfl
                    refine one_ (i := 7) (N := some 42) #[true, true, true, true, true, true, true, true, true, true, false, true, true, true, false, false] rfl rfl (by kernel_rfl) (by decide) (fun K hK => ?_)
                    refine Kd.R_append_rows_step kRule (w0 := wS) wS.heap.size (by rfl) (.tmp 40) (.tmp 41) 35 41 (.agg #[(.int .i64 0), (.int .i64 0)]) 16 rfl Tryd.underlying35 infoE_Rule rfl (by decide) (by omega) v40 ([] : List SRule) rules _ _ _ (fun _ => True) (fun _ => False) rfl rfl HL0.out ?aR (fun _ _ h => h) (fun _ h => h.elim) (fun _ _ => trivial) HBc.out (below_size HBc.out) ?aL ?_
                    (case aR => exact H2.out _ (PzPost.below (PzPost.below HPS.out HBx.out) HBc.out).2.2.1)
                    (case aL => have h_ := HLB.out; simp only [List.length_nil]; omega)
                    intro v42 w7_2 ho hb hg hat_
                    simp only [List.nil_append] at ho
                    have n1_ := Aside0.mk (Kd.R_grown HL1.out hg (fun _ hk => hk))
                    clear HL1
                    have HL1 := n1_
                    clear n1_
                    clear hg hat_ HL0 HBc
                    have HA := Aside0.mk ho
                    have HBc := Aside0.mk hb
                    clear ho hb
                    refine hK.out _ _ ⟨(pw_cell_below HBc.out HX0.out), (pw_cell_below HBc.out HX1.out)⟩ (fun hHeld => ?_)
                    clear hK K
                    refine norm_ (a' := ?_) ?_ ?_
                    rotate_left
                    · show Act.put _ (some 42) _ = _
                      simp only [Act.put, List.setIfInBounds_toArray, List.set_cons_zero, List.set_cons_succ, i64_w, i32_w]
                      rfl
                    exact norm_ (by simp only [putAll, Act.put, List.setIfInBounds_toArray, List.set_cons_zero, List.set_cons_succ]) (hCont (v40, v42, v44) _ ⟨HA.out, Kd.R_mono HL1.out (fun _ _ => trivial), HBc.out⟩)
                rintro ⟨v40, v42, v44⟩ wJ ⟨ha_, hl_, hb_⟩
                clear HBc
                have HA := Aside0.mk ha_
                have HL1 := Aside0.mk hl_
                have HBc := Aside0.mk hb_
                clear ha_ hl_ hb_
                obtain ⟨A44, c44, e44⟩ := Kd.R_slice HL1.out
                dsimp only at e44
                subst e44
                refine norm_ (a' := ?_) ?_ ?_
                rotate_left
                · simp only [putAll, Act.put, List.setIfInBounds_toArray, List.set_cons_zero, List.set_cons_succ]
                  rfl
                refine one_ (i := 10) (N := some 45) #[true, true, true, true, true, true, true, true, true, true, true, true, true, true, false, false] rfl rfl (by kernel_rfl) (by decide) (fun K hK => ?_)
                refine Kd.R_append_rows_step kRule (w0 := wS) wS.heap.size (by rfl) (.tmp 42) (.tmp 44) 35 41 (.agg #[(.int .i64 0), (.int .i64 0)]) 16 rfl Tryd.underlying35 infoE_Rule rfl (by decide) (by omega) v42 rules [rd_Rule fit i] _ _ _ (fun _ => True) (fun _ => False) rfl rfl HA.out ?aR (fun _ _ h => h) (fun _ h => h.elim) (fun _ _ => trivial) HBc.out (below_size HBc.out) ?aL ?_
                (case aR => exact (Kd.R_reads' HL1.out).2.2)
                (case aL => have h_ := HLB.out; simp only [List.length_singleton]; omega)
                intro v45 wB ho hb hg hat_
                clear hg hat_ HA HL1 HBc
                have HA := Aside0.mk ho
                have HBc := Aside0.mk hb
                clear ho hb
                obtain ⟨A45, c45, e45⟩ := Kd.R_slice HA.out
                subst e45
                refine hK.out _ _ ⟨(pw_cell_below HBc.out HX0.out), (pw_cell_below HBc.out HX1.out)⟩ (fun hHeld => ?_)
                clear hK K
                refine norm_ (a' := ?_) ?_ ?_
                rotate_left
                · show Act.put _ (some 45) _ = _
                  simp only [Act.put, List.setIfInBounds_toArray, List.set_cons_zero, List.set_cons_succ, i64_w, i32_w]
                  rfl
                refine last_ (i := 14) (N := some 49) #[true, true, true, true, true, true, true, true, true, true, true, true, true, true, true, false] rfl rfl (by kernel_rfl) (by decide) (fun K hK => ?_)
                refine goes_ Tryd.func53 (by kernel_rfl) rfl #[.string p, .slice A39 fd.length c39, .slice A45 (rules ++ [rd_Rule fit i]).length c45, .int .i64 (wrap64 (left - 1)), .slice Aq o.length cq] (by rfl) rfl rfl (by (try simp only [List.map_toArray, List.map_cons, List.map_nil]); first | done | rfl) ?_
                have HPB := Aside0.mk (PzPost.below (PzPost.below HPS.out HBx.out) HBc.out)
                refine (IH.out k1 (by have := HK.out; omega) p fd (rules ++ [rd_Rule fit i]) (wrap64 (left - 1)) o o2 A39 c39 _ _ (.slice Aq o.length cq) w0 _ ?s1 ?s2 ?s3 ?s4 ?s5 ?s6 A_.out).mono ?_
                (case s1 => exact (fun W' hg' => HF2.out W' (H1.out _ (grown_trans HPB.out.2.2.1 hg' HPB.out.2.2.2))))
                (case s2 => exact HC39.out)
                (case s3 => exact (fun W' hg' => (Kd.R_reads' (Kd.R_grown (Kd.R_bound HA.out) hg' (fun k_ hk e_ => by have h1_ := HV.out k_ e_.symm; have h2_ := hk.2.1; have h3_ := HBx.out.size; omega))).2.2))
                (case s4 => exact (Kd.R_reads' HA.out).2.1)
                (case s5 => exact HPB.out.1)
                (case s6 => exact HPB.out.2.1)
                rintro e wC ⟨v49, rfl, hp⟩
                refine ⟨_, rfl, ?_⟩
                have HPN := Aside0.mk (PzPost.trans HPB.out hp)
                clear hp HPB
                refine hK.out _ _ ?_
                clear hK K
                refine norm_ (a' := ?_) ?_ ?_
                rotate_left
                · show Act.put _ (some 49) _ = _
                  simp only [Act.put, List.setIfInBounds_toArray, List.set_cons_zero, List.set_cons_succ, i64_w, i32_w]
                  rfl
                refine pure_ (i := 15) (N := some 4) (v := ?_) (a' := ?_) #[true, true, true, true, true, true, true, true, true, true, true, true, true, true, true, true] rfl rfl (by kernel_rfl) (fun _ _ _ h => h) (Or.inl ⟨by rfl, ?_⟩) ?_ ?_
                rotate_left
                · intro w'
                  go_simp
                  with_reducible rfl
                rotate_left
                · simp only [Act.put, List.setIfInBounds_toArray, List.set_cons_zero, List.set_cons_succ, i64_w, i32_w]
                  rfl
                refine done_ (by kernel_rfl) ?_
                go_wp2
                go_roundg k1
                case measure => have := HK.out; omega
                case rel => exact ⟨o2, i + 1, by go_num, H', ⟨by have := HK.out; omega⟩, HPN⟩
              · rw [if_neg c3_] at H
                exact absurd H (by simp)
          · rw [if_neg c1_] at H
            have c1b : decide ((i : Int) < (fit.length : Int)) = false := decide_eq_false (by omega)
            have c1c : decide (i < fit.length) = false := decide_eq_false c1_
            clear c1_
            have HR := Aside0.mk (Option.some.inj H)
            clear H
            go_wp2
            go_ret
            exact ⟨_, rfl, by rw [← HR.out]; exact HPS.out⟩
theorem spec_pzAll.calls (k : Nat) (a0 : ByteArray) (A1 : Option Addr) (c1 : Nat) (l1 : List SRule) (A2 : Option Addr) (c2 : Nat) (l2 : List SRule) (a3 : Int) (A4 : Option Addr) (c4 : Nat) (l4 : List (List SRule)) (r : List (List SRule)) (w : World)
    (hr1 : Kd.C kRule w A1 l1.length l1) (hc1 : l1.length ≤ c1) (hr2 : Kd.C kRule w A2 l2.length l2) (hc2 : l2.length ≤ c2) (hr4 : Kd.C (Kd.slice 41 kRule) w A4 l4.length l4) (hc4 : l4.length ≤ c4) (h : spec_pzAll.f k a0 l1 l2 a3 l4 = some r) (hnil : A4 = none ∧ c4 = 0 := by exact ⟨rfl, rfl⟩) :
    Calls Tryd.prog 53 #[.string a0, .slice A1 l1.length c1, .slice A2 l2.length c2, .int .i64 a3, .slice A4 l4.length c4] w fun e w' => ∃ v0_ : Value, e = .returned (v0_) ∧ Kd.S (Kd.slice 41 kRule) 35 w' w.heap.size (fun _ => True) v0_ r ∧ Below w.heap.size w w' := by
  obtain ⟨rfl, rfl⟩ := hnil
  obtain rfl : l4 = [] := List.eq_nil_of_length_eq_zero (by omega)
  have hb : ∀ W', w.grownBy W' (Value.slice none ([] : List (List SRule)).length 0).ownBlock → Below w.heap.size w W' := fun W' hg => ⟨hg.os, hg.tape, hg.output, hg.size, fun k hk => hg.block k hk (by simp [Value.ownBlock])⟩
  exact (spec_pzAll.own k a0 l1 l2 a3 [] r A1 c1 A2 c2 (.slice none 0 0) w w (fun W' hg => Kd.C_below hr1 (hb W' hg)) hc1 (fun W' hg => Kd.C_below hr2 (hb W' hg)) hc2 (Kd.S_nil _ _ _ _ _) (Below.refl _ _) h).mono fun e w' ⟨v1, he, hp⟩ => ⟨v1, he, hp.1, hp.2.1⟩
end Go.Proofs.YtjekkcjlfgfnkaaDoor.P
namespace Go.Proofs.YtjekkcjlfgfnkaaDoor.P
open Go.RowKit Go.Proofs.YtjekkcjlfgfnkaaDoorW.PrintWords Go.Proofs.YtjekkcjlfgfnkaaDoorW.PrintLast Go.Proofs.YtjekkcjlfgfnkaaDoorW.PrintMore
attribute [local go_sem] max2_int min2_int max_two min_two max_three min_three max_four min_four
set_option linter.unusedVariables false
set_option linter.unusedSimpArgs false
def spec_pzAnswers.f (k : Nat) (a0_0 : ByteArray) (a0_1 : Int) : Option ((List (List (SRule))) × Bool) := (spec_pzGood.f k a0_0 a0_1).bind fun t102 => (if t102 = true then ((spec_pzFit.f k a0_0).bind fun t103 => ((spec_pzAll.f k a0_0 t103 ([] : List (SRule)) a0_1 ([] : List (List (SRule)))).bind fun t106 => (if (t106.length : Int) > 300 then (some (([] : List (List (SRule))), false)) else (some (t106, true))))) else (some (([] : List (List (SRule))), false)))
def spec_pzAnswers.T3 : Bool × List (List Nat × List Nat) := (true, [([], []), ([0], [0]), ([], []), ([2], [2]), ([3], [3]), ([], []), ([5], [5]), ([1, 4, 6, 4], [1, 4, 6]), ([7, 7, 0, 1, 2, 3, 4, 5, 6, 7], [7])])
def spec_pzAnswers.B3 : List Nat := [0, 1, 0, 4, 12, 0, 32, 127, 255]
theorem spec_pzAnswers.tab3 : rtab .any (opsOf Tryd.f55 3) = spec_pzAnswers.T3 := by kernel_rfl
theorem spec_pzAnswers.bits3 : waitsOk spec_pzAnswers.T3.2 spec_pzAnswers.B3 = true := by kernel_rfl
set_option maxHeartbeats 8000000 in
set_option maxRecDepth 100000 in
theorem spec_pzAnswers.calls (k : Nat) (a0_0 : ByteArray) (a0_1 : Int) (r1 : List (List (SRule))) (r2 : Bool) (w : World) (h : spec_pzAnswers.f k a0_0 a0_1 = some (r1, r2)) :
    Calls Tryd.prog 55 #[.agg #[.string a0_0, .int .i64 a0_1]] w fun e w' => ∃ v0_ : Value, e = .returned (.tuple #[v0_, .bool r2]) ∧ Kd.S (Kd.slice 41 kRule) 35 w' w.heap.size (fun _ => True) v0_ r1 ∧ Below w.heap.size w w' := by
  have hu26 := Tryd.underlying26
  have HB := Aside0.mk (Below.refl w.heap.size w)
  have H : ((spec_pzGood.f k a0_0 a0_1).bind fun t102 => (if t102 = true then ((spec_pzFit.f k a0_0).bind fun t103 => ((spec_pzAll.f k a0_0 t103 ([] : List (SRule)) a0_1 ([] : List (List (SRule)))).bind fun t106 => (if (t106.length : Int) > 300 then (some (([] : List (List (SRule))), false)) else (some (t106, true))))) else (some (([] : List (List (SRule))), false)))) = some (r1, r2) := h
  clear h
  replace H := Option.bind_eq_some_iff.mp H
  obtain ⟨t102, A20, H⟩ := H
  replace H : (if t102 = true then ((spec_pzFit.f k a0_0).bind fun t103 => ((spec_pzAll.f k a0_0 t103 ([] : List (SRule)) a0_1 ([] : List (List (SRule)))).bind fun t106 => (if (t106.length : Int) > 300 then (some (([] : List (List (SRule))), false)) else (some (t106, true))))) else (some (([] : List (List (SRule))), false))) = some (r1, r2) := H
  have A2 := Aside0.mk A20
  clear A20
  by_cases c3 : t102 = true
  · subst c3
    have H1 : ((spec_pzFit.f k a0_0).bind fun t103 => ((spec_pzAll.f k a0_0 t103 ([] : List (SRule)) a0_1 ([] : List (List (SRule)))).bind fun t106 => (if (t106.length : Int) > 300 then (some (([] : List (List (SRule))), false)) else (some (t106, true))))) = some (r1, r2) := by rw [if_pos rfl] at H; exact H
    clear H
    have H := H1
    clear H1
    replace H := Option.bind_eq_some_iff.mp H
    obtain ⟨t103, A40, H⟩ := H
    replace H : ((spec_pzAll.f k a0_0 t103 ([] : List (SRule)) a0_1 ([] : List (List (SRule)))).bind fun t106 => (if (t106.length : Int) > 300 then (some (([] : List (List (SRule))), false)) else (some (t106, true)))) = some (r1, r2) := H
    have A4 := Aside0.mk A40
    clear A40
    replace H := Option.bind_eq_some_iff.mp H
    obtain ⟨t106, A50, H⟩ := H
    replace H : (if (t106.length : Int) > 300 then (some (([] : List (List (SRule))), false)) else (some (t106, true))) = some (r1, r2) := H
    have A5 := Aside0.mk A50
    clear A50
    by_cases c6 : (t106.length : Int) > 300
    · rw [if_pos c6] at H
      have c6b0 : decide (300 < (t106.length : Int)) = true := decide_eq_true c6
      have c6b1 : decide (300 < t106.length) = true := decide_eq_true (by omega)
      clear c6
      simp only [Option.some.injEq, Prod.mk.injEq] at H
      obtain ⟨rfl, rfl⟩ := H
      go_enter Tryd.func55, Tryd.ntmps55
      try go_wp2_with (first | ((with_reducible refine gate_dst (N := 1) rfl ?_); refine box_event ?hg (N := 1) ?hd (cs := #[.string a0_0, .int .i64 a0_1]) (t := 26) ?hr ?_; (case hd => rfl); (case hg => rfl); (case hr => first | (go_simp; done) | (go_simp; rfl)); intro gb101 hg w7 hbox hb; have n0_ := Aside0.mk (below_step (by repeat (first | (with_reducible first | exact HB.out | apply below_alloc | apply pw_below_drewN | apply below_drew1) | exact HB.out)) hb); have n1_ := Aside0.mk (hbox); have n2_ := Aside0.mk ((by rw [hg]; exact (below_size (by repeat (first | (with_reducible first | exact HB.out | apply below_alloc | apply pw_below_drewN | apply below_drew1) | exact HB.out))) : w.heap.size ≤ gb101)); have n3_ := Aside0.mk ((by rw [hg]; exact (below_size (by repeat (first | (with_reducible first | exact HB.out | apply below_alloc | apply pw_below_drewN | apply below_drew1) | exact HB.out))) : w.heap.size ≤ gb101)); clear HB; have HB := n0_; have BK101 := n1_; have GW101 := n2_; have GE101 := n3_; clear n0_ n1_ n2_ n3_; clear hb hbox hg; have hcz8_0 : w7.cell? ⟨gb101, 0, none⟩ = some (.string a0_0) := (blk_cell BK101.out 0).trans rfl; have hcz8_1 : w7.cell? ⟨gb101, 1, none⟩ = some (.int .i64 a0_1) := (blk_cell BK101.out 1).trans rfl; have hfz8_0 := blk_frozen BK101.out 0; have hfz8_1 := blk_frozen BK101.out 1) | ((with_reducible refine gate_callee (f := 42) rfl ?_); refine goesL_ (some 6) rfl rfl Tryd.func42 (by kernel_rfl) rfl #[.agg #[.string a0_0, .int .i64 a0_1]] rfl (by (try simp only [List.map_toArray, List.map_cons, List.map_nil]); first | done | rfl | (simp only [List.length_drop, List.length_take]; rfl)) ?_; (with_reducible refine (spec_pzGood.calls k a0_0 a0_1 true _ A2.out).mono ?_); rintro e w9 ⟨rfl, hb⟩; refine ⟨_, rfl, ?_⟩; have n0_ := Aside0.mk (blk_below (g := gb101) (o := .cells #[.string a0_0, .int .i64 a0_1] 26 (0, 0)) (by (with_reducible repeat (first | refine blk_drewN ?_ _ | refine blk_drew ?_ | refine blk_alloc ?_ _)); exact BK101.out) hb); have n1_ := Aside0.mk (below_step (by repeat (first | (with_reducible first | exact HB.out | apply below_alloc | apply pw_below_drewN | apply below_drew1 | refine below_set ?_ GE101.out) | exact HB.out)) hb); clear BK101; clear HB; have BK101 := n0_; have HB := n1_; clear n0_ n1_; (try clear hb); (try clear hb2); (try clear hk); (try clear hi)))
      have n0_ := Aside0.mk (blk_drew BK101.out)
      have n1_ := Aside0.mk (below_drew1 HB.out)
      clear BK101
      clear HB
      have BK101 := n0_
      have HB := n1_
      clear n0_ n1_
      refine start_ (n := 9) (S := fun w' => w'.cell? ⟨gb101, 0, none⟩ = some (.string a0_0) ∧ w'.cell? ⟨gb101, 1, none⟩ = some (.int .i64 a0_1)) (ds := []) #[false, false, false, false, false, false, false, false, false] (by kernel_rfl) rfl rfl ⟨(blk_cell BK101.out 0).trans rfl, (blk_cell BK101.out 1).trans rfl⟩ (fun hHeld => ?_); refine with_tabW spec_pzAnswers.tab3 spec_pzAnswers.bits3 (fun HT_ HW_ => ?_)
      generalize w9.drew = w10 at BK101 HB hHeld ⊢
      refine pure_ (i := 0) (N := some 8) (v := ?_) (a' := ?_) #[true, false, false, false, false, false, false, false, false] rfl rfl (any_of HT_.out (by kernel_rfl)) (fun _ _ _ h => h) (Or.inl ⟨by rfl, ?_⟩) ?_ ?_
      rotate_left
      · intro w'
        go_simp
        with_reducible rfl
      rotate_left
      · simp only [Act.put, List.setIfInBounds_toArray, List.set_cons_zero, List.set_cons_succ, i64_w, i32_w]
        rfl
      refine pure_ (i := 2) (N := some 10) (v := ?_) (a' := ?_) #[true, false, true, false, false, false, false, false, false] rfl rfl (any_of HT_.out (by kernel_rfl)) (fun _ _ _ h => h) (Or.inl ⟨by rfl, ?_⟩) ?_ ?_
      rotate_left
      · intro w'
        go_simp
        with_reducible rfl
      rotate_left
      · simp only [Act.put, List.setIfInBounds_toArray, List.set_cons_zero, List.set_cons_succ, i64_w, i32_w]
        rfl
      refine pure_ (i := 5) (N := some 13) (v := ?_) (a' := ?_) #[true, false, true, false, false, true, false, false, false] rfl rfl (any_of HT_.out (by kernel_rfl)) (fun _ _ _ h => h) (Or.inl ⟨by rfl, ?_⟩) ?_ ?_
      rotate_left
      · intro w'
        go_simp
        with_reducible rfl
      rotate_left
      · simp only [Act.put, List.setIfInBounds_toArray, List.set_cons_zero, List.set_cons_succ, i64_w, i32_w]
        rfl
      refine take_ (i := 1) (N := some 9) (v := ?_) (a' := ?_) #[true, true, true, false, false, true, false, false, false] rfl rfl (take_ofW HT_.out HW_.out (by kernel_rfl)) (fun _ _ _ h => h) (Or.inl ⟨by rfl, ?_⟩) hHeld ?_ ?_
      rotate_left
      · rintro w' ⟨s0, s1⟩
        go_simp
        with_reducible rfl
      rotate_left
      · simp only [Act.put, List.setIfInBounds_toArray, List.set_cons_zero, List.set_cons_succ, i64_w, i32_w]
        rfl
      refine take_ (i := 3) (N := some 11) (v := ?_) (a' := ?_) #[true, true, true, true, false, true, false, false, false] rfl rfl (take_ofW HT_.out HW_.out (by kernel_rfl)) (fun _ _ _ h => h) (Or.inl ⟨by rfl, ?_⟩) hHeld ?_ ?_
      rotate_left
      · rintro w' ⟨s0, s1⟩
        go_simp
        with_reducible rfl
      rotate_left
      · simp only [Act.put, List.setIfInBounds_toArray, List.set_cons_zero, List.set_cons_succ, i64_w, i32_w]
        rfl
      refine take_ (i := 6) (N := some 14) (v := ?_) (a' := ?_) #[true, true, true, true, false, true, true, false, false] rfl rfl (take_ofW HT_.out HW_.out (by kernel_rfl)) (fun _ _ _ h => h) (Or.inl ⟨by rfl, ?_⟩) hHeld ?_ ?_
      rotate_left
      · rintro w' ⟨s0, s1⟩
        go_simp
        with_reducible rfl
      rotate_left
      · simp only [Act.put, List.setIfInBounds_toArray, List.set_cons_zero, List.set_cons_succ, i64_w, i32_w]
        rfl
      refine one_ (i := 4) (N := some 12) #[true, true, true, true, true, true, true, false, false] rfl rfl (one_of HT_.out (by kernel_rfl)) (by decide) (fun K hK => ?_)
      refine goes_ Tryd.func47 (by kernel_rfl) rfl #[.string a0_0] (by rfl) rfl rfl (by (try simp only [List.map_toArray, List.map_cons, List.map_nil]); first | done | rfl | (simp only [List.length_drop, List.length_take]; rfl)) ?_
      with_reducible refine (spec_pzFit.calls k a0_0 t103 _ A4.out).mono ?_
      rintro e w11 ⟨v104, rfl, ho0, hb⟩
      refine ⟨_, rfl, ?_⟩
      have n0_ := Aside0.mk (Kd.R_lower ho0 (below_size (by repeat (first | (with_reducible first | exact HB.out | apply below_alloc | apply pw_below_drewN | apply below_drew1 | refine below_set ?_ GE101.out) | exact HB.out))))
      have n1_ := Aside0.mk (blk_below (g := gb101) (o := .cells #[.string a0_0, .int .i64 a0_1] 26 (0, 0)) (by (with_reducible repeat (first | refine blk_drewN ?_ _ | refine blk_drew ?_ | refine blk_alloc ?_ _)); exact BK101.out) hb)
      have n2_ := Aside0.mk (below_step (by repeat (first | (with_reducible first | exact HB.out | apply below_alloc | apply pw_below_drewN | apply below_drew1 | refine below_set ?_ GE101.out) | exact HB.out)) hb)
      clear BK101
      clear HB
      have HO105 := n0_
      have BK101 := n1_
      have HB := n2_
      clear n0_ n1_ n2_
      (try clear hb)
      (try clear hb2)
      (try clear hk)
      (try clear hi)
      (try clear ho0)
      obtain ⟨Ao12, co12, eo12⟩ := Kd.R_slice HO105.out
      (first | subst eo12 | (injection eo12 with f1_ f2_ f3_; have f4_ := f1_.symm; have f5_ := f3_.symm; clear f1_ f2_ f3_; subst f4_; subst f5_))
      refine hK.out _ _ ⟨(blk_cell BK101.out 0).trans rfl, (blk_cell BK101.out 1).trans rfl⟩ (fun hHeld => ?_)
      clear hK K
      refine norm_ (a' := ?_) ?_ ?_
      rotate_left
      · show Act.put _ (some 12) _ = _
        simp only [Act.put, List.setIfInBounds_toArray, List.set_cons_zero, List.set_cons_succ, i64_w, i32_w]
        rfl
      refine one_ (i := 7) (N := some 15) #[true, true, true, true, true, true, true, true, false] rfl rfl (one_of HT_.out (by kernel_rfl)) (by decide) (fun K hK => ?_)
      refine goes_ Tryd.func53 (by kernel_rfl) rfl #[.string a0_0, .slice Ao12 t103.length co12, .slice none 0 0, .int .i64 a0_1, .slice none 0 0] (by rfl) rfl rfl (by (try simp only [List.map_toArray, List.map_cons, List.map_nil]); first | done | rfl | (simp only [List.length_drop, List.length_take]; rfl)) ?_
      refine (spec_pzAll.calls k a0_0 _ _ t103 _ _ ([] : List (SRule)) a0_1 _ _ ([] : List (List (SRule))) t106 _ ?side1 ?side2 ?side3 ?side4 ?side5 ?side6 A5.out).mono ?_
      (case side1 => repeat (first | exact (Kd.R_reads' HO105.out).2.2 | (with_reducible refine Kd.C_alloc ?_ _) | (with_reducible refine Kd.C_drewN ?_ _) | (with_reducible refine Kd.C_drew ?_)))
      (case side2 => exact (Kd.R_reads' HO105.out).2.1)
      (case side3 => exact Kd.C_nil _ _)
      (case side4 => exact Nat.le_refl _)
      (case side5 => exact Kd.C_nil _ _)
      (case side6 => exact Nat.le_refl _)
      rintro e w13 ⟨v107, rfl, ho0, hb⟩
      refine ⟨_, rfl, ?_⟩
      have n0_ := Aside0.mk (Kd.R_below (by (with_reducible repeat (first | apply Kd.R_alloc | apply Kd.R_drewN | apply Kd.R_drew)); exact HO105.out) hb)
      have n1_ := Aside0.mk (Kd.S_lower (Kd.S_new' ho0 (Kd.R_lt (by (with_reducible repeat (first | apply Kd.R_alloc | apply Kd.R_drewN | apply Kd.R_drew)); exact HO105.out))) (below_size (by repeat (first | (with_reducible first | exact HB.out | apply below_alloc | apply pw_below_drewN | apply below_drew1 | refine below_set ?_ GE101.out) | exact HB.out))))
      have n2_ := Aside0.mk (blk_below (g := gb101) (o := .cells #[.string a0_0, .int .i64 a0_1] 26 (0, 0)) (by (with_reducible repeat (first | refine blk_drewN ?_ _ | refine blk_drew ?_ | refine blk_alloc ?_ _)); exact BK101.out) hb)
      have n3_ := Aside0.mk (below_step (by repeat (first | (with_reducible first | exact HB.out | apply below_alloc | apply pw_below_drewN | apply below_drew1 | refine below_set ?_ GE101.out) | exact HB.out)) hb)
      clear HO105
      clear BK101
      clear HB
      have HO105 := n0_
      have HO108 := n1_
      have BK101 := n2_
      have HB := n3_
      clear n0_ n1_ n2_ n3_
      (try clear hb)
      (try clear hb2)
      (try clear hk)
      (try clear hi)
      (try clear ho0)
      refine hK.out _ _ ⟨(blk_cell BK101.out 0).trans rfl, (blk_cell BK101.out 1).trans rfl⟩ (fun hHeld => ?_)
      clear hK K
      refine norm_ (a' := ?_) ?_ ?_
      rotate_left
      · show Act.put _ (some 15) _ = _
        simp only [Act.put, List.setIfInBounds_toArray, List.set_cons_zero, List.set_cons_succ, i64_w, i32_w]
        rfl
      refine pure_ (i := 8) (N := some 4) (v := ?_) (a' := ?_) #[true, true, true, true, true, true, true, true, true] rfl rfl (any_of HT_.out (by kernel_rfl)) (fun _ _ _ h => h) (Or.inl ⟨by rfl, ?_⟩) ?_ ?_
      rotate_left
      · intro w'
        go_simp
        with_reducible rfl
      rotate_left
      · simp only [Act.put, List.setIfInBounds_toArray, List.set_cons_zero, List.set_cons_succ, i64_w, i32_w]
        rfl
      refine done_ (done_of HT_.out (by kernel_rfl)) ?_
      obtain ⟨Ao14, co14, eo14⟩ := Kd.S_slice HO108.out
      subst eo14
      try go_wp2
      go_ret2
      exact ⟨_, by first | rfl | (simp [errW_none, errW_some] <;> rfl) | (simp [*, errW_none, errW_some] <;> rfl), by first | exact Kd.S_nil _ _ _ _ _ | exact Kd.N_nil _ _ _ _ _ | exact Kd.V_nil _ _ _ _ _ | exact Kd.Q_nil _ _ _ _ _ | exact Kd.R_nil _ _ _ _ _, by repeat (first | (with_reducible first | exact HB.out | apply below_alloc | apply pw_below_drewN | apply below_drew1 | refine below_set ?_ GE101.out) | exact HB.out)⟩
    · rw [if_neg c6] at H
      have c6b0 : decide (300 < (t106.length : Int)) = false := decide_eq_false c6
      have c6b1 : decide (300 < t106.length) = false := decide_eq_false (by omega)
      clear c6
      simp only [Option.some.injEq, Prod.mk.injEq] at H
      obtain ⟨rfl, rfl⟩ := H
      go_enter Tryd.func55, Tryd.ntmps55
      try go_wp2_with (first | ((with_reducible refine gate_dst (N := 1) rfl ?_); refine box_event ?hg (N := 1) ?hd (cs := #[.string a0_0, .int .i64 a0_1]) (t := 26) ?hr ?_; (case hd => rfl); (case hg => rfl); (case hr => first | (go_simp; done) | (go_simp; rfl)); intro gb101 hg w15 hbox hb; have n0_ := Aside0.mk (below_step (by repeat (first | (with_reducible first | exact HB.out | apply below_alloc | apply pw_below_drewN | apply below_drew1) | exact HB.out)) hb); have n1_ := Aside0.mk (hbox); have n2_ := Aside0.mk ((by rw [hg]; exact (below_size (by repeat (first | (with_reducible first | exact HB.out | apply below_alloc | apply pw_below_drewN | apply below_drew1) | exact HB.out))) : w.heap.size ≤ gb101)); have n3_ := Aside0.mk ((by rw [hg]; exact (below_size (by repeat (first | (with_reducible first | exact HB.out | apply below_alloc | apply pw_below_drewN | apply below_drew1) | exact HB.out))) : w.heap.size ≤ gb101)); clear HB; have HB := n0_; have BK101 := n1_; have GW101 := n2_; have GE101 := n3_; clear n0_ n1_ n2_ n3_; clear hb hbox hg; have hcz16_0 : w15.cell? ⟨gb101, 0, none⟩ = some (.string a0_0) := (blk_cell BK101.out 0).trans rfl; have hcz16_1 : w15.cell? ⟨gb101, 1, none⟩ = some (.int .i64 a0_1) := (blk_cell BK101.out 1).trans rfl; have hfz16_0 := blk_frozen BK101.out 0; have hfz16_1 := blk_frozen BK101.out 1) | ((with_reducible refine gate_callee (f := 42) rfl ?_); refine goesL_ (some 6) rfl rfl Tryd.func42 (by kernel_rfl) rfl #[.agg #[.string a0_0, .int .i64 a0_1]] rfl (by (try simp only [List.map_toArray, List.map_cons, List.map_nil]); first | done | rfl | (simp only [List.length_drop, List.length_take]; rfl)) ?_; (with_reducible refine (spec_pzGood.calls k a0_0 a0_1 true _ A2.out).mono ?_); rintro e w17 ⟨rfl, hb⟩; refine ⟨_, rfl, ?_⟩; have n0_ := Aside0.mk (blk_below (g := gb101) (o := .cells #[.string a0_0, .int .i64 a0_1] 26 (0, 0)) (by (with_reducible repeat (first | refine blk_drewN ?_ _ | refine blk_drew ?_ | refine blk_alloc ?_ _)); exact BK101.out) hb); have n1_ := Aside0.mk (below_step (by repeat (first | (with_reducible first | exact HB.out | apply below_alloc | apply pw_below_drewN | apply below_drew1 | refine below_set ?_ GE101.out) | exact HB.out)) hb); clear BK101; clear HB; have BK101 := n0_; have HB := n1_; clear n0_ n1_; (try clear hb); (try clear hb2); (try clear hk); (try clear hi)))
      have n0_ := Aside0.mk (blk_drew BK101.out)
      have n1_ := Aside0.mk (below_drew1 HB.out)
      clear BK101
      clear HB
      have BK101 := n0_
      have HB := n1_
      clear n0_ n1_
      refine start_ (n := 9) (S := fun w' => w'.cell? ⟨gb101, 0, none⟩ = some (.string a0_0) ∧ w'.cell? ⟨gb101, 1, none⟩ = some (.int .i64 a0_1)) (ds := []) #[false, false, false, false, false, false, false, false, false] (by kernel_rfl) rfl rfl ⟨(blk_cell BK101.out 0).trans rfl, (blk_cell BK101.out 1).trans rfl⟩ (fun hHeld => ?_); refine with_tabW spec_pzAnswers.tab3 spec_pzAnswers.bits3 (fun HT_ HW_ => ?_)
      generalize w17.drew = w18 at BK101 HB hHeld ⊢
      refine pure_ (i := 0) (N := some 8) (v := ?_) (a' := ?_) #[true, false, false, false, false, false, false, false, false] rfl rfl (any_of HT_.out (by kernel_rfl)) (fun _ _ _ h => h) (Or.inl ⟨by rfl, ?_⟩) ?_ ?_
      rotate_left
      · intro w'
        go_simp
        with_reducible rfl
      rotate_left
      · simp only [Act.put, List.setIfInBounds_toArray, List.set_cons_zero, List.set_cons_succ, i64_w, i32_w]
        rfl
      refine pure_ (i := 2) (N := some 10) (v := ?_) (a' := ?_) #[true, false, true, false, false, false, false, false, false] rfl rfl (any_of HT_.out (by kernel_rfl)) (fun _ _ _ h => h) (Or.inl ⟨by rfl, ?_⟩) ?_ ?_
      rotate_left
      · intro w'
        go_simp
        with_reducible rfl
      rotate_left
      · simp only [Act.put, List.setIfInBounds_toArray, List.set_cons_zero, List.set_cons_succ, i64_w, i32_w]
        rfl
      refine pure_ (i := 5) (N := some 13) (v := ?_) (a' := ?_) #[true, false, true, false, false, true, false, false, false] rfl rfl (any_of HT_.out (by kernel_rfl)) (fun _ _ _ h => h) (Or.inl ⟨by rfl, ?_⟩) ?_ ?_
      rotate_left
      · intro w'
        go_simp
        with_reducible rfl
      rotate_left
      · simp only [Act.put, List.setIfInBounds_toArray, List.set_cons_zero, List.set_cons_succ, i64_w, i32_w]
        rfl
      refine take_ (i := 1) (N := some 9) (v := ?_) (a' := ?_) #[true, true, true, false, false, true, false, false, false] rfl rfl (take_ofW HT_.out HW_.out (by kernel_rfl)) (fun _ _ _ h => h) (Or.inl ⟨by rfl, ?_⟩) hHeld ?_ ?_
      rotate_left
      · rintro w' ⟨s0, s1⟩
        go_simp
        with_reducible rfl
      rotate_left
      · simp only [Act.put, List.setIfInBounds_toArray, List.set_cons_zero, List.set_cons_succ, i64_w, i32_w]
        rfl
      refine take_ (i := 3) (N := some 11) (v := ?_) (a' := ?_) #[true, true, true, true, false, true, false, false, false] rfl rfl (take_ofW HT_.out HW_.out (by kernel_rfl)) (fun _ _ _ h => h) (Or.inl ⟨by rfl, ?_⟩) hHeld ?_ ?_
      rotate_left
      · rintro w' ⟨s0, s1⟩
        go_simp
        with_reducible rfl
      rotate_left
      · simp only [Act.put, List.setIfInBounds_toArray, List.set_cons_zero, List.set_cons_succ, i64_w, i32_w]
        rfl
      refine take_ (i := 6) (N := some 14) (v := ?_) (a' := ?_) #[true, true, true, true, false, true, true, false, false] rfl rfl (take_ofW HT_.out HW_.out (by kernel_rfl)) (fun _ _ _ h => h) (Or.inl ⟨by rfl, ?_⟩) hHeld ?_ ?_
      rotate_left
      · rintro w' ⟨s0, s1⟩
        go_simp
        with_reducible rfl
      rotate_left
      · simp only [Act.put, List.setIfInBounds_toArray, List.set_cons_zero, List.set_cons_succ, i64_w, i32_w]
        rfl
      refine one_ (i := 4) (N := some 12) #[true, true, true, true, true, true, true, false, false] rfl rfl (one_of HT_.out (by kernel_rfl)) (by decide) (fun K hK => ?_)
      refine goes_ Tryd.func47 (by kernel_rfl) rfl #[.string a0_0] (by rfl) rfl rfl (by (try simp only [List.map_toArray, List.map_cons, List.map_nil]); first | done | rfl | (simp only [List.length_drop, List.length_take]; rfl)) ?_
      with_reducible refine (spec_pzFit.calls k a0_0 t103 _ A4.out).mono ?_
      rintro e w19 ⟨v104, rfl, ho0, hb⟩
      refine ⟨_, rfl, ?_⟩
      have n0_ := Aside0.mk (Kd.R_lower ho0 (below_size (by repeat (first | (with_reducible first | exact HB.out | apply below_alloc | apply pw_below_drewN | apply below_drew1 | refine below_set ?_ GE101.out) | exact HB.out))))
      have n1_ := Aside0.mk (blk_below (g := gb101) (o := .cells #[.string a0_0, .int .i64 a0_1] 26 (0, 0)) (by (with_reducible repeat (first | refine blk_drewN ?_ _ | refine blk_drew ?_ | refine blk_alloc ?_ _)); exact BK101.out) hb)
      have n2_ := Aside0.mk (below_step (by repeat (first | (with_reducible first | exact HB.out | apply below_alloc | apply pw_below_drewN | apply below_drew1 | refine below_set ?_ GE101.out) | exact HB.out)) hb)
      clear BK101
      clear HB
      have HO105 := n0_
      have BK101 := n1_
      have HB := n2_
      clear n0_ n1_ n2_
      (try clear hb)
      (try clear hb2)
      (try clear hk)
      (try clear hi)
      (try clear ho0)
      obtain ⟨Ao20, co20, eo20⟩ := Kd.R_slice HO105.out
      (first | subst eo20 | (injection eo20 with f1_ f2_ f3_; have f4_ := f1_.symm; have f5_ := f3_.symm; clear f1_ f2_ f3_; subst f4_; subst f5_))
      refine hK.out _ _ ⟨(blk_cell BK101.out 0).trans rfl, (blk_cell BK101.out 1).trans rfl⟩ (fun hHeld => ?_)
      clear hK K
      refine norm_ (a' := ?_) ?_ ?_
      rotate_left
      · show Act.put _ (some 12) _ = _
        simp only [Act.put, List.setIfInBounds_toArray, List.set_cons_zero, List.set_cons_succ, i64_w, i32_w]
        rfl
      refine one_ (i := 7) (N := some 15) #[true, true, true, true, true, true, true, true, false] rfl rfl (one_of HT_.out (by kernel_rfl)) (by decide) (fun K hK => ?_)
      refine goes_ Tryd.func53 (by kernel_rfl) rfl #[.string a0_0, .slice Ao20 t103.length co20, .slice none 0 0, .int .i64 a0_1, .slice none 0 0] (by rfl) rfl rfl (by (try simp only [List.map_toArray, List.map_cons, List.map_nil]); first | done | rfl | (simp only [List.length_drop, List.length_take]; rfl)) ?_
      refine (spec_pzAll.calls k a0_0 _ _ t103 _ _ ([] : List (SRule)) a0_1 _ _ ([] : List (List (SRule))) t106 _ ?side1 ?side2 ?side3 ?side4 ?side5 ?side6 A5.out).mono ?_
      (case side1 => repeat (first | exact (Kd.R_reads' HO105.out).2.2 | (with_reducible refine Kd.C_alloc ?_ _) | (with_reducible refine Kd.C_drewN ?_ _) | (with_reducible refine Kd.C_drew ?_)))
      (case side2 => exact (Kd.R_reads' HO105.out).2.1)
      (case side3 => exact Kd.C_nil _ _)
      (case side4 => exact Nat.le_refl _)
      (case side5 => exact Kd.C_nil _ _)
      (case side6 => exact Nat.le_refl _)
      rintro e w21 ⟨v107, rfl, ho0, hb⟩
      refine ⟨_, rfl, ?_⟩
      have n0_ := Aside0.mk (Kd.R_below (by (with_reducible repeat (first | apply Kd.R_alloc | apply Kd.R_drewN | apply Kd.R_drew)); exact HO105.out) hb)
      have n1_ := Aside0.mk (Kd.S_lower (Kd.S_new' ho0 (Kd.R_lt (by (with_reducible repeat (first | apply Kd.R_alloc | apply Kd.R_drewN | apply Kd.R_drew)); exact HO105.out))) (below_size (by repeat (first | (with_reducible first | exact HB.out | apply below_alloc | apply pw_below_drewN | apply below_drew1 | refine below_set ?_ GE101.out) | exact HB.out))))
      have n2_ := Aside0.mk (blk_below (g := gb101) (o := .cells #[.string a0_0, .int .i64 a0_1] 26 (0, 0)) (by (with_reducible repeat (first | refine blk_drewN ?_ _ | refine blk_drew ?_ | refine blk_alloc ?_ _)); exact BK101.out) hb)
      have n3_ := Aside0.mk (below_step (by repeat (first | (with_reducible first | exact HB.out | apply below_alloc | apply pw_below_drewN | apply below_drew1 | refine below_set ?_ GE101.out) | exact HB.out)) hb)
      clear HO105
      clear BK101
      clear HB
      have HO105 := n0_
      have HO108 := n1_
      have BK101 := n2_
      have HB := n3_
      clear n0_ n1_ n2_ n3_
      (try clear hb)
      (try clear hb2)
      (try clear hk)
      (try clear hi)
      (try clear ho0)
      refine hK.out _ _ ⟨(blk_cell BK101.out 0).trans rfl, (blk_cell BK101.out 1).trans rfl⟩ (fun hHeld => ?_)
      clear hK K
      refine norm_ (a' := ?_) ?_ ?_
      rotate_left
      · show Act.put _ (some 15) _ = _
        simp only [Act.put, List.setIfInBounds_toArray, List.set_cons_zero, List.set_cons_succ, i64_w, i32_w]
        rfl
      refine pure_ (i := 8) (N := some 4) (v := ?_) (a' := ?_) #[true, true, true, true, true, true, true, true, true] rfl rfl (any_of HT_.out (by kernel_rfl)) (fun _ _ _ h => h) (Or.inl ⟨by rfl, ?_⟩) ?_ ?_
      rotate_left
      · intro w'
        go_simp
        with_reducible rfl
      rotate_left
      · simp only [Act.put, List.setIfInBounds_toArray, List.set_cons_zero, List.set_cons_succ, i64_w, i32_w]
        rfl
      refine done_ (done_of HT_.out (by kernel_rfl)) ?_
      obtain ⟨Ao22, co22, eo22⟩ := Kd.S_slice HO108.out
      subst eo22
      try go_wp2
      go_ret2
      exact ⟨_, by first | rfl | (simp [errW_none, errW_some] <;> rfl) | (simp [*, errW_none, errW_some] <;> rfl), by (with_reducible repeat (first | apply Kd.S_alloc | apply Kd.S_drewN | apply Kd.S_drew)); exact Kd.S_mono HO108.out (fun _ hk => trivial), by repeat (first | (with_reducible first | exact HB.out | apply below_alloc | apply pw_below_drewN | apply below_drew1 | refine below_set ?_ GE101.out) | exact HB.out)⟩
  · replace c3 := Bool.eq_false_iff.mpr c3
    subst c3
    have H1 : (some (([] : List (List (SRule))), false)) = some (r1, r2) := by rw [if_neg (show ¬ (false = true) by decide)] at H; exact H
    clear H
    have H := H1
    clear H1
    simp only [Option.some.injEq, Prod.mk.injEq] at H
    obtain ⟨rfl, rfl⟩ := H
    go_enter Tryd.func55, Tryd.ntmps55
    go_wp2_with (first | ((with_reducible refine gate_dst (N := 1) rfl ?_); refine box_event ?hg (N := 1) ?hd (cs := #[.string a0_0, .int .i64 a0_1]) (t := 26) ?hr ?_; (case hd => rfl); (case hg => rfl); (case hr => first | (go_simp; done) | (go_simp; rfl)); intro gb101 hg w23 hbox hb; have n0_ := Aside0.mk (below_step (by repeat (first | (with_reducible first | exact HB.out | apply below_alloc | apply pw_below_drewN | apply below_drew1) | exact HB.out)) hb); have n1_ := Aside0.mk (hbox); have n2_ := Aside0.mk ((by rw [hg]; exact (below_size (by repeat (first | (with_reducible first | exact HB.out | apply below_alloc | apply pw_below_drewN | apply below_drew1) | exact HB.out))) : w.heap.size ≤ gb101)); have n3_ := Aside0.mk ((by rw [hg]; exact (below_size (by repeat (first | (with_reducible first | exact HB.out | apply below_alloc | apply pw_below_drewN | apply below_drew1) | exact HB.out))) : w.heap.size ≤ gb101)); clear HB; have HB := n0_; have BK101 := n1_; have GW101 := n2_; have GE101 := n3_; clear n0_ n1_ n2_ n3_; clear hb hbox hg; have hcz24_0 : w23.cell? ⟨gb101, 0, none⟩ = some (.string a0_0) := (blk_cell BK101.out 0).trans rfl; have hcz24_1 : w23.cell? ⟨gb101, 1, none⟩ = some (.int .i64 a0_1) := (blk_cell BK101.out 1).trans rfl; have hfz24_0 := blk_frozen BK101.out 0; have hfz24_1 := blk_frozen BK101.out 1) | ((with_reducible refine gate_callee (f := 42) rfl ?_); refine goesL_ (some 6) rfl rfl Tryd.func42 (by kernel_rfl) rfl #[.agg #[.string a0_0, .int .i64 a0_1]] rfl (by (try simp only [List.map_toArray, List.map_cons, List.map_nil]); first | done | rfl | (simp only [List.length_drop, List.length_take]; rfl)) ?_; (with_reducible refine (spec_pzGood.calls k a0_0 a0_1 false _ A2.out).mono ?_); rintro e w25 ⟨rfl, hb⟩; refine ⟨_, rfl, ?_⟩; have n0_ := Aside0.mk (blk_below (g := gb101) (o := .cells #[.string a0_0, .int .i64 a0_1] 26 (0, 0)) (by (with_reducible repeat (first | refine blk_drewN ?_ _ | refine blk_drew ?_ | refine blk_alloc ?_ _)); exact BK101.out) hb); have n1_ := Aside0.mk (below_step (by repeat (first | (with_reducible first | exact HB.out | apply below_alloc | apply pw_below_drewN | apply below_drew1 | refine below_set ?_ GE101.out) | exact HB.out)) hb); clear BK101; clear HB; have BK101 := n0_; have HB := n1_; clear n0_ n1_; (try clear hb); (try clear hb2); (try clear hk); (try clear hi)))
    go_ret2
    exact ⟨_, by first | rfl | (simp [errW_none, errW_some] <;> rfl) | (simp [*, errW_none, errW_some] <;> rfl), by first | exact Kd.S_nil _ _ _ _ _ | exact Kd.N_nil _ _ _ _ _ | exact Kd.V_nil _ _ _ _ _ | exact Kd.Q_nil _ _ _ _ _ | exact Kd.R_nil _ _ _ _ _, by repeat (first | (with_reducible first | exact HB.out | apply below_alloc | apply pw_below_drewN | apply below_drew1 | refine below_set ?_ GE101.out) | exact HB.out)⟩
end Go.Proofs.YtjekkcjlfgfnkaaDoor.P
namespace Go.Proofs.YtjekkcjlfgfnkaaDoor.P
open Go.RowKit Go.Proofs.YtjekkcjlfgfnkaaDoorW.PrintWords Go.Proofs.YtjekkcjlfgfnkaaDoorW.PrintLast Go.Proofs.YtjekkcjlfgfnkaaDoorW.PrintMore
attribute [local go_sem] max2_int min2_int max_two min_two max_three min_three max_four min_four
set_option linter.unusedVariables false
set_option linter.unusedSimpArgs false
def impl_answersOf.f (k : Nat) (a0_0 : ByteArray) (a0_1 : Int) : Option ((List (List (SRule))) × Bool) := (impl_isPuzzle.f a0_0 a0_1).bind fun t102 => (if t102 = true then ((impl_someAnswers.f k a0_0 a0_1 301).bind fun t103 => (if (t103.length : Int) > 300 then (some (([] : List (List (SRule))), false)) else (some (t103, true)))) else (some (([] : List (List (SRule))), false)))
set_option maxHeartbeats 8000000 in
set_option maxRecDepth 100000 in
theorem impl_answersOf.calls (k : Nat) (a0_0 : ByteArray) (a0_1 : Int) (r1 : List (List (SRule))) (r2 : Bool) (w : World) (h : impl_answersOf.f k a0_0 a0_1 = some (r1, r2)) :
    Calls Tryd.prog 56 #[.agg #[.string a0_0, .int .i64 a0_1]] w fun e w' => ∃ v0_ : Value, e = .returned (.tuple #[v0_, .bool r2]) ∧ Kd.S (Kd.slice 41 kRule) 35 w' w.heap.size (fun _ => True) v0_ r1 ∧ Below w.heap.size w w' := by
  have hu26 := Tryd.underlying26
  have HB := Aside0.mk (Below.refl w.heap.size w)
  have H : ((impl_isPuzzle.f a0_0 a0_1).bind fun t102 => (if t102 = true then ((impl_someAnswers.f k a0_0 a0_1 301).bind fun t103 => (if (t103.length : Int) > 300 then (some (([] : List (List (SRule))), false)) else (some (t103, true)))) else (some (([] : List (List (SRule))), false)))) = some (r1, r2) := h
  clear h
  replace H := Option.bind_eq_some_iff.mp H
  obtain ⟨t102, A20, H⟩ := H
  replace H : (if t102 = true then ((impl_someAnswers.f k a0_0 a0_1 301).bind fun t103 => (if (t103.length : Int) > 300 then (some (([] : List (List (SRule))), false)) else (some (t103, true)))) else (some (([] : List (List (SRule))), false))) = some (r1, r2) := H
  have A2 := Aside0.mk A20
  clear A20
  by_cases c3 : t102 = true
  · subst c3
    have H1 : ((impl_someAnswers.f k a0_0 a0_1 301).bind fun t103 => (if (t103.length : Int) > 300 then (some (([] : List (List (SRule))), false)) else (some (t103, true)))) = some (r1, r2) := by rw [if_pos rfl] at H; exact H
    clear H
    have H := H1
    clear H1
    replace H := Option.bind_eq_some_iff.mp H
    obtain ⟨t103, A40, H⟩ := H
    replace H : (if (t103.length : Int) > 300 then (some (([] : List (List (SRule))), false)) else (some (t103, true))) = some (r1, r2) := H
    have A4 := Aside0.mk A40
    clear A40
    by_cases c5 : (t103.length : Int) > 300
    · rw [if_pos c5] at H
      have c5b0 : decide (300 < (t103.length : Int)) = true := decide_eq_true c5
      have c5b1 : decide (300 < t103.length) = true := decide_eq_true (by omega)
      clear c5
      simp only [Option.some.injEq, Prod.mk.injEq] at H
      obtain ⟨rfl, rfl⟩ := H
      go_enter Tryd.func56, Tryd.ntmps56
      go_wp2_with (first | ((with_reducible refine gate_dst (N := 1) rfl ?_); refine box_event ?hg (N := 1) ?hd (cs := #[.string a0_0, .int .i64 a0_1]) (t := 26) ?hr ?_; (case hd => rfl); (case hg => rfl); (case hr => first | (go_simp; done) | (go_simp; rfl)); intro gb101 hg w6 hbox hb; have n0_ := Aside0.mk (below_step (by repeat (first | (with_reducible first | exact HB.out | apply below_alloc | apply pw_below_drewN | apply below_drew1) | exact HB.out)) hb); have n1_ := Aside0.mk (hbox); have n2_ := Aside0.mk ((by rw [hg]; exact (below_size (by repeat (first | (with_reducible first | exact HB.out | apply below_alloc | apply pw_below_drewN | apply below_drew1) | exact HB.out))) : w.heap.size ≤ gb101)); have n3_ := Aside0.mk ((by rw [hg]; exact (below_size (by repeat (first | (with_reducible first | exact HB.out | apply below_alloc | apply pw_below_drewN | apply below_drew1) | exact HB.out))) : w.heap.size ≤ gb101)); clear HB; have HB := n0_; have BK101 := n1_; have GW101 := n2_; have GE101 := n3_; clear n0_ n1_ n2_ n3_; clear hb hbox hg; have hcz7_0 : w6.cell? ⟨gb101, 0, none⟩ = some (.string a0_0) := (blk_cell BK101.out 0).trans rfl; have hcz7_1 : w6.cell? ⟨gb101, 1, none⟩ = some (.int .i64 a0_1) := (blk_cell BK101.out 1).trans rfl; have hfz7_0 := blk_frozen BK101.out 0; have hfz7_1 := blk_frozen BK101.out 1) | ((with_reducible refine gate_callee (f := 43) rfl ?_); refine goesL_ (some 6) rfl rfl Tryd.func43 (by kernel_rfl) rfl #[.agg #[.string a0_0, .int .i64 a0_1]] rfl (by (try simp only [List.map_toArray, List.map_cons, List.map_nil]); first | done | rfl | (simp only [List.length_drop, List.length_take]; rfl)) ?_; (with_reducible refine (impl_isPuzzle.calls a0_0 a0_1 true _ A2.out).mono ?_); rintro e w8 ⟨rfl, hb⟩; refine ⟨_, rfl, ?_⟩; have n0_ := Aside0.mk (blk_below (g := gb101) (o := .cells #[.string a0_0, .int .i64 a0_1] 26 (0, 0)) (by (with_reducible repeat (first | refine blk_drewN ?_ _ | refine blk_drew ?_ | refine blk_alloc ?_ _)); exact BK101.out) hb); have n1_ := Aside0.mk (below_step (by repeat (first | (with_reducible first | exact HB.out | apply below_alloc | apply pw_below_drewN | apply below_drew1 | refine below_set ?_ GE101.out) | exact HB.out)) hb); clear BK101; clear HB; have BK101 := n0_; have HB := n1_; clear n0_ n1_; (try clear hb); (try clear hb2); (try clear hk); (try clear hi); have hcz9_0 : w8.cell? ⟨gb101, 0, none⟩ = some (.string a0_0) := (blk_cell BK101.out 0).trans rfl; have hcz9_1 : w8.cell? ⟨gb101, 1, none⟩ = some (.int .i64 a0_1) := (blk_cell BK101.out 1).trans rfl; have hfz9_0 := blk_frozen BK101.out 0; have hfz9_1 := blk_frozen BK101.out 1) | ((with_reducible refine gate_callee (f := 54) rfl ?_); refine goesL_ (some 9) rfl rfl Tryd.func54 (by kernel_rfl) rfl #[.agg #[.string a0_0, .int .i64 a0_1], .int .i64 301] rfl (by (try simp only [List.map_toArray, List.map_cons, List.map_nil]); first | done | rfl | (simp only [List.length_drop, List.length_take]; rfl)) ?_; (with_reducible refine (impl_someAnswers.calls k a0_0 a0_1 301 t103 _ A4.out).mono ?_); rintro e w10 ⟨v104, rfl, ho0, hb⟩; refine ⟨_, rfl, ?_⟩; have n0_ := Aside0.mk (Kd.S_lower ho0 (below_size (by repeat (first | (with_reducible first | exact HB.out | apply below_alloc | apply pw_below_drewN | apply below_drew1 | refine below_set ?_ GE101.out) | exact HB.out)))); have n1_ := Aside0.mk (blk_below (g := gb101) (o := .cells #[.string a0_0, .int .i64 a0_1] 26 (0, 0)) (by (with_reducible repeat (first | refine blk_drewN ?_ _ | refine blk_drew ?_ | refine blk_alloc ?_ _)); exact BK101.out) hb); have n2_ := Aside0.mk (below_step (by repeat (first | (with_reducible first | exact HB.out | apply below_alloc | apply pw_below_drewN | apply below_drew1 | refine below_set ?_ GE101.out) | exact HB.out)) hb); clear BK101; clear HB; have HO105 := n0_; have BK101 := n1_; have HB := n2_; clear n0_ n1_ n2_; (try clear hb); (try clear hb2); (try clear hk); (try clear hi); (try clear ho0); obtain ⟨Ao11, co11, eo11⟩ := Kd.S_slice HO105.out; subst eo11))
      go_ret2
      exact ⟨_, by first | rfl | (simp [errW_none, errW_some] <;> rfl) | (simp [*, errW_none, errW_some] <;> rfl), by first | exact Kd.S_nil _ _ _ _ _ | exact Kd.N_nil _ _ _ _ _ | exact Kd.V_nil _ _ _ _ _ | exact Kd.Q_nil _ _ _ _ _ | exact Kd.R_nil _ _ _ _ _, by repeat (first | (with_reducible first | exact HB.out | apply below_alloc | apply pw_below_drewN | apply below_drew1 | refine below_set ?_ GE101.out) | exact HB.out)⟩
    · rw [if_neg c5] at H
      have c5b0 : decide (300 < (t103.length : Int)) = false := decide_eq_false c5
      have c5b1 : decide (300 < t103.length) = false := decide_eq_false (by omega)
      clear c5
      simp only [Option.some.injEq, Prod.mk.injEq] at H
      obtain ⟨rfl, rfl⟩ := H
      go_enter Tryd.func56, Tryd.ntmps56
      go_wp2_with (first | ((with_reducible refine gate_dst (N := 1) rfl ?_); refine box_event ?hg (N := 1) ?hd (cs := #[.string a0_0, .int .i64 a0_1]) (t := 26) ?hr ?_; (case hd => rfl); (case hg => rfl); (case hr => first | (go_simp; done) | (go_simp; rfl)); intro gb101 hg w12 hbox hb; have n0_ := Aside0.mk (below_step (by repeat (first | (with_reducible first | exact HB.out | apply below_alloc | apply pw_below_drewN | apply below_drew1) | exact HB.out)) hb); have n1_ := Aside0.mk (hbox); have n2_ := Aside0.mk ((by rw [hg]; exact (below_size (by repeat (first | (with_reducible first | exact HB.out | apply below_alloc | apply pw_below_drewN | apply below_drew1) | exact HB.out))) : w.heap.size ≤ gb101)); have n3_ := Aside0.mk ((by rw [hg]; exact (below_size (by repeat (first | (with_reducible first | exact HB.out | apply below_alloc | apply pw_below_drewN | apply below_drew1) | exact HB.out))) : w.heap.size ≤ gb101)); clear HB; have HB := n0_; have BK101 := n1_; have GW101 := n2_; have GE101 := n3_; clear n0_ n1_ n2_ n3_; clear hb hbox hg; have hcz13_0 : w12.cell? ⟨gb101, 0, none⟩ = some (.string a0_0) := (blk_cell BK101.out 0).trans rfl; have hcz13_1 : w12.cell? ⟨gb101, 1, none⟩ = some (.int .i64 a0_1) := (blk_cell BK101.out 1).trans rfl; have hfz13_0 := blk_frozen BK101.out 0; have hfz13_1 := blk_frozen BK101.out 1) | ((with_reducible refine gate_callee (f := 43) rfl ?_); refine goesL_ (some 6) rfl rfl Tryd.func43 (by kernel_rfl) rfl #[.agg #[.string a0_0, .int .i64 a0_1]] rfl (by (try simp only [List.map_toArray, List.map_cons, List.map_nil]); first | done | rfl | (simp only [List.length_drop, List.length_take]; rfl)) ?_; (with_reducible refine (impl_isPuzzle.calls a0_0 a0_1 true _ A2.out).mono ?_); rintro e w14 ⟨rfl, hb⟩; refine ⟨_, rfl, ?_⟩; have n0_ := Aside0.mk (blk_below (g := gb101) (o := .cells #[.string a0_0, .int .i64 a0_1] 26 (0, 0)) (by (with_reducible repeat (first | refine blk_drewN ?_ _ | refine blk_drew ?_ | refine blk_alloc ?_ _)); exact BK101.out) hb); have n1_ := Aside0.mk (below_step (by repeat (first | (with_reducible first | exact HB.out | apply below_alloc | apply pw_below_drewN | apply below_drew1 | refine below_set ?_ GE101.out) | exact HB.out)) hb); clear BK101; clear HB; have BK101 := n0_; have HB := n1_; clear n0_ n1_; (try clear hb); (try clear hb2); (try clear hk); (try clear hi); have hcz15_0 : w14.cell? ⟨gb101, 0, none⟩ = some (.string a0_0) := (blk_cell BK101.out 0).trans rfl; have hcz15_1 : w14.cell? ⟨gb101, 1, none⟩ = some (.int .i64 a0_1) := (blk_cell BK101.out 1).trans rfl; have hfz15_0 := blk_frozen BK101.out 0; have hfz15_1 := blk_frozen BK101.out 1) | ((with_reducible refine gate_callee (f := 54) rfl ?_); refine goesL_ (some 9) rfl rfl Tryd.func54 (by kernel_rfl) rfl #[.agg #[.string a0_0, .int .i64 a0_1], .int .i64 301] rfl (by (try simp only [List.map_toArray, List.map_cons, List.map_nil]); first | done | rfl | (simp only [List.length_drop, List.length_take]; rfl)) ?_; (with_reducible refine (impl_someAnswers.calls k a0_0 a0_1 301 t103 _ A4.out).mono ?_); rintro e w16 ⟨v104, rfl, ho0, hb⟩; refine ⟨_, rfl, ?_⟩; have n0_ := Aside0.mk (Kd.S_lower ho0 (below_size (by repeat (first | (with_reducible first | exact HB.out | apply below_alloc | apply pw_below_drewN | apply below_drew1 | refine below_set ?_ GE101.out) | exact HB.out)))); have n1_ := Aside0.mk (blk_below (g := gb101) (o := .cells #[.string a0_0, .int .i64 a0_1] 26 (0, 0)) (by (with_reducible repeat (first | refine blk_drewN ?_ _ | refine blk_drew ?_ | refine blk_alloc ?_ _)); exact BK101.out) hb); have n2_ := Aside0.mk (below_step (by repeat (first | (with_reducible first | exact HB.out | apply below_alloc | apply pw_below_drewN | apply below_drew1 | refine below_set ?_ GE101.out) | exact HB.out)) hb); clear BK101; clear HB; have HO105 := n0_; have BK101 := n1_; have HB := n2_; clear n0_ n1_ n2_; (try clear hb); (try clear hb2); (try clear hk); (try clear hi); (try clear ho0); obtain ⟨Ao17, co17, eo17⟩ := Kd.S_slice HO105.out; subst eo17))
      go_ret2
      exact ⟨_, by first | rfl | (simp [errW_none, errW_some] <;> rfl) | (simp [*, errW_none, errW_some] <;> rfl), by (with_reducible repeat (first | apply Kd.S_alloc | apply Kd.S_drewN | apply Kd.S_drew)); exact HO105.out, by repeat (first | (with_reducible first | exact HB.out | apply below_alloc | apply pw_below_drewN | apply below_drew1 | refine below_set ?_ GE101.out) | exact HB.out)⟩
  · replace c3 := Bool.eq_false_iff.mpr c3
    subst c3
    have H1 : (some (([] : List (List (SRule))), false)) = some (r1, r2) := by rw [if_neg (show ¬ (false = true) by decide)] at H; exact H
    clear H
    have H := H1
    clear H1
    simp only [Option.some.injEq, Prod.mk.injEq] at H
    obtain ⟨rfl, rfl⟩ := H
    go_enter Tryd.func56, Tryd.ntmps56
    go_wp2_with (first | ((with_reducible refine gate_dst (N := 1) rfl ?_); refine box_event ?hg (N := 1) ?hd (cs := #[.string a0_0, .int .i64 a0_1]) (t := 26) ?hr ?_; (case hd => rfl); (case hg => rfl); (case hr => first | (go_simp; done) | (go_simp; rfl)); intro gb101 hg w18 hbox hb; have n0_ := Aside0.mk (below_step (by repeat (first | (with_reducible first | exact HB.out | apply below_alloc | apply pw_below_drewN | apply below_drew1) | exact HB.out)) hb); have n1_ := Aside0.mk (hbox); have n2_ := Aside0.mk ((by rw [hg]; exact (below_size (by repeat (first | (with_reducible first | exact HB.out | apply below_alloc | apply pw_below_drewN | apply below_drew1) | exact HB.out))) : w.heap.size ≤ gb101)); have n3_ := Aside0.mk ((by rw [hg]; exact (below_size (by repeat (first | (with_reducible first | exact HB.out | apply below_alloc | apply pw_below_drewN | apply below_drew1) | exact HB.out))) : w.heap.size ≤ gb101)); clear HB; have HB := n0_; have BK101 := n1_; have GW101 := n2_; have GE101 := n3_; clear n0_ n1_ n2_ n3_; clear hb hbox hg; have hcz19_0 : w18.cell? ⟨gb101, 0, none⟩ = some (.string a0_0) := (blk_cell BK101.out 0).trans rfl; have hcz19_1 : w18.cell? ⟨gb101, 1, none⟩ = some (.int .i64 a0_1) := (blk_cell BK101.out 1).trans rfl; have hfz19_0 := blk_frozen BK101.out 0; have hfz19_1 := blk_frozen BK101.out 1) | ((with_reducible refine gate_callee (f := 43) rfl ?_); refine goesL_ (some 6) rfl rfl Tryd.func43 (by kernel_rfl) rfl #[.agg #[.string a0_0, .int .i64 a0_1]] rfl (by (try simp only [List.map_toArray, List.map_cons, List.map_nil]); first | done | rfl | (simp only [List.length_drop, List.length_take]; rfl)) ?_; (with_reducible refine (impl_isPuzzle.calls a0_0 a0_1 false _ A2.out).mono ?_); rintro e w20 ⟨rfl, hb⟩; refine ⟨_, rfl, ?_⟩; have n0_ := Aside0.mk (blk_below (g := gb101) (o := .cells #[.string a0_0, .int .i64 a0_1] 26 (0, 0)) (by (with_reducible repeat (first | refine blk_drewN ?_ _ | refine blk_drew ?_ | refine blk_alloc ?_ _)); exact BK101.out) hb); have n1_ := Aside0.mk (below_step (by repeat (first | (with_reducible first | exact HB.out | apply below_alloc | apply pw_below_drewN | apply below_drew1 | refine below_set ?_ GE101.out) | exact HB.out)) hb); clear BK101; clear HB; have BK101 := n0_; have HB := n1_; clear n0_ n1_; (try clear hb); (try clear hb2); (try clear hk); (try clear hi)))
    go_ret2
    exact ⟨_, by first | rfl | (simp [errW_none, errW_some] <;> rfl) | (simp [*, errW_none, errW_some] <;> rfl), by first | exact Kd.S_nil _ _ _ _ _ | exact Kd.N_nil _ _ _ _ _ | exact Kd.V_nil _ _ _ _ _ | exact Kd.Q_nil _ _ _ _ _ | exact Kd.R_nil _ _ _ _ _, by repeat (first | (with_reducible first | exact HB.out | apply below_alloc | apply pw_below_drewN | apply below_drew1 | refine below_set ?_ GE101.out) | exact HB.out)⟩
end Go.Proofs.YtjekkcjlfgfnkaaDoor.P
