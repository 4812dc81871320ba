/- What functions of the program answer. Proved in this text: its theorems. Conditions: as each theorem states them. -/
import Derived.Test.YtkloiiojigofpaaDoorCFnPuzzlesSievedOfAllP
import Derived.Test.YtkloiiojigofpaaDoorCFnPuzzlesSievedOfAllF0
import Derived.Test.YtkloiiojigofpaaDoorCFnPuzzlesSievedOfAllF1
import Derived.Test.YtkloiiojigofpaaDoorCFnPuzzlesSievedOfAllF2
import Derived.Test.YtkloiiojigofpaaDoorCFnPuzzlesSievedOfAllF3
namespace Go.Proofs.YtkloiiojigofpaaDoor.P
open Go.RowKit Go.Proofs.YtkloiiojigofpaaDoorW.PrintWords Go.Proofs.YtkloiiojigofpaaDoorW.PrintLast Go.Proofs.YtkloiiojigofpaaDoorW.PrintMore
attribute [local go_sem] max2_int min2_int max_two min_two max_three min_three max_four min_four
set_option linter.unusedVariables false
set_option linter.unusedSimpArgs false
attribute [local go_sem high] eqA28
set_option maxHeartbeats 8000000 in
set_option maxRecDepth 100000 in
theorem laws_FnPuzzlesSievedOfAll.calls (k : Nat) (a0 : Int) (a1 : Int) (a2 : Int) (a3_0 : ByteArray) (a3_1 : Int) (a4_0 : ByteArray) (a4_1 : Int) (a5 : Int) (a6 : Bool) (a7_0 : ByteArray) (a7_1 : Int) (a8 : Int) (a9 : ByteArray) (A10 : Option Addr) (c10 : Nat) (l10 : List (SRule)) (a11 : Int) (w : World) (hr10 : Kd.C kRule w A10 l10.length l10) (hc10 : l10.length ≤ c10) (h : laws_FnPuzzlesSievedOfAll.f k a0 a1 a2 a3_0 a3_1 a4_0 a4_1 a5 a6 a7_0 a7_1 a8 a9 l10 a11 = some true) :
  Calls Tryd.prog 6 #[.int .i64 a0, .int .i64 a1, .int .i64 a2, .agg #[.string a3_0, .int .i64 a3_1], .agg #[.string a4_0, .int .i64 a4_1], .int .i64 a5, .bool a6, .agg #[.string a7_0, .int .i64 a7_1], .int .i64 a8, .string a9, .slice A10 l10.length c10, .int .i64 a11] w fun e w' => e = .returned (.bool true) ∧ Below w.heap.size w w' := by
 have hu28 := Tryd.underlying28
 have HR10 := Aside0.mk hr10
 have HC10 := Aside0.mk hc10
 clear hr10 hc10
 have HB := Aside0.mk (Below.refl w.heap.size w)
 have H : (if (a9.size : Int) > 1048576 then (laws_FnPuzzlesSievedOfAll.j0 k a0 a1 a2 a5 a6 a8 a9 l10 a11 true a3_0 a3_1 a4_0 a4_1 a7_0 a7_1) else (laws_FnPuzzlesSievedOfAll.j0 k a0 a1 a2 a5 a6 a8 a9 l10 a11 (decide ((l10.length : Int) > 10000)) a3_0 a3_1 a4_0 a4_1 a7_0 a7_1)) = some true := h
 clear h
 have HC13 := Aside0.mk H
 clear H
 go_enter Tryd.func6, Tryd.ntmps6
 go_upto_region 1 with (first | ((with_reducible refine gate_dst (N := 15) rfl ?_); (try (refine gate_guard (by rfl) ?_; dsimp only)); refine box_event ?hg (N := 15) ?hd (cs := #[.string a3_0, .int .i64 a3_1]) (t := 28) ?hr ?_; (case hd => rfl); (case hg => rfl); (case hr => first | (go_simp; done) | (go_simp; rfl)); intro gb101 hg w14 hbox hb; have n0_ := Aside0.mk (below_step (by apply_rules only [HB.out, below_alloc, pw_below_drewN, below_drew1]) hb); have n1_ := Aside0.mk (hbox); have n2_ := Aside0.mk ((by rw [hg]; exact (below_size (by apply_rules only [HB.out, below_alloc, pw_below_drewN, below_drew1])) : w.heap.size ≤ gb101)); have n3_ := Aside0.mk ((by rw [hg]; exact (below_size (by apply_rules only [HB.out, below_alloc, pw_below_drewN, below_drew1])) : w.heap.size ≤ gb101)); clear HB; have HB := n0_; have BK101 := n1_; have GW101 := n2_; have GE101 := n3_; clear n0_ n1_ n2_ n3_; clear hb hbox hg) | ((with_reducible refine gate_dst (N := 16) rfl ?_); (try (refine gate_guard (by rfl) ?_; dsimp only)); refine box_event ?hg (N := 16) ?hd (cs := #[.string a4_0, .int .i64 a4_1]) (t := 28) ?hr ?_; (case hd => rfl); (case hg => rfl); (case hr => first | (go_simp; done) | (go_simp; rfl)); intro gb102 hg w15 hbox hb; have n0_ := Aside0.mk (blk_below (by apply_rules only [BK101.out, blk_drewN, blk_drew, blk_alloc]) hb); have n1_ := Aside0.mk (below_step (by apply_rules only [HB.out, below_alloc, pw_below_drewN, below_drew1, below_set, GE101.out]) hb); have n2_ := Aside0.mk (hbox); have n3_ := Aside0.mk ((by rw [hg]; exact (below_size (by apply_rules only [HB.out, below_alloc, pw_below_drewN, below_drew1, below_set, GE101.out])) : w.heap.size ≤ gb102)); have n4_ := Aside0.mk ((by rw [hg]; exact (below_size (by apply_rules only [HB.out, below_alloc, pw_below_drewN, below_drew1, below_set, GE101.out])) : w.heap.size ≤ gb102)); have n5_ := Aside0.mk ((by rw [hg]; exact Nat.ne_of_lt (blk_lt (g := gb101) (o := .cells #[.string a3_0, .int .i64 a3_1] 28 (0, 0)) (by apply_rules only [BK101.out, blk_drewN, blk_drew, blk_alloc])) : gb101 ≠ gb102)); have n6_ := Aside0.mk ((by rw [hg]; exact Nat.ne_of_gt (blk_lt (g := gb101) (o := .cells #[.string a3_0, .int .i64 a3_1] 28 (0, 0)) (by apply_rules only [BK101.out, blk_drewN, blk_drew, blk_alloc])) : gb102 ≠ gb101)); clear BK101; clear HB; have BK101 := n0_; have HB := n1_; have BK102 := n2_; have GW102 := n3_; have GE102 := n4_; have NB101_102 := n5_; have NB102_101 := n6_; clear n0_ n1_ n2_ n3_ n4_ n5_ n6_; clear hb hbox hg) | ((with_reducible refine gate_dst (N := 19) rfl ?_); (try (refine gate_guard (by rfl) ?_; dsimp only)); refine box_event ?hg (N := 19) ?hd (cs := #[.string a7_0, .int .i64 a7_1]) (t := 28) ?hr ?_; (case hd => rfl); (case hg => rfl); (case hr => first | (go_simp; done) | (go_simp; rfl)); intro gb103 hg w16 hbox hb; have n0_ := Aside0.mk (blk_below (by apply_rules only [BK101.out, blk_drewN, blk_drew, blk_alloc]) hb); have n1_ := Aside0.mk (blk_below (by apply_rules only [BK102.out, blk_drewN, blk_drew, blk_alloc]) hb); have n2_ := Aside0.mk (below_step (by apply_rules only [HB.out, below_alloc, pw_below_drewN, below_drew1, below_set, GE101.out, GE102.out]) hb); have n3_ := Aside0.mk (hbox); have n4_ := Aside0.mk ((by rw [hg]; exact (below_size (by apply_rules only [HB.out, below_alloc, pw_below_drewN, below_drew1, below_set, GE101.out, GE102.out])) : w.heap.size ≤ gb103)); have n5_ := Aside0.mk ((by rw [hg]; exact (below_size (by apply_rules only [HB.out, below_alloc, pw_below_drewN, below_drew1, below_set, GE101.out, GE102.out])) : w.heap.size ≤ gb103)); have n6_ := Aside0.mk ((by rw [hg]; exact Nat.ne_of_lt (blk_lt (g := gb101) (o := .cells #[.string a3_0, .int .i64 a3_1] 28 (0, 0)) (by apply_rules only [BK101.out, blk_drewN, blk_drew, blk_alloc])) : gb101 ≠ gb103)); have n7_ := Aside0.mk ((by rw [hg]; exact Nat.ne_of_gt (blk_lt (g := gb101) (o := .cells #[.string a3_0, .int .i64 a3_1] 28 (0, 0)) (by apply_rules only [BK101.out, blk_drewN, blk_drew, blk_alloc])) : gb103 ≠ gb101)); have n8_ := Aside0.mk ((by rw [hg]; exact Nat.ne_of_lt (blk_lt (g := gb102) (o := .cells #[.string a4_0, .int .i64 a4_1] 28 (0, 0)) (by apply_rules only [BK102.out, blk_drewN, blk_drew, blk_alloc])) : gb102 ≠ gb103)); have n9_ := Aside0.mk ((by rw [hg]; exact Nat.ne_of_gt (blk_lt (g := gb102) (o := .cells #[.string a4_0, .int .i64 a4_1] 28 (0, 0)) (by apply_rules only [BK102.out, blk_drewN, blk_drew, blk_alloc])) : gb103 ≠ gb102)); clear BK101; clear BK102; clear HB; have BK101 := n0_; have BK102 := n1_; have HB := n2_; have BK103 := n3_; have GW103 := n4_; have GE103 := n5_; have NB101_103 := n6_; have NB103_101 := n7_; have NB102_103 := n8_; have NB103_102 := n9_; clear n0_ n1_ n2_ n3_ n4_ n5_ n6_ n7_ n8_ n9_; clear hb hbox hg))
 (try simp only [Act.put, List.setIfInBounds_toArray, List.set_cons_zero, List.set_cons_succ])
 go_cut [71] from 1 to 0 (fun v71 wc => ∃ (kq : Nat) (x71_12 : Bool), v71 = .bool x71_12 ∧ Aside0 (laws_FnPuzzlesSievedOfAll.j0 kq a0 a1 a2 a5 a6 a8 a9 l10 a11 x71_12 a3_0 a3_1 a4_0 a4_1 a7_0 a7_1 = some true) ∧ Aside0 (kq ≤ k) ∧ Aside0 (wc.heap[gb101]? = some (.cells #[.string a3_0, .int .i64 a3_1] 28 (0, 0))) ∧ Aside0 (wc.heap[gb102]? = some (.cells #[.string a4_0, .int .i64 a4_1] 28 (0, 0))) ∧ Aside0 (wc.heap[gb103]? = some (.cells #[.string a7_0, .int .i64 a7_1] 28 (0, 0))) ∧ Aside0 (Below w.heap.size w wc))
 case first =>
  have H := HC13.out
  clear HC13
  by_cases c17 : (a9.size : Int) > 1048576
  ·rw [if_pos c17] at H
   have c17b0 : decide (1048576 < (a9.size : Int)) = true := decide_eq_true c17
   have c17b1 : decide (1048576 < a9.size) = true := decide_eq_true (by omega)
   clear c17
   (first | rw [c17b0] | rw [c17b1] | (simp only [i64_w, i32_w]; rw [c17b0]) | skip)
   have H' := Aside0.mk H
   clear H
   go_wp2
   go_meet
   case rel => exact ⟨_, (true), (by first | rfl | (simp; done) | (simp [*]; done)), H', ⟨by first | omega | exact Nat.le_refl _⟩, ⟨by apply_rules only [BK101.out, blk_drewN, blk_drew, blk_alloc]⟩, ⟨by apply_rules only [BK102.out, blk_drewN, blk_drew, blk_alloc]⟩, ⟨by apply_rules only [BK103.out, blk_drewN, blk_drew, blk_alloc]⟩, ⟨by apply_rules only [HB.out, below_alloc, pw_below_drewN, below_drew1, below_set, GE101.out, GE102.out, GE103.out]⟩⟩
  ·rw [if_neg c17] at H
   have c17b0 : decide (1048576 < (a9.size : Int)) = false := decide_eq_false c17
   have c17b1 : decide (1048576 < a9.size) = false := decide_eq_false (by omega)
   clear c17
   (first | rw [c17b0] | rw [c17b1] | (simp only [i64_w, i32_w]; rw [c17b0]) | skip)
   have H' := Aside0.mk H
   clear H
   go_wp2
   go_meet
   case rel => exact ⟨_, (decide ((l10.length : Int) > 10000)), (by first | rfl | (simp; done) | (simp [*]; done)), H', ⟨by first | omega | exact Nat.le_refl _⟩, ⟨by apply_rules only [BK101.out, blk_drewN, blk_drew, blk_alloc]⟩, ⟨by apply_rules only [BK102.out, blk_drewN, blk_drew, blk_alloc]⟩, ⟨by apply_rules only [BK103.out, blk_drewN, blk_drew, blk_alloc]⟩, ⟨by apply_rules only [HB.out, below_alloc, pw_below_drewN, below_drew1, below_set, GE101.out, GE102.out, GE103.out]⟩⟩
 case rest =>
  clear HC13
  obtain ⟨kq, x71_12, rfl, HA, HJ12, BK101, BK102, BK103, HB⟩ := hcut
  cases kq with
  | zero => exact absurd HA.out (by simp [laws_FnPuzzlesSievedOfAll.j0])
  | succ kj12 =>
   have H := HA.out
   clear HA
   simp only [laws_FnPuzzlesSievedOfAll.j0] at H
   by_cases c18 : x71_12 = true
   ·subst c18
    have H1 : (some true) = some true := rfl
    clear H
    have H := H1
    clear H1
    clear H
    go_wp2
    go_ret
    exact ⟨by first | rfl | (simp [errW_none, errW_some] <;> rfl) | (simp [*, errW_none, errW_some] <;> rfl), by apply_rules only [HB.out, below_alloc, pw_below_drewN, below_drew1, below_set, GE101.out, GE102.out, GE103.out]⟩
   ·replace c18 := Bool.eq_false_iff.mpr c18
    subst c18
    rw [if_neg (show ¬ (false = true) by decide)] at H
    replace H := Option.bind_eq_some_iff.mp H
    obtain ⟨⟨t104, t105, t106⟩, A190, H⟩ := H
    (try dsimp only at H)
    have A19 := Aside0.mk A190
    clear A190
    replace H := Option.bind_eq_some_iff.mp H
    obtain ⟨⟨t108, t109, t110⟩, A200, H⟩ := H
    (try dsimp only at H)
    have A20 := Aside0.mk A200
    clear A200
    have HC21 := Aside0.mk H
    clear H
    go_upto_region 5 with (first | ((with_reducible refine gate_callee (f := 22) rfl ?_); refine goesL_ (some 76) rfl rfl Tryd.func22 (by kernel_rfl) rfl #[.int .i64 a0, .int .i64 a1, .int .i64 a2] rfl (by (try simp only [List.map_toArray, List.map_cons, List.map_nil]); first | done | rfl | (simp only [List.length_drop, List.length_take]; rfl)) ?_; (with_reducible refine (impl_MakePuzzle.calls kj12 a0 a1 a2 t104 t105 t106 _ A19.out).mono ?_); rintro e w22 ⟨rfl, hb⟩; refine ⟨_, rfl, ?_⟩; have n0_ := Aside0.mk (blk_below (by apply_rules only [BK101.out, blk_drewN, blk_drew, blk_alloc]) hb); have n1_ := Aside0.mk (blk_below (by apply_rules only [BK102.out, blk_drewN, blk_drew, blk_alloc]) hb); have n2_ := Aside0.mk (blk_below (by apply_rules only [BK103.out, blk_drewN, blk_drew, blk_alloc]) hb); have n3_ := Aside0.mk (below_step (by apply_rules only [HB.out, below_alloc, pw_below_drewN, below_drew1, below_set, GE101.out, GE102.out, GE103.out]) hb); clear BK101; clear BK102; clear BK103; clear HB; have BK101 := n0_; have BK102 := n1_; have BK103 := n2_; have HB := n3_; clear n0_ n1_ n2_ n3_; (try clear hb); (try clear hb2); (try clear hk); (try clear hi)) | ((with_reducible refine gate_dst (N := 25) rfl ?_); (try (refine gate_guard (by rfl) ?_; dsimp only)); refine box_event ?hg (N := 25) ?hd (cs := #[.string (⟨#[]⟩ : ByteArray), .int .i64 0]) (t := 28) ?hr ?_; (case hd => rfl); (case hg => rfl); (case hr => first | (go_simp; done) | (go_simp; rfl)); intro gb107 hg w23 hbox hb; have n0_ := Aside0.mk (blk_below (by apply_rules only [BK101.out, blk_drewN, blk_drew, blk_alloc]) hb); have n1_ := Aside0.mk (blk_below (by apply_rules only [BK102.out, blk_drewN, blk_drew, blk_alloc]) hb); have n2_ := Aside0.mk (blk_below (by apply_rules only [BK103.out, blk_drewN, blk_drew, blk_alloc]) hb); have n3_ := Aside0.mk (below_step (by apply_rules only [HB.out, below_alloc, pw_below_drewN, below_drew1, below_set, GE101.out, GE102.out, GE103.out]) hb); have n4_ := Aside0.mk (hbox); have n5_ := Aside0.mk ((by rw [hg]; exact (below_size (by apply_rules only [HB.out, below_alloc, pw_below_drewN, below_drew1, below_set, GE101.out, GE102.out, GE103.out])) : w.heap.size ≤ gb107)); have n6_ := Aside0.mk ((by rw [hg]; exact (below_size (by apply_rules only [HB.out, below_alloc, pw_below_drewN, below_drew1, below_set, GE101.out, GE102.out, GE103.out])) : w.heap.size ≤ gb107)); have n7_ := Aside0.mk ((by rw [hg]; exact Nat.ne_of_lt (blk_lt (g := gb101) (o := .cells #[.string a3_0, .int .i64 a3_1] 28 (0, 0)) (by apply_rules only [BK101.out, blk_drewN, blk_drew, blk_alloc])) : gb101 ≠ gb107)); have n8_ := Aside0.mk ((by rw [hg]; exact Nat.ne_of_gt (blk_lt (g := gb101) (o := .cells #[.string a3_0, .int .i64 a3_1] 28 (0, 0)) (by apply_rules only [BK101.out, blk_drewN, blk_drew, blk_alloc])) : gb107 ≠ gb101)); have n9_ := Aside0.mk ((by rw [hg]; exact Nat.ne_of_lt (blk_lt (g := gb102) (o := .cells #[.string a4_0, .int .i64 a4_1] 28 (0, 0)) (by apply_rules only [BK102.out, blk_drewN, blk_drew, blk_alloc])) : gb102 ≠ gb107)); have n10_ := Aside0.mk ((by rw [hg]; exact Nat.ne_of_gt (blk_lt (g := gb102) (o := .cells #[.string a4_0, .int .i64 a4_1] 28 (0, 0)) (by apply_rules only [BK102.out, blk_drewN, blk_drew, blk_alloc])) : gb107 ≠ gb102)); have n11_ := Aside0.mk ((by rw [hg]; exact Nat.ne_of_lt (blk_lt (g := gb103) (o := .cells #[.string a7_0, .int .i64 a7_1] 28 (0, 0)) (by apply_rules only [BK103.out, blk_drewN, blk_drew, blk_alloc])) : gb103 ≠ gb107)); have n12_ := Aside0.mk ((by rw [hg]; exact Nat.ne_of_gt (blk_lt (g := gb103) (o := .cells #[.string a7_0, .int .i64 a7_1] 28 (0, 0)) (by apply_rules only [BK103.out, blk_drewN, blk_drew, blk_alloc])) : gb107 ≠ gb103)); clear BK101; clear BK102; clear BK103; clear HB; have BK101 := n0_; have BK102 := n1_; have BK103 := n2_; have HB := n3_; have BK107 := n4_; have GW107 := n5_; have GE107 := n6_; have NB101_107 := n7_; have NB107_101 := n8_; have NB102_107 := n9_; have NB107_102 := n10_; have NB103_107 := n11_; have NB107_103 := n12_; clear n0_ n1_ n2_ n3_ n4_ n5_ n6_ n7_ n8_ n9_ n10_ n11_ n12_; clear hb hbox hg; have hnb24 := NB107_101.out; have hnc24 := NB101_107.out; have hnb25 := NB107_102.out; have hnc25 := NB102_107.out; have hnb26 := NB107_103.out; have hnc26 := NB103_107.out; have hcz27_0 : w23.cell? ⟨gb107, 0, none⟩ = some (.string (⟨#[]⟩ : ByteArray)) := (blk_cell BK107.out 0).trans rfl; have hcz27_1 : w23.cell? ⟨gb107, 1, none⟩ = some (.int .i64 0) := (blk_cell BK107.out 1).trans rfl; have hfz27_0 := blk_frozen BK107.out 0; have hfz27_1 := blk_frozen BK107.out 1) | ((with_reducible refine gate_callee (f := 23) rfl ?_); refine goesL_ (some 83) rfl rfl Tryd.func23 (by kernel_rfl) rfl #[.int .i64 a0, .int .i64 a1, .int .i64 a2] rfl (by (try simp only [List.map_toArray, List.map_cons, List.map_nil]); first | done | rfl | (simp only [List.length_drop, List.length_take]; rfl)) ?_; (with_reducible refine (spec_MakePuzzle.calls kj12 a0 a1 a2 t108 t109 t110 _ A20.out).mono ?_); rintro e w28 ⟨rfl, hb⟩; refine ⟨_, rfl, ?_⟩; have n0_ := Aside0.mk (blk_below (g := gb101) (o := .cells #[.string a3_0, .int .i64 a3_1] 28 (0, 0)) (by (with_reducible repeat (first | refine blk_drewN ?_ _ | refine blk_drew ?_ | refine blk_alloc ?_ _)); refine blk_far ?_ NB101_107.out _; (with_reducible repeat (first | refine blk_drewN ?_ _ | refine blk_drew ?_ | refine blk_alloc ?_ _)); refine blk_far ?_ NB101_107.out _; apply_rules only [BK101.out, blk_drewN, blk_drew, blk_alloc]) hb); have n1_ := Aside0.mk (blk_below (g := gb102) (o := .cells #[.string a4_0, .int .i64 a4_1] 28 (0, 0)) (by (with_reducible repeat (first | refine blk_drewN ?_ _ | refine blk_drew ?_ | refine blk_alloc ?_ _)); refine blk_far ?_ NB102_107.out _; (with_reducible repeat (first | refine blk_drewN ?_ _ | refine blk_drew ?_ | refine blk_alloc ?_ _)); refine blk_far ?_ NB102_107.out _; apply_rules only [BK102.out, blk_drewN, blk_drew, blk_alloc]) hb); have n2_ := Aside0.mk (blk_below (g := gb103) (o := .cells #[.string a7_0, .int .i64 a7_1] 28 (0, 0)) (by (with_reducible repeat (first | refine blk_drewN ?_ _ | refine blk_drew ?_ | refine blk_alloc ?_ _)); refine blk_far ?_ NB103_107.out _; (with_reducible repeat (first | refine blk_drewN ?_ _ | refine blk_drew ?_ | refine blk_alloc ?_ _)); refine blk_far ?_ NB103_107.out _; apply_rules only [BK103.out, blk_drewN, blk_drew, blk_alloc]) hb); have n3_ := Aside0.mk (blk_below (g := gb107) (o := .cells #[.string t104, .int .i64 t105] 28 (0, 0)) (by (with_reducible repeat (first | refine blk_drewN ?_ _ | refine blk_drew ?_ | refine blk_alloc ?_ _)); refine blk_put (cs := #[.string t104, .int .i64 0]) ?_ 1 _ rfl; (with_reducible repeat (first | refine blk_drewN ?_ _ | refine blk_drew ?_ | refine blk_alloc ?_ _)); refine blk_put (cs := #[.string (⟨#[]⟩ : ByteArray), .int .i64 0]) ?_ 0 _ rfl; apply_rules only [BK107.out, blk_drewN, blk_drew, blk_alloc]) hb); have n4_ := Aside0.mk (below_step (by apply_rules only [HB.out, below_alloc, pw_below_drewN, below_drew1, below_set, GE101.out, GE102.out, GE103.out, GE107.out]) hb); clear BK101; clear BK102; clear BK103; clear BK107; clear HB; have BK101 := n0_; have BK102 := n1_; have BK103 := n2_; have BK107 := n3_; have HB := n4_; clear n0_ n1_ n2_ n3_ n4_; (try clear hb); (try clear hb2); (try clear hk); (try clear hi)) | ((with_reducible refine gate_dst (N := 27) rfl ?_); (try (refine gate_guard (by rfl) ?_; dsimp only)); refine box_event ?hg (N := 27) ?hd (cs := #[.string (⟨#[]⟩ : ByteArray), .int .i64 0]) (t := 28) ?hr ?_; (case hd => rfl); (case hg => rfl); (case hr => first | (go_simp; done) | (go_simp; rfl)); intro gb111 hg w29 hbox hb; have n0_ := Aside0.mk (blk_below (by apply_rules only [BK101.out, blk_drewN, blk_drew, blk_alloc]) hb); have n1_ := Aside0.mk (blk_below (by apply_rules only [BK102.out, blk_drewN, blk_drew, blk_alloc]) hb); have n2_ := Aside0.mk (blk_below (by apply_rules only [BK103.out, blk_drewN, blk_drew, blk_alloc]) hb); have n3_ := Aside0.mk (blk_below (by apply_rules only [BK107.out, blk_drewN, blk_drew, blk_alloc]) hb); have n4_ := Aside0.mk (below_step (by apply_rules only [HB.out, below_alloc, pw_below_drewN, below_drew1, below_set, GE101.out, GE102.out, GE103.out, GE107.out]) hb); have n5_ := Aside0.mk (hbox); have n6_ := Aside0.mk ((by rw [hg]; exact (below_size (by apply_rules only [HB.out, below_alloc, pw_below_drewN, below_drew1, below_set, GE101.out, GE102.out, GE103.out, GE107.out])) : w.heap.size ≤ gb111)); have n7_ := Aside0.mk ((by rw [hg]; exact (below_size (by apply_rules only [HB.out, below_alloc, pw_below_drewN, below_drew1, below_set, GE101.out, GE102.out, GE103.out, GE107.out])) : w.heap.size ≤ gb111)); have n8_ := Aside0.mk ((by rw [hg]; exact Nat.ne_of_lt (blk_lt (g := gb101) (o := .cells #[.string a3_0, .int .i64 a3_1] 28 (0, 0)) (by apply_rules only [BK101.out, blk_drewN, blk_drew, blk_alloc])) : gb101 ≠ gb111)); have n9_ := Aside0.mk ((by rw [hg]; exact Nat.ne_of_gt (blk_lt (g := gb101) (o := .cells #[.string a3_0, .int .i64 a3_1] 28 (0, 0)) (by apply_rules only [BK101.out, blk_drewN, blk_drew, blk_alloc])) : gb111 ≠ gb101)); have n10_ := Aside0.mk ((by rw [hg]; exact Nat.ne_of_lt (blk_lt (g := gb102) (o := .cells #[.string a4_0, .int .i64 a4_1] 28 (0, 0)) (by apply_rules only [BK102.out, blk_drewN, blk_drew, blk_alloc])) : gb102 ≠ gb111)); have n11_ := Aside0.mk ((by rw [hg]; exact Nat.ne_of_gt (blk_lt (g := gb102) (o := .cells #[.string a4_0, .int .i64 a4_1] 28 (0, 0)) (by apply_rules only [BK102.out, blk_drewN, blk_drew, blk_alloc])) : gb111 ≠ gb102)); have n12_ := Aside0.mk ((by rw [hg]; exact Nat.ne_of_lt (blk_lt (g := gb103) (o := .cells #[.string a7_0, .int .i64 a7_1] 28 (0, 0)) (by apply_rules only [BK103.out, blk_drewN, blk_drew, blk_alloc])) : gb103 ≠ gb111)); have n13_ := Aside0.mk ((by rw [hg]; exact Nat.ne_of_gt (blk_lt (g := gb103) (o := .cells #[.string a7_0, .int .i64 a7_1] 28 (0, 0)) (by apply_rules only [BK103.out, blk_drewN, blk_drew, blk_alloc])) : gb111 ≠ gb103)); have n14_ := Aside0.mk ((by rw [hg]; exact Nat.ne_of_lt (blk_lt (g := gb107) (o := .cells #[.string t104, .int .i64 t105] 28 (0, 0)) (by apply_rules only [BK107.out, blk_drewN, blk_drew, blk_alloc])) : gb107 ≠ gb111)); have n15_ := Aside0.mk ((by rw [hg]; exact Nat.ne_of_gt (blk_lt (g := gb107) (o := .cells #[.string t104, .int .i64 t105] 28 (0, 0)) (by apply_rules only [BK107.out, blk_drewN, blk_drew, blk_alloc])) : gb111 ≠ gb107)); clear BK101; clear BK102; clear BK103; clear BK107; clear HB; have BK101 := n0_; have BK102 := n1_; have BK103 := n2_; have BK107 := n3_; have HB := n4_; have BK111 := n5_; have GW111 := n6_; have GE111 := n7_; have NB101_111 := n8_; have NB111_101 := n9_; have NB102_111 := n10_; have NB111_102 := n11_; have NB103_111 := n12_; have NB111_103 := n13_; have NB107_111 := n14_; have NB111_107 := n15_; clear n0_ n1_ n2_ n3_ n4_ n5_ n6_ n7_ n8_ n9_ n10_ n11_ n12_ n13_ n14_ n15_; clear hb hbox hg; have hnb30 := NB111_101.out; have hnc30 := NB101_111.out; have hnb31 := NB111_102.out; have hnc31 := NB102_111.out; have hnb32 := NB111_103.out; have hnc32 := NB103_111.out; have hnb33 := NB111_107.out; have hnc33 := NB107_111.out; have hcz34_0 : w29.cell? ⟨gb111, 0, none⟩ = some (.string (⟨#[]⟩ : ByteArray)) := (blk_cell BK111.out 0).trans rfl; have hcz34_1 : w29.cell? ⟨gb111, 1, none⟩ = some (.int .i64 0) := (blk_cell BK111.out 1).trans rfl; have hfz34_0 := blk_frozen BK111.out 0; have hfz34_1 := blk_frozen BK111.out 1))
    (try simp only [Act.put, List.setIfInBounds_toArray, List.set_cons_zero, List.set_cons_succ])
    go_cut [93] from 72 to 85 (fun v93 wc => ∃ (kq : Nat) (x93_20 : Bool), v93 = .bool x93_20 ∧ Aside0 (laws_FnPuzzlesSievedOfAll.j1 kq a0 a1 a5 a6 a8 a9 l10 a11 t106 x93_20 a3_0 a3_1 a4_0 a4_1 a7_0 a7_1 t104 t105 = some true) ∧ Aside0 (kq ≤ kj12) ∧ Aside0 (wc.heap[gb101]? = some (.cells #[.string a3_0, .int .i64 a3_1] 28 (0, 0))) ∧ Aside0 (wc.heap[gb102]? = some (.cells #[.string a4_0, .int .i64 a4_1] 28 (0, 0))) ∧ Aside0 (wc.heap[gb103]? = some (.cells #[.string a7_0, .int .i64 a7_1] 28 (0, 0))) ∧ Aside0 (wc.heap[gb107]? = some (.cells #[.string t104, .int .i64 t105] 28 (0, 0))) ∧ Aside0 (wc.heap[gb111]? = some (.cells #[.string t108, .int .i64 t109] 28 (0, 0))) ∧ Aside0 (Below w.heap.size w wc))
    case first =>
     have H := HC21.out
     clear HC21
     by_cases c35 : (t106 != t110) = true
     ·rw [if_pos c35] at H
      have c35b0 : (t106 != t110) = true := c35
      (try (have c35b1 : decide (t106 = t110) = false := by simpa using c35))
      (try (have c35b2 : (t106 == t110) = false := by simpa using c35))
      (try (have c35b3 : ¬ (t106 = t110) := by simpa using c35))
      clear c35
      (first | rw [c35b0] | rw [c35b1] | (simp only [i64_w, i32_w]; rw [c35b0]) | skip)
      have H' := Aside0.mk H
      clear H
      go_wp2
      go_meet
      case rel => exact ⟨_, (true), (by first | rfl | (simp; done) | (simp [*]; done)), H', ⟨by have := HJ12.out; first | omega | exact Nat.le_refl _⟩, ⟨by (with_reducible repeat (first | refine blk_drewN ?_ _ | refine blk_drew ?_ | refine blk_alloc ?_ _)); refine blk_far ?_ NB101_111.out _; (with_reducible repeat (first | refine blk_drewN ?_ _ | refine blk_drew ?_ | refine blk_alloc ?_ _)); refine blk_far ?_ NB101_111.out _; apply_rules only [BK101.out, blk_drewN, blk_drew, blk_alloc]⟩, ⟨by (with_reducible repeat (first | refine blk_drewN ?_ _ | refine blk_drew ?_ | refine blk_alloc ?_ _)); refine blk_far ?_ NB102_111.out _; (with_reducible repeat (first | refine blk_drewN ?_ _ | refine blk_drew ?_ | refine blk_alloc ?_ _)); refine blk_far ?_ NB102_111.out _; apply_rules only [BK102.out, blk_drewN, blk_drew, blk_alloc]⟩, ⟨by (with_reducible repeat (first | refine blk_drewN ?_ _ | refine blk_drew ?_ | refine blk_alloc ?_ _)); refine blk_far ?_ NB103_111.out _; (with_reducible repeat (first | refine blk_drewN ?_ _ | refine blk_drew ?_ | refine blk_alloc ?_ _)); refine blk_far ?_ NB103_111.out _; apply_rules only [BK103.out, blk_drewN, blk_drew, blk_alloc]⟩, ⟨by (with_reducible repeat (first | refine blk_drewN ?_ _ | refine blk_drew ?_ | refine blk_alloc ?_ _)); refine blk_far ?_ NB107_111.out _; (with_reducible repeat (first | refine blk_drewN ?_ _ | refine blk_drew ?_ | refine blk_alloc ?_ _)); refine blk_far ?_ NB107_111.out _; apply_rules only [BK107.out, blk_drewN, blk_drew, blk_alloc]⟩, ⟨by (with_reducible repeat (first | refine blk_drewN ?_ _ | refine blk_drew ?_ | refine blk_alloc ?_ _)); refine blk_put (cs := #[.string t108, .int .i64 0]) ?_ 1 _ rfl; (with_reducible repeat (first | refine blk_drewN ?_ _ | refine blk_drew ?_ | refine blk_alloc ?_ _)); refine blk_put (cs := #[.string (⟨#[]⟩ : ByteArray), .int .i64 0]) ?_ 0 _ rfl; apply_rules only [BK111.out, blk_drewN, blk_drew, blk_alloc]⟩, ⟨by apply_rules only [HB.out, below_alloc, pw_below_drewN, below_drew1, below_set, GE101.out, GE102.out, GE103.out, GE107.out, GE111.out]⟩⟩
     ·rw [if_neg c35] at H
      have c35b0 : (t106 != t110) = false := by simpa using c35
      (try (have c35b1 : decide (t106 = t110) = true := by simpa using c35))
      (try (have c35b2 : (t106 == t110) = true := by simpa using c35))
      clear c35
      (first | rw [c35b0] | rw [c35b1] | (simp only [i64_w, i32_w]; rw [c35b0]) | skip)
      have H' := Aside0.mk H
      clear H
      have hnb36 := NB107_101.out
      have hnc36 := NB101_107.out
      have hnb37 := NB107_102.out
      have hnc37 := NB102_107.out
      have hnb38 := NB107_103.out
      have hnc38 := NB103_107.out
      have hnb39 := NB107_111.out
      have hnc39 := NB111_107.out
      have hcz40_0 : w29.cell? ⟨gb107, 0, none⟩ = some (.string t104) := (blk_cell BK107.out 0).trans rfl
      have hcz40_1 : w29.cell? ⟨gb107, 1, none⟩ = some (.int .i64 t105) := (blk_cell BK107.out 1).trans rfl
      have hfz40_0 := blk_frozen BK107.out 0
      have hfz40_1 := blk_frozen BK107.out 1
      have hnb41 := NB111_101.out
      have hnc41 := NB101_111.out
      have hnb42 := NB111_102.out
      have hnc42 := NB102_111.out
      have hnb43 := NB111_103.out
      have hnc43 := NB103_111.out
      have hcz44_0 : w29.cell? ⟨gb111, 0, none⟩ = some (.string (⟨#[]⟩ : ByteArray)) := (blk_cell BK111.out 0).trans rfl
      have hcz44_1 : w29.cell? ⟨gb111, 1, none⟩ = some (.int .i64 0) := (blk_cell BK111.out 1).trans rfl
      have hfz44_0 := blk_frozen BK111.out 0
      have hfz44_1 := blk_frozen BK111.out 1
      go_wp2
      go_meet
      case rel => exact ⟨_, ((!(t104.toList == t108.toList) || (!(t105 == t109)))), (by first | rfl | (simp; done) | (simp [*]; done)), H', ⟨by have := HJ12.out; first | omega | exact Nat.le_refl _⟩, ⟨by (with_reducible repeat (first | refine blk_drewN ?_ _ | refine blk_drew ?_ | refine blk_alloc ?_ _)); refine blk_far ?_ NB101_111.out _; (with_reducible repeat (first | refine blk_drewN ?_ _ | refine blk_drew ?_ | refine blk_alloc ?_ _)); refine blk_far ?_ NB101_111.out _; apply_rules only [BK101.out, blk_drewN, blk_drew, blk_alloc]⟩, ⟨by (with_reducible repeat (first | refine blk_drewN ?_ _ | refine blk_drew ?_ | refine blk_alloc ?_ _)); refine blk_far ?_ NB102_111.out _; (with_reducible repeat (first | refine blk_drewN ?_ _ | refine blk_drew ?_ | refine blk_alloc ?_ _)); refine blk_far ?_ NB102_111.out _; apply_rules only [BK102.out, blk_drewN, blk_drew, blk_alloc]⟩, ⟨by (with_reducible repeat (first | refine blk_drewN ?_ _ | refine blk_drew ?_ | refine blk_alloc ?_ _)); refine blk_far ?_ NB103_111.out _; (with_reducible repeat (first | refine blk_drewN ?_ _ | refine blk_drew ?_ | refine blk_alloc ?_ _)); refine blk_far ?_ NB103_111.out _; apply_rules only [BK103.out, blk_drewN, blk_drew, blk_alloc]⟩, ⟨by (with_reducible repeat (first | refine blk_drewN ?_ _ | refine blk_drew ?_ | refine blk_alloc ?_ _)); refine blk_far ?_ NB107_111.out _; (with_reducible repeat (first | refine blk_drewN ?_ _ | refine blk_drew ?_ | refine blk_alloc ?_ _)); refine blk_far ?_ NB107_111.out _; apply_rules only [BK107.out, blk_drewN, blk_drew, blk_alloc]⟩, ⟨by (with_reducible repeat (first | refine blk_drewN ?_ _ | refine blk_drew ?_ | refine blk_alloc ?_ _)); refine blk_put (cs := #[.string t108, .int .i64 0]) ?_ 1 _ rfl; (with_reducible repeat (first | refine blk_drewN ?_ _ | refine blk_drew ?_ | refine blk_alloc ?_ _)); refine blk_put (cs := #[.string (⟨#[]⟩ : ByteArray), .int .i64 0]) ?_ 0 _ rfl; apply_rules only [BK111.out, blk_drewN, blk_drew, blk_alloc]⟩, ⟨by apply_rules only [HB.out, below_alloc, pw_below_drewN, below_drew1, below_set, GE101.out, GE102.out, GE103.out, GE107.out, GE111.out]⟩⟩
    case rest =>
     clear HC21
     (try clear c18); (try clear hcz27_0); (try clear hcz27_1); (try clear hcz34_0); (try clear hcz34_1); (try clear hfz27_0); (try clear hfz27_1); (try clear hfz34_0); (try clear hfz34_1)
     obtain ⟨kq, x93_20, rfl, HA, HJ20, BK101, BK102, BK103, BK107, BK111, HB⟩ := hcut
     cases kq with
     | zero => exact absurd HA.out (by simp [laws_FnPuzzlesSievedOfAll.j1])
     | succ kj20 =>
      have H := HA.out
      clear HA
      simp only [laws_FnPuzzlesSievedOfAll.j1] at H
      by_cases c45 : x93_20 = true
      ·subst c45
       rw [if_pos rfl] at H
       exact absurd H (by simp)
      ·replace c45 := Bool.eq_false_iff.mpr c45
       subst c45
       rw [if_neg (show ¬ (false = true) by decide)] at H
       have HC46 := Aside0.mk H
       clear H
       go_upto_if 94 with (fail)
       go_cut [] from 94 to 94 (fun wc => ∃ (kq : Nat), Aside0 (laws_FnPuzzlesSievedOfAll.j2 kq a5 a6 a8 a9 l10 a11 a3_0 a3_1 a4_0 a4_1 a7_0 a7_1 = some true) ∧ Aside0 (kq ≤ kj20) ∧ Aside0 (wc.heap[gb101]? = some (.cells #[.string a3_0, .int .i64 a3_1] 28 (0, 0))) ∧ Aside0 (wc.heap[gb102]? = some (.cells #[.string a4_0, .int .i64 a4_1] 28 (0, 0))) ∧ Aside0 (wc.heap[gb103]? = some (.cells #[.string a7_0, .int .i64 a7_1] 28 (0, 0))) ∧ Aside0 (wc.heap[gb107]? = some (.cells #[.string t104, .int .i64 t105] 28 (0, 0))) ∧ Aside0 (wc.heap[gb111]? = some (.cells #[.string t108, .int .i64 t109] 28 (0, 0))) ∧ Aside0 (Below w.heap.size w wc))
       case first =>
        have H := HC46.out
        clear HC46
        by_cases c47 : t106 = true
        ·subst c47
         rw [if_pos rfl] at H
         replace H := Option.bind_eq_some_iff.mp H
         obtain ⟨⟨t112, t113⟩, A480, H⟩ := H
         (try dsimp only at H)
         have A48 := Aside0.mk A480
         clear A480
         replace H := Option.bind_eq_some_iff.mp H
         obtain ⟨t114, A490, H⟩ := H
         (try dsimp only at H)
         have A49 := Aside0.mk A490
         clear A490
         by_cases c50 : t114 = true
         ·subst c50
          rw [if_pos rfl] at H
          by_cases c51 : (t104.size : Int) = a0
          ·rw [if_pos c51] at H
           have c51b0 : ((t104.size : Int) == a0) = true := beq_iff_eq.mpr c51
           have c51b1 : ((t104.size : Int) != a0) = false := bne_eq_false_iff_eq.mpr c51
           clear c51
           (first | rw [c51b0] | rw [c51b1] | (simp only [i64_w, i32_w]; rw [c51b0]) | skip)
           by_cases c52 : t105 = a1
           ·rw [if_pos c52] at H
            have c52b0 : (t105 == a1) = true := beq_iff_eq.mpr c52
            have c52b1 : (t105 != a1) = false := bne_eq_false_iff_eq.mpr c52
            clear c52
            by_cases c53 : t113 = true
            ·subst c53
             rw [if_pos rfl] at H
             by_cases c54 : t112 > a1
             ·rw [if_pos c54] at H
              have c54b0 : decide (a1 < t112) = true := decide_eq_true c54
              clear c54
              exact absurd H (by simp)
             ·rw [if_neg c54] at H
              have c54b0 : decide (a1 < t112) = false := decide_eq_false c54
              clear c54
              have H' := Aside0.mk H
              clear H
              have hnb55 := NB107_101.out
              have hnc55 := NB101_107.out
              have hnb56 := NB107_102.out
              have hnc56 := NB102_107.out
              have hnb57 := NB107_103.out
              have hnc57 := NB103_107.out
              have hnb58 := NB107_111.out
              have hnc58 := NB111_107.out
              have hcz59_0 : wc.cell? ⟨gb107, 0, none⟩ = some (.string t104) := (blk_cell BK107.out 0).trans rfl
              have hcz59_1 : wc.cell? ⟨gb107, 1, none⟩ = some (.int .i64 t105) := (blk_cell BK107.out 1).trans rfl
              have hfz59_0 := blk_frozen BK107.out 0
              have hfz59_1 := blk_frozen BK107.out 1
              go_wp2_with (first | ((with_reducible refine gate_callee (f := 24) rfl ?_); refine goesL_ (some 98) rfl rfl Tryd.func24 (by kernel_rfl) rfl #[.string t104] rfl (by (try simp only [List.map_toArray, List.map_cons, List.map_nil]); first | done | rfl | (simp only [List.length_drop, List.length_take]; rfl)) ?_; (with_reducible refine (impl_FewestRules.calls kj20 t104 t112 true _ A48.out).mono ?_); rintro e w60 ⟨rfl, hb⟩; refine ⟨_, rfl, ?_⟩; have n0_ := Aside0.mk (blk_below (by apply_rules only [BK101.out, blk_drewN, blk_drew, blk_alloc]) hb); have n1_ := Aside0.mk (blk_below (by apply_rules only [BK102.out, blk_drewN, blk_drew, blk_alloc]) hb); have n2_ := Aside0.mk (blk_below (by apply_rules only [BK103.out, blk_drewN, blk_drew, blk_alloc]) hb); have n3_ := Aside0.mk (blk_below (by apply_rules only [BK107.out, blk_drewN, blk_drew, blk_alloc]) hb); have n4_ := Aside0.mk (blk_below (by apply_rules only [BK111.out, blk_drewN, blk_drew, blk_alloc]) hb); have n5_ := Aside0.mk (below_step (by apply_rules only [HB.out, below_alloc, pw_below_drewN, below_drew1, below_set, GE101.out, GE102.out, GE103.out, GE107.out, GE111.out]) hb); clear BK101; clear BK102; clear BK103; clear BK107; clear BK111; clear HB; have BK101 := n0_; have BK102 := n1_; have BK103 := n2_; have BK107 := n3_; have BK111 := n4_; have HB := n5_; clear n0_ n1_ n2_ n3_ n4_ n5_; (try clear hb); (try clear hb2); (try clear hk); (try clear hi); have hcz61_0 : w60.cell? ⟨gb107, 0, none⟩ = some (.string t104) := (blk_cell BK107.out 0).trans rfl; have hcz61_1 : w60.cell? ⟨gb107, 1, none⟩ = some (.int .i64 t105) := (blk_cell BK107.out 1).trans rfl; have hfz61_0 := blk_frozen BK107.out 0; have hfz61_1 := blk_frozen BK107.out 1) | ((with_reducible refine gate_callee (f := 25) rfl ?_); refine goesL_ (some 102) rfl rfl Tryd.func25 (by kernel_rfl) rfl #[.agg #[.string t104, .int .i64 t105]] rfl (by (try simp only [List.map_toArray, List.map_cons, List.map_nil]); first | done | rfl | (simp only [List.length_drop, List.length_take]; rfl)) ?_; (with_reducible refine (impl_IsPuzzle.calls t104 t105 true _ A49.out).mono ?_); rintro e w62 ⟨rfl, hb⟩; refine ⟨_, rfl, ?_⟩; have n0_ := Aside0.mk (blk_below (by apply_rules only [BK101.out, blk_drewN, blk_drew, blk_alloc]) hb); have n1_ := Aside0.mk (blk_below (by apply_rules only [BK102.out, blk_drewN, blk_drew, blk_alloc]) hb); have n2_ := Aside0.mk (blk_below (by apply_rules only [BK103.out, blk_drewN, blk_drew, blk_alloc]) hb); have n3_ := Aside0.mk (blk_below (by apply_rules only [BK107.out, blk_drewN, blk_drew, blk_alloc]) hb); have n4_ := Aside0.mk (blk_below (by apply_rules only [BK111.out, blk_drewN, blk_drew, blk_alloc]) hb); have n5_ := Aside0.mk (below_step (by apply_rules only [HB.out, below_alloc, pw_below_drewN, below_drew1, below_set, GE101.out, GE102.out, GE103.out, GE107.out, GE111.out]) hb); clear BK101; clear BK102; clear BK103; clear BK107; clear BK111; clear HB; have BK101 := n0_; have BK102 := n1_; have BK103 := n2_; have BK107 := n3_; have BK111 := n4_; have HB := n5_; clear n0_ n1_ n2_ n3_ n4_ n5_; (try clear hb); (try clear hb2); (try clear hk); (try clear hi); have hcz63_0 : w62.cell? ⟨gb107, 0, none⟩ = some (.string t104) := (blk_cell BK107.out 0).trans rfl; have hcz63_1 : w62.cell? ⟨gb107, 1, none⟩ = some (.int .i64 t105) := (blk_cell BK107.out 1).trans rfl; have hfz63_0 := blk_frozen BK107.out 0; have hfz63_1 := blk_frozen BK107.out 1))
              go_meet
              case rel => exact ⟨_, H', ⟨by have := HJ12.out; have := HJ20.out; first | omega | exact Nat.le_refl _⟩, ⟨by apply_rules only [BK101.out, blk_drewN, blk_drew, blk_alloc]⟩, ⟨by apply_rules only [BK102.out, blk_drewN, blk_drew, blk_alloc]⟩, ⟨by apply_rules only [BK103.out, blk_drewN, blk_drew, blk_alloc]⟩, ⟨by apply_rules only [BK107.out, blk_drewN, blk_drew, blk_alloc]⟩, ⟨by apply_rules only [BK111.out, blk_drewN, blk_drew, blk_alloc]⟩, ⟨by apply_rules only [HB.out, below_alloc, pw_below_drewN, below_drew1, below_set, GE101.out, GE102.out, GE103.out, GE107.out, GE111.out]⟩⟩
            ·replace c53 := Bool.eq_false_iff.mpr c53
             subst c53
             rw [if_neg (show ¬ (false = true) by decide)] at H
             exact absurd H (by simp)
           ·rw [if_neg c52] at H
            have c52b0 : (t105 == a1) = false := beq_eq_false_iff_ne.mpr c52
            have c52b1 : (t105 != a1) = true := bne_iff_ne.mpr c52
            exact absurd H (by simp)
          ·rw [if_neg c51] at H
           have c51b0 : ((t104.size : Int) == a0) = false := beq_eq_false_iff_ne.mpr c51
           have c51b1 : ((t104.size : Int) != a0) = true := bne_iff_ne.mpr c51
           (first | rw [c51b0] | rw [c51b1] | (simp only [i64_w, i32_w]; rw [c51b0]) | skip)
           exact absurd H (by simp)
         ·replace c50 := Bool.eq_false_iff.mpr c50
          subst c50
          rw [if_neg (show ¬ (false = true) by decide)] at H
          exact absurd H (by simp)
        ·replace c47 := Bool.eq_false_iff.mpr c47
         subst c47
         rw [if_neg (show ¬ (false = true) by decide)] at H
         have H' := Aside0.mk H
         clear H
         go_wp2
         go_meet
         case rel => exact ⟨_, H', ⟨by have := HJ12.out; have := HJ20.out; first | omega | exact Nat.le_refl _⟩, ⟨by apply_rules only [BK101.out, blk_drewN, blk_drew, blk_alloc]⟩, ⟨by apply_rules only [BK102.out, blk_drewN, blk_drew, blk_alloc]⟩, ⟨by apply_rules only [BK103.out, blk_drewN, blk_drew, blk_alloc]⟩, ⟨by apply_rules only [BK107.out, blk_drewN, blk_drew, blk_alloc]⟩, ⟨by apply_rules only [BK111.out, blk_drewN, blk_drew, blk_alloc]⟩, ⟨by apply_rules only [HB.out, below_alloc, pw_below_drewN, below_drew1, below_set, GE101.out, GE102.out, GE103.out, GE107.out, GE111.out]⟩⟩
       case rest =>
        clear HC46
        (try clear c18); (try clear c45); (try clear hcz27_0); (try clear hcz27_1); (try clear hcz34_0); (try clear hcz34_1); (try clear hfz27_0); (try clear hfz27_1); (try clear hfz34_0); (try clear hfz34_1)
        obtain ⟨kq, HA, HJ45, BK101, BK102, BK103, BK107, BK111, HB⟩ := hcut
        cases kq with
        | zero => exact absurd HA.out (by simp [laws_FnPuzzlesSievedOfAll.j2])
        | succ kj45 =>
         have H := HA.out
         clear HA
         simp only [laws_FnPuzzlesSievedOfAll.j2] at H
         replace H := Option.bind_eq_some_iff.mp H
         obtain ⟨⟨t115, t116, t117⟩, A640, H⟩ := H
         (try dsimp only at H)
         have A64 := Aside0.mk A640
         clear A640
         replace H := Option.bind_eq_some_iff.mp H
         obtain ⟨⟨t119, t120, t121⟩, A650, H⟩ := H
         (try dsimp only at H)
         have A65 := Aside0.mk A650
         clear A650
         have HC66 := Aside0.mk H
         clear H
         have hnb67 := NB101_102.out
         have hnc67 := NB102_101.out
         have hnb68 := NB101_103.out
         have hnc68 := NB103_101.out
         have hnb69 := NB101_107.out
         have hnc69 := NB107_101.out
         have hnb70 := NB101_111.out
         have hnc70 := NB111_101.out
         have hcz71_0 : wc.cell? ⟨gb101, 0, none⟩ = some (.string a3_0) := (blk_cell BK101.out 0).trans rfl
         have hcz71_1 : wc.cell? ⟨gb101, 1, none⟩ = some (.int .i64 a3_1) := (blk_cell BK101.out 1).trans rfl
         have hfz71_0 := blk_frozen BK101.out 0
         have hfz71_1 := blk_frozen BK101.out 1
         go_upto_region 13 with (first | ((with_reducible refine gate_callee (f := 26) rfl ?_); refine goesL_ (some 128) rfl rfl Tryd.func26 (by kernel_rfl) rfl #[.agg #[.string a3_0, .int .i64 a3_1]] rfl (by (try simp only [List.map_toArray, List.map_cons, List.map_nil]); first | done | rfl | (simp only [List.length_drop, List.length_take]; rfl)) ?_; (with_reducible refine (impl_HarderPuzzle.calls kj45 a3_0 a3_1 t115 t116 t117 _ A64.out).mono ?_); rintro e w72 ⟨rfl, hb⟩; refine ⟨_, rfl, ?_⟩; have n0_ := Aside0.mk (blk_below (by apply_rules only [BK101.out, blk_drewN, blk_drew, blk_alloc]) hb); have n1_ := Aside0.mk (blk_below (by apply_rules only [BK102.out, blk_drewN, blk_drew, blk_alloc]) hb); have n2_ := Aside0.mk (blk_below (by apply_rules only [BK103.out, blk_drewN, blk_drew, blk_alloc]) hb); have n3_ := Aside0.mk (blk_below (by apply_rules only [BK107.out, blk_drewN, blk_drew, blk_alloc]) hb); have n4_ := Aside0.mk (blk_below (by apply_rules only [BK111.out, blk_drewN, blk_drew, blk_alloc]) hb); have n5_ := Aside0.mk (below_step (by apply_rules only [HB.out, below_alloc, pw_below_drewN, below_drew1, below_set, GE101.out, GE102.out, GE103.out, GE107.out, GE111.out]) hb); clear BK101; clear BK102; clear BK103; clear BK107; clear BK111; clear HB; have BK101 := n0_; have BK102 := n1_; have BK103 := n2_; have BK107 := n3_; have BK111 := n4_; have HB := n5_; clear n0_ n1_ n2_ n3_ n4_ n5_; (try clear hb); (try clear hb2); (try clear hk); (try clear hi)) | ((with_reducible refine gate_dst (N := 31) rfl ?_); (try (refine gate_guard (by rfl) ?_; dsimp only)); refine box_event ?hg (N := 31) ?hd (cs := #[.string (⟨#[]⟩ : ByteArray), .int .i64 0]) (t := 28) ?hr ?_; (case hd => rfl); (case hg => rfl); (case hr => first | (go_simp; done) | (go_simp; rfl)); intro gb118 hg w73 hbox hb; have n0_ := Aside0.mk (blk_below (by apply_rules only [BK101.out, blk_drewN, blk_drew, blk_alloc]) hb); have n1_ := Aside0.mk (blk_below (by apply_rules only [BK102.out, blk_drewN, blk_drew, blk_alloc]) hb); have n2_ := Aside0.mk (blk_below (by apply_rules only [BK103.out, blk_drewN, blk_drew, blk_alloc]) hb); have n3_ := Aside0.mk (blk_below (by apply_rules only [BK107.out, blk_drewN, blk_drew, blk_alloc]) hb); have n4_ := Aside0.mk (blk_below (by apply_rules only [BK111.out, blk_drewN, blk_drew, blk_alloc]) hb); have n5_ := Aside0.mk (below_step (by apply_rules only [HB.out, below_alloc, pw_below_drewN, below_drew1, below_set, GE101.out, GE102.out, GE103.out, GE107.out, GE111.out]) hb); have n6_ := Aside0.mk (hbox); have n7_ := Aside0.mk ((by rw [hg]; exact (below_size (by apply_rules only [HB.out, below_alloc, pw_below_drewN, below_drew1, below_set, GE101.out, GE102.out, GE103.out, GE107.out, GE111.out])) : w.heap.size ≤ gb118)); have n8_ := Aside0.mk ((by rw [hg]; exact (below_size (by apply_rules only [HB.out, below_alloc, pw_below_drewN, below_drew1, below_set, GE101.out, GE102.out, GE103.out, GE107.out, GE111.out])) : w.heap.size ≤ gb118)); have n9_ := Aside0.mk ((by rw [hg]; exact Nat.ne_of_lt (blk_lt (g := gb101) (o := .cells #[.string a3_0, .int .i64 a3_1] 28 (0, 0)) (by apply_rules only [BK101.out, blk_drewN, blk_drew, blk_alloc])) : gb101 ≠ gb118)); have n10_ := Aside0.mk ((by rw [hg]; exact Nat.ne_of_gt (blk_lt (g := gb101) (o := .cells #[.string a3_0, .int .i64 a3_1] 28 (0, 0)) (by apply_rules only [BK101.out, blk_drewN, blk_drew, blk_alloc])) : gb118 ≠ gb101)); have n11_ := Aside0.mk ((by rw [hg]; exact Nat.ne_of_lt (blk_lt (g := gb102) (o := .cells #[.string a4_0, .int .i64 a4_1] 28 (0, 0)) (by apply_rules only [BK102.out, blk_drewN, blk_drew, blk_alloc])) : gb102 ≠ gb118)); have n12_ := Aside0.mk ((by rw [hg]; exact Nat.ne_of_gt (blk_lt (g := gb102) (o := .cells #[.string a4_0, .int .i64 a4_1] 28 (0, 0)) (by apply_rules only [BK102.out, blk_drewN, blk_drew, blk_alloc])) : gb118 ≠ gb102)); have n13_ := Aside0.mk ((by rw [hg]; exact Nat.ne_of_lt (blk_lt (g := gb103) (o := .cells #[.string a7_0, .int .i64 a7_1] 28 (0, 0)) (by apply_rules only [BK103.out, blk_drewN, blk_drew, blk_alloc])) : gb103 ≠ gb118)); have n14_ := Aside0.mk ((by rw [hg]; exact Nat.ne_of_gt (blk_lt (g := gb103) (o := .cells #[.string a7_0, .int .i64 a7_1] 28 (0, 0)) (by apply_rules only [BK103.out, blk_drewN, blk_drew, blk_alloc])) : gb118 ≠ gb103)); have n15_ := Aside0.mk ((by rw [hg]; exact Nat.ne_of_lt (blk_lt (g := gb107) (o := .cells #[.string t104, .int .i64 t105] 28 (0, 0)) (by apply_rules only [BK107.out, blk_drewN, blk_drew, blk_alloc])) : gb107 ≠ gb118)); have n16_ := Aside0.mk ((by rw [hg]; exact Nat.ne_of_gt (blk_lt (g := gb107) (o := .cells #[.string t104, .int .i64 t105] 28 (0, 0)) (by apply_rules only [BK107.out, blk_drewN, blk_drew, blk_alloc])) : gb118 ≠ gb107)); have n17_ := Aside0.mk ((by rw [hg]; exact Nat.ne_of_lt (blk_lt (g := gb111) (o := .cells #[.string t108, .int .i64 t109] 28 (0, 0)) (by apply_rules only [BK111.out, blk_drewN, blk_drew, blk_alloc])) : gb111 ≠ gb118)); have n18_ := Aside0.mk ((by rw [hg]; exact Nat.ne_of_gt (blk_lt (g := gb111) (o := .cells #[.string t108, .int .i64 t109] 28 (0, 0)) (by apply_rules only [BK111.out, blk_drewN, blk_drew, blk_alloc])) : gb118 ≠ gb111)); clear BK101; clear BK102; clear BK103; clear BK107; clear BK111; clear HB; have BK101 := n0_; have BK102 := n1_; have BK103 := n2_; have BK107 := n3_; have BK111 := n4_; have HB := n5_; have BK118 := n6_; have GW118 := n7_; have GE118 := n8_; have NB101_118 := n9_; have NB118_101 := n10_; have NB102_118 := n11_; have NB118_102 := n12_; have NB103_118 := n13_; have NB118_103 := n14_; have NB107_118 := n15_; have NB118_107 := n16_; have NB111_118 := n17_; have NB118_111 := n18_; clear n0_ n1_ n2_ n3_ n4_ n5_ n6_ n7_ n8_ n9_ n10_ n11_ n12_ n13_ n14_ n15_ n16_ n17_ n18_; clear hb hbox hg; have hnb74 := NB118_101.out; have hnc74 := NB101_118.out; have hnb75 := NB118_102.out; have hnc75 := NB102_118.out; have hnb76 := NB118_103.out; have hnc76 := NB103_118.out; have hnb77 := NB118_107.out; have hnc77 := NB107_118.out; have hnb78 := NB118_111.out; have hnc78 := NB111_118.out; have hcz79_0 : w73.cell? ⟨gb118, 0, none⟩ = some (.string (⟨#[]⟩ : ByteArray)) := (blk_cell BK118.out 0).trans rfl; have hcz79_1 : w73.cell? ⟨gb118, 1, none⟩ = some (.int .i64 0) := (blk_cell BK118.out 1).trans rfl; have hfz79_0 := blk_frozen BK118.out 0; have hfz79_1 := blk_frozen BK118.out 1; have hcz80_0 : w73.cell? ⟨gb101, 0, none⟩ = some (.string a3_0) := (blk_cell BK101.out 0).trans rfl; have hcz80_1 : w73.cell? ⟨gb101, 1, none⟩ = some (.int .i64 a3_1) := (blk_cell BK101.out 1).trans rfl; have hfz80_0 := blk_frozen BK101.out 0; have hfz80_1 := blk_frozen BK101.out 1) | ((with_reducible refine gate_callee (f := 27) rfl ?_); refine goesL_ (some 133) rfl rfl Tryd.func27 (by kernel_rfl) rfl #[.agg #[.string a3_0, .int .i64 a3_1]] rfl (by (try simp only [List.map_toArray, List.map_cons, List.map_nil]); first | done | rfl | (simp only [List.length_drop, List.length_take]; rfl)) ?_; (with_reducible refine (spec_HarderPuzzle.calls kj45 a3_0 a3_1 t119 t120 t121 _ A65.out).mono ?_); rintro e w81 ⟨rfl, hb⟩; refine ⟨_, rfl, ?_⟩; have n0_ := Aside0.mk (blk_below (g := gb101) (o := .cells #[.string a3_0, .int .i64 a3_1] 28 (0, 0)) (by (with_reducible repeat (first | refine blk_drewN ?_ _ | refine blk_drew ?_ | refine blk_alloc ?_ _)); refine blk_far ?_ NB101_118.out _; (with_reducible repeat (first | refine blk_drewN ?_ _ | refine blk_drew ?_ | refine blk_alloc ?_ _)); refine blk_far ?_ NB101_118.out _; apply_rules only [BK101.out, blk_drewN, blk_drew, blk_alloc]) hb); have n1_ := Aside0.mk (blk_below (g := gb102) (o := .cells #[.string a4_0, .int .i64 a4_1] 28 (0, 0)) (by (with_reducible repeat (first | refine blk_drewN ?_ _ | refine blk_drew ?_ | refine blk_alloc ?_ _)); refine blk_far ?_ NB102_118.out _; (with_reducible repeat (first | refine blk_drewN ?_ _ | refine blk_drew ?_ | refine blk_alloc ?_ _)); refine blk_far ?_ NB102_118.out _; apply_rules only [BK102.out, blk_drewN, blk_drew, blk_alloc]) hb); have n2_ := Aside0.mk (blk_below (g := gb103) (o := .cells #[.string a7_0, .int .i64 a7_1] 28 (0, 0)) (by (with_reducible repeat (first | refine blk_drewN ?_ _ | refine blk_drew ?_ | refine blk_alloc ?_ _)); refine blk_far ?_ NB103_118.out _; (with_reducible repeat (first | refine blk_drewN ?_ _ | refine blk_drew ?_ | refine blk_alloc ?_ _)); refine blk_far ?_ NB103_118.out _; apply_rules only [BK103.out, blk_drewN, blk_drew, blk_alloc]) hb); have n3_ := Aside0.mk (blk_below (g := gb107) (o := .cells #[.string t104, .int .i64 t105] 28 (0, 0)) (by (with_reducible repeat (first | refine blk_drewN ?_ _ | refine blk_drew ?_ | refine blk_alloc ?_ _)); refine blk_far ?_ NB107_118.out _; (with_reducible repeat (first | refine blk_drewN ?_ _ | refine blk_drew ?_ | refine blk_alloc ?_ _)); refine blk_far ?_ NB107_118.out _; apply_rules only [BK107.out, blk_drewN, blk_drew, blk_alloc]) hb); have n4_ := Aside0.mk (blk_below (g := gb111) (o := .cells #[.string t108, .int .i64 t109] 28 (0, 0)) (by (with_reducible repeat (first | refine blk_drewN ?_ _ | refine blk_drew ?_ | refine blk_alloc ?_ _)); refine blk_far ?_ NB111_118.out _; (with_reducible repeat (first | refine blk_drewN ?_ _ | refine blk_drew ?_ | refine blk_alloc ?_ _)); refine blk_far ?_ NB111_118.out _; apply_rules only [BK111.out, blk_drewN, blk_drew, blk_alloc]) hb); have n5_ := Aside0.mk (blk_below (g := gb118) (o := .cells #[.string t115, .int .i64 t116] 28 (0, 0)) (by (with_reducible repeat (first | refine blk_drewN ?_ _ | refine blk_drew ?_ | refine blk_alloc ?_ _)); refine blk_put (cs := #[.string t115, .int .i64 0]) ?_ 1 _ rfl; (with_reducible repeat (first | refine blk_drewN ?_ _ | refine blk_drew ?_ | refine blk_alloc ?_ _)); refine blk_put (cs := #[.string (⟨#[]⟩ : ByteArray), .int .i64 0]) ?_ 0 _ rfl; apply_rules only [BK118.out, blk_drewN, blk_drew, blk_alloc]) hb); have n6_ := Aside0.mk (below_step (by apply_rules only [HB.out, below_alloc, pw_below_drewN, below_drew1, below_set, GE101.out, GE102.out, GE103.out, GE107.out, GE111.out, GE118.out]) hb); clear BK101; clear BK102; clear BK103; clear BK107; clear BK111; clear BK118; clear HB; have BK101 := n0_; have BK102 := n1_; have BK103 := n2_; have BK107 := n3_; have BK111 := n4_; have BK118 := n5_; have HB := n6_; clear n0_ n1_ n2_ n3_ n4_ n5_ n6_; (try clear hb); (try clear hb2); (try clear hk); (try clear hi)) | ((with_reducible refine gate_dst (N := 33) rfl ?_); (try (refine gate_guard (by rfl) ?_; dsimp only)); refine box_event ?hg (N := 33) ?hd (cs := #[.string (⟨#[]⟩ : ByteArray), .int .i64 0]) (t := 28) ?hr ?_; (case hd => rfl); (case hg => rfl); (case hr => first | (go_simp; done) | (go_simp; rfl)); intro gb122 hg w82 hbox hb; have n0_ := Aside0.mk (blk_below (by apply_rules only [BK101.out, blk_drewN, blk_drew, blk_alloc]) hb); have n1_ := Aside0.mk (blk_below (by apply_rules only [BK102.out, blk_drewN, blk_drew, blk_alloc]) hb); have n2_ := Aside0.mk (blk_below (by apply_rules only [BK103.out, blk_drewN, blk_drew, blk_alloc]) hb); have n3_ := Aside0.mk (blk_below (by apply_rules only [BK107.out, blk_drewN, blk_drew, blk_alloc]) hb); have n4_ := Aside0.mk (blk_below (by apply_rules only [BK111.out, blk_drewN, blk_drew, blk_alloc]) hb); have n5_ := Aside0.mk (blk_below (by apply_rules only [BK118.out, blk_drewN, blk_drew, blk_alloc]) hb); have n6_ := Aside0.mk (below_step (by apply_rules only [HB.out, below_alloc, pw_below_drewN, below_drew1, below_set, GE101.out, GE102.out, GE103.out, GE107.out, GE111.out, GE118.out]) hb); have n7_ := Aside0.mk (hbox); have n8_ := Aside0.mk ((by rw [hg]; exact (below_size (by apply_rules only [HB.out, below_alloc, pw_below_drewN, below_drew1, below_set, GE101.out, GE102.out, GE103.out, GE107.out, GE111.out, GE118.out])) : w.heap.size ≤ gb122)); have n9_ := Aside0.mk ((by rw [hg]; exact (below_size (by apply_rules only [HB.out, below_alloc, pw_below_drewN, below_drew1, below_set, GE101.out, GE102.out, GE103.out, GE107.out, GE111.out, GE118.out])) : w.heap.size ≤ gb122)); have n10_ := Aside0.mk ((by rw [hg]; exact Nat.ne_of_lt (blk_lt (g := gb101) (o := .cells #[.string a3_0, .int .i64 a3_1] 28 (0, 0)) (by apply_rules only [BK101.out, blk_drewN, blk_drew, blk_alloc])) : gb101 ≠ gb122)); have n11_ := Aside0.mk ((by rw [hg]; exact Nat.ne_of_gt (blk_lt (g := gb101) (o := .cells #[.string a3_0, .int .i64 a3_1] 28 (0, 0)) (by apply_rules only [BK101.out, blk_drewN, blk_drew, blk_alloc])) : gb122 ≠ gb101)); have n12_ := Aside0.mk ((by rw [hg]; exact Nat.ne_of_lt (blk_lt (g := gb102) (o := .cells #[.string a4_0, .int .i64 a4_1] 28 (0, 0)) (by apply_rules only [BK102.out, blk_drewN, blk_drew, blk_alloc])) : gb102 ≠ gb122)); have n13_ := Aside0.mk ((by rw [hg]; exact Nat.ne_of_gt (blk_lt (g := gb102) (o := .cells #[.string a4_0, .int .i64 a4_1] 28 (0, 0)) (by apply_rules only [BK102.out, blk_drewN, blk_drew, blk_alloc])) : gb122 ≠ gb102)); have n14_ := Aside0.mk ((by rw [hg]; exact Nat.ne_of_lt (blk_lt (g := gb103) (o := .cells #[.string a7_0, .int .i64 a7_1] 28 (0, 0)) (by apply_rules only [BK103.out, blk_drewN, blk_drew, blk_alloc])) : gb103 ≠ gb122)); have n15_ := Aside0.mk ((by rw [hg]; exact Nat.ne_of_gt (blk_lt (g := gb103) (o := .cells #[.string a7_0, .int .i64 a7_1] 28 (0, 0)) (by apply_rules only [BK103.out, blk_drewN, blk_drew, blk_alloc])) : gb122 ≠ gb103)); have n16_ := Aside0.mk ((by rw [hg]; exact Nat.ne_of_lt (blk_lt (g := gb107) (o := .cells #[.string t104, .int .i64 t105] 28 (0, 0)) (by apply_rules only [BK107.out, blk_drewN, blk_drew, blk_alloc])) : gb107 ≠ gb122)); have n17_ := Aside0.mk ((by rw [hg]; exact Nat.ne_of_gt (blk_lt (g := gb107) (o := .cells #[.string t104, .int .i64 t105] 28 (0, 0)) (by apply_rules only [BK107.out, blk_drewN, blk_drew, blk_alloc])) : gb122 ≠ gb107)); have n18_ := Aside0.mk ((by rw [hg]; exact Nat.ne_of_lt (blk_lt (g := gb111) (o := .cells #[.string t108, .int .i64 t109] 28 (0, 0)) (by apply_rules only [BK111.out, blk_drewN, blk_drew, blk_alloc])) : gb111 ≠ gb122)); have n19_ := Aside0.mk ((by rw [hg]; exact Nat.ne_of_gt (blk_lt (g := gb111) (o := .cells #[.string t108, .int .i64 t109] 28 (0, 0)) (by apply_rules only [BK111.out, blk_drewN, blk_drew, blk_alloc])) : gb122 ≠ gb111)); have n20_ := Aside0.mk ((by rw [hg]; exact Nat.ne_of_lt (blk_lt (g := gb118) (o := .cells #[.string t115, .int .i64 t116] 28 (0, 0)) (by apply_rules only [BK118.out, blk_drewN, blk_drew, blk_alloc])) : gb118 ≠ gb122)); have n21_ := Aside0.mk ((by rw [hg]; exact Nat.ne_of_gt (blk_lt (g := gb118) (o := .cells #[.string t115, .int .i64 t116] 28 (0, 0)) (by apply_rules only [BK118.out, blk_drewN, blk_drew, blk_alloc])) : gb122 ≠ gb118)); clear BK101; clear BK102; clear BK103; clear BK107; clear BK111; clear BK118; clear HB; have BK101 := n0_; have BK102 := n1_; have BK103 := n2_; have BK107 := n3_; have BK111 := n4_; have BK118 := n5_; have HB := n6_; have BK122 := n7_; have GW122 := n8_; have GE122 := n9_; have NB101_122 := n10_; have NB122_101 := n11_; have NB102_122 := n12_; have NB122_102 := n13_; have NB103_122 := n14_; have NB122_103 := n15_; have NB107_122 := n16_; have NB122_107 := n17_; have NB111_122 := n18_; have NB122_111 := n19_; have NB118_122 := n20_; have NB122_118 := n21_; clear n0_ n1_ n2_ n3_ n4_ n5_ n6_ n7_ n8_ n9_ n10_ n11_ n12_ n13_ n14_ n15_ n16_ n17_ n18_ n19_ n20_ n21_; clear hb hbox hg; have hnb83 := NB122_101.out; have hnc83 := NB101_122.out; have hnb84 := NB122_102.out; have hnc84 := NB102_122.out; have hnb85 := NB122_103.out; have hnc85 := NB103_122.out; have hnb86 := NB122_107.out; have hnc86 := NB107_122.out; have hnb87 := NB122_111.out; have hnc87 := NB111_122.out; have hnb88 := NB122_118.out; have hnc88 := NB118_122.out; have hcz89_0 : w82.cell? ⟨gb122, 0, none⟩ = some (.string (⟨#[]⟩ : ByteArray)) := (blk_cell BK122.out 0).trans rfl; have hcz89_1 : w82.cell? ⟨gb122, 1, none⟩ = some (.int .i64 0) := (blk_cell BK122.out 1).trans rfl; have hfz89_0 := blk_frozen BK122.out 0; have hfz89_1 := blk_frozen BK122.out 1))
         (try simp only [Act.put, List.setIfInBounds_toArray, List.set_cons_zero, List.set_cons_succ])
         go_cut [143] from 126 to 135 (fun v143 wc => ∃ (kq : Nat) (x143_65 : Bool), v143 = .bool x143_65 ∧ Aside0 (laws_FnPuzzlesSievedOfAll.j3 kq a5 a6 a8 a9 l10 a11 t117 x143_65 a3_0 a3_1 a4_0 a4_1 a7_0 a7_1 t115 t116 = some true) ∧ Aside0 (kq ≤ kj45) ∧ Aside0 (wc.heap[gb101]? = some (.cells #[.string a3_0, .int .i64 a3_1] 28 (0, 0))) ∧ Aside0 (wc.heap[gb102]? = some (.cells #[.string a4_0, .int .i64 a4_1] 28 (0, 0))) ∧ Aside0 (wc.heap[gb103]? = some (.cells #[.string a7_0, .int .i64 a7_1] 28 (0, 0))) ∧ Aside0 (wc.heap[gb107]? = some (.cells #[.string t104, .int .i64 t105] 28 (0, 0))) ∧ Aside0 (wc.heap[gb111]? = some (.cells #[.string t108, .int .i64 t109] 28 (0, 0))) ∧ Aside0 (wc.heap[gb118]? = some (.cells #[.string t115, .int .i64 t116] 28 (0, 0))) ∧ Aside0 (wc.heap[gb122]? = some (.cells #[.string t119, .int .i64 t120] 28 (0, 0))) ∧ Aside0 (Below w.heap.size w wc))
         case first =>
          have H := HC66.out
          clear HC66
          by_cases c90 : (t117 != t121) = true
          ·rw [if_pos c90] at H
           have c90b0 : (t117 != t121) = true := c90
           (try (have c90b1 : decide (t117 = t121) = false := by simpa using c90))
           (try (have c90b2 : (t117 == t121) = false := by simpa using c90))
           (try (have c90b3 : ¬ (t117 = t121) := by simpa using c90))
           clear c90
           (first | rw [c90b0] | rw [c90b1] | (simp only [i64_w, i32_w]; rw [c90b0]) | skip)
           have H' := Aside0.mk H
           clear H
           go_wp2
           go_meet
           case rel => exact ⟨_, (true), (by first | rfl | (simp; done) | (simp [*]; done)), H', ⟨by have := HJ12.out; have := HJ20.out; have := HJ45.out; first | omega | exact Nat.le_refl _⟩, ⟨by (with_reducible repeat (first | refine blk_drewN ?_ _ | refine blk_drew ?_ | refine blk_alloc ?_ _)); refine blk_far ?_ NB101_122.out _; (with_reducible repeat (first | refine blk_drewN ?_ _ | refine blk_drew ?_ | refine blk_alloc ?_ _)); refine blk_far ?_ NB101_122.out _; apply_rules only [BK101.out, blk_drewN, blk_drew, blk_alloc]⟩, ⟨by (with_reducible repeat (first | refine blk_drewN ?_ _ | refine blk_drew ?_ | refine blk_alloc ?_ _)); refine blk_far ?_ NB102_122.out _; (with_reducible repeat (first | refine blk_drewN ?_ _ | refine blk_drew ?_ | refine blk_alloc ?_ _)); refine blk_far ?_ NB102_122.out _; apply_rules only [BK102.out, blk_drewN, blk_drew, blk_alloc]⟩, ⟨by (with_reducible repeat (first | refine blk_drewN ?_ _ | refine blk_drew ?_ | refine blk_alloc ?_ _)); refine blk_far ?_ NB103_122.out _; (with_reducible repeat (first | refine blk_drewN ?_ _ | refine blk_drew ?_ | refine blk_alloc ?_ _)); refine blk_far ?_ NB103_122.out _; apply_rules only [BK103.out, blk_drewN, blk_drew, blk_alloc]⟩, ⟨by (with_reducible repeat (first | refine blk_drewN ?_ _ | refine blk_drew ?_ | refine blk_alloc ?_ _)); refine blk_far ?_ NB107_122.out _; (with_reducible repeat (first | refine blk_drewN ?_ _ | refine blk_drew ?_ | refine blk_alloc ?_ _)); refine blk_far ?_ NB107_122.out _; apply_rules only [BK107.out, blk_drewN, blk_drew, blk_alloc]⟩, ⟨by (with_reducible repeat (first | refine blk_drewN ?_ _ | refine blk_drew ?_ | refine blk_alloc ?_ _)); refine blk_far ?_ NB111_122.out _; (with_reducible repeat (first | refine blk_drewN ?_ _ | refine blk_drew ?_ | refine blk_alloc ?_ _)); refine blk_far ?_ NB111_122.out _; apply_rules only [BK111.out, blk_drewN, blk_drew, blk_alloc]⟩, ⟨by (with_reducible repeat (first | refine blk_drewN ?_ _ | refine blk_drew ?_ | refine blk_alloc ?_ _)); refine blk_far ?_ NB118_122.out _; (with_reducible repeat (first | refine blk_drewN ?_ _ | refine blk_drew ?_ | refine blk_alloc ?_ _)); refine blk_far ?_ NB118_122.out _; apply_rules only [BK118.out, blk_drewN, blk_drew, blk_alloc]⟩, ⟨by (with_reducible repeat (first | refine blk_drewN ?_ _ | refine blk_drew ?_ | refine blk_alloc ?_ _)); refine blk_put (cs := #[.string t119, .int .i64 0]) ?_ 1 _ rfl; (with_reducible repeat (first | refine blk_drewN ?_ _ | refine blk_drew ?_ | refine blk_alloc ?_ _)); refine blk_put (cs := #[.string (⟨#[]⟩ : ByteArray), .int .i64 0]) ?_ 0 _ rfl; apply_rules only [BK122.out, blk_drewN, blk_drew, blk_alloc]⟩, ⟨by apply_rules only [HB.out, below_alloc, pw_below_drewN, below_drew1, below_set, GE101.out, GE102.out, GE103.out, GE107.out, GE111.out, GE118.out, GE122.out]⟩⟩
          ·rw [if_neg c90] at H
           have c90b0 : (t117 != t121) = false := by simpa using c90
           (try (have c90b1 : decide (t117 = t121) = true := by simpa using c90))
           (try (have c90b2 : (t117 == t121) = true := by simpa using c90))
           clear c90
           (first | rw [c90b0] | rw [c90b1] | (simp only [i64_w, i32_w]; rw [c90b0]) | skip)
           have H' := Aside0.mk H
           clear H
           have hnb91 := NB118_101.out
           have hnc91 := NB101_118.out
           have hnb92 := NB118_102.out
           have hnc92 := NB102_118.out
           have hnb93 := NB118_103.out
           have hnc93 := NB103_118.out
           have hnb94 := NB118_107.out
           have hnc94 := NB107_118.out
           have hnb95 := NB118_111.out
           have hnc95 := NB111_118.out
           have hnb96 := NB118_122.out
           have hnc96 := NB122_118.out
           have hcz97_0 : w82.cell? ⟨gb118, 0, none⟩ = some (.string t115) := (blk_cell BK118.out 0).trans rfl
           have hcz97_1 : w82.cell? ⟨gb118, 1, none⟩ = some (.int .i64 t116) := (blk_cell BK118.out 1).trans rfl
           have hfz97_0 := blk_frozen BK118.out 0
           have hfz97_1 := blk_frozen BK118.out 1
           have hnb98 := NB122_101.out
           have hnc98 := NB101_122.out
           have hnb99 := NB122_102.out
           have hnc99 := NB102_122.out
           have hnb100 := NB122_103.out
           have hnc100 := NB103_122.out
           have hnb101 := NB122_107.out
           have hnc101 := NB107_122.out
           have hnb102 := NB122_111.out
           have hnc102 := NB111_122.out
           have hcz103_0 : w82.cell? ⟨gb122, 0, none⟩ = some (.string (⟨#[]⟩ : ByteArray)) := (blk_cell BK122.out 0).trans rfl
           have hcz103_1 : w82.cell? ⟨gb122, 1, none⟩ = some (.int .i64 0) := (blk_cell BK122.out 1).trans rfl
           have hfz103_0 := blk_frozen BK122.out 0
           have hfz103_1 := blk_frozen BK122.out 1
           go_wp2
           go_meet
           case rel => exact ⟨_, ((!(t115.toList == t119.toList) || (!(t116 == t120)))), (by first | rfl | (simp; done) | (simp [*]; done)), H', ⟨by have := HJ12.out; have := HJ20.out; have := HJ45.out; first | omega | exact Nat.le_refl _⟩, ⟨by (with_reducible repeat (first | refine blk_drewN ?_ _ | refine blk_drew ?_ | refine blk_alloc ?_ _)); refine blk_far ?_ NB101_122.out _; (with_reducible repeat (first | refine blk_drewN ?_ _ | refine blk_drew ?_ | refine blk_alloc ?_ _)); refine blk_far ?_ NB101_122.out _; apply_rules only [BK101.out, blk_drewN, blk_drew, blk_alloc]⟩, ⟨by (with_reducible repeat (first | refine blk_drewN ?_ _ | refine blk_drew ?_ | refine blk_alloc ?_ _)); refine blk_far ?_ NB102_122.out _; (with_reducible repeat (first | refine blk_drewN ?_ _ | refine blk_drew ?_ | refine blk_alloc ?_ _)); refine blk_far ?_ NB102_122.out _; apply_rules only [BK102.out, blk_drewN, blk_drew, blk_alloc]⟩, ⟨by (with_reducible repeat (first | refine blk_drewN ?_ _ | refine blk_drew ?_ | refine blk_alloc ?_ _)); refine blk_far ?_ NB103_122.out _; (with_reducible repeat (first | refine blk_drewN ?_ _ | refine blk_drew ?_ | refine blk_alloc ?_ _)); refine blk_far ?_ NB103_122.out _; apply_rules only [BK103.out, blk_drewN, blk_drew, blk_alloc]⟩, ⟨by (with_reducible repeat (first | refine blk_drewN ?_ _ | refine blk_drew ?_ | refine blk_alloc ?_ _)); refine blk_far ?_ NB107_122.out _; (with_reducible repeat (first | refine blk_drewN ?_ _ | refine blk_drew ?_ | refine blk_alloc ?_ _)); refine blk_far ?_ NB107_122.out _; apply_rules only [BK107.out, blk_drewN, blk_drew, blk_alloc]⟩, ⟨by (with_reducible repeat (first | refine blk_drewN ?_ _ | refine blk_drew ?_ | refine blk_alloc ?_ _)); refine blk_far ?_ NB111_122.out _; (with_reducible repeat (first | refine blk_drewN ?_ _ | refine blk_drew ?_ | refine blk_alloc ?_ _)); refine blk_far ?_ NB111_122.out _; apply_rules only [BK111.out, blk_drewN, blk_drew, blk_alloc]⟩, ⟨by (with_reducible repeat (first | refine blk_drewN ?_ _ | refine blk_drew ?_ | refine blk_alloc ?_ _)); refine blk_far ?_ NB118_122.out _; (with_reducible repeat (first | refine blk_drewN ?_ _ | refine blk_drew ?_ | refine blk_alloc ?_ _)); refine blk_far ?_ NB118_122.out _; apply_rules only [BK118.out, blk_drewN, blk_drew, blk_alloc]⟩, ⟨by (with_reducible repeat (first | refine blk_drewN ?_ _ | refine blk_drew ?_ | refine blk_alloc ?_ _)); refine blk_put (cs := #[.string t119, .int .i64 0]) ?_ 1 _ rfl; (with_reducible repeat (first | refine blk_drewN ?_ _ | refine blk_drew ?_ | refine blk_alloc ?_ _)); refine blk_put (cs := #[.string (⟨#[]⟩ : ByteArray), .int .i64 0]) ?_ 0 _ rfl; apply_rules only [BK122.out, blk_drewN, blk_drew, blk_alloc]⟩, ⟨by apply_rules only [HB.out, below_alloc, pw_below_drewN, below_drew1, below_set, GE101.out, GE102.out, GE103.out, GE107.out, GE111.out, GE118.out, GE122.out]⟩⟩
         case rest =>
          clear HC66
          (try clear c18); (try clear c45); (try clear hcz27_0); (try clear hcz27_1); (try clear hcz34_0); (try clear hcz34_1); (try clear hcz71_0); (try clear hcz71_1); (try clear hcz79_0); (try clear hcz79_1); (try clear hcz80_0); (try clear hcz80_1); (try clear hcz89_0); (try clear hcz89_1); (try clear hfz27_0); (try clear hfz27_1); (try clear hfz34_0); (try clear hfz34_1); (try clear hfz71_0); (try clear hfz71_1); (try clear hfz79_0); (try clear hfz79_1); (try clear hfz80_0); (try clear hfz80_1); (try clear hfz89_0); (try clear hfz89_1)
          obtain ⟨kq, x143_65, rfl, HA, HJ65, BK101, BK102, BK103, BK107, BK111, BK118, BK122, HB⟩ := hcut
          cases kq with
          | zero => exact absurd HA.out (by simp [laws_FnPuzzlesSievedOfAll.j3])
          | succ kj65 =>
           have H := HA.out
           clear HA
           simp only [laws_FnPuzzlesSievedOfAll.j3] at H
           by_cases c104 : x143_65 = true
           ·subst c104
            rw [if_pos rfl] at H
            exact absurd H (by simp)
           ·replace c104 := Bool.eq_false_iff.mpr c104
            subst c104
            rw [if_neg (show ¬ (false = true) by decide)] at H
            have HC105 := Aside0.mk H
            clear H
            go_upto_if 144 with (fail)
            go_cut [] from 144 to 144 (fun wc => ∃ (kq : Nat), Aside0 (laws_FnPuzzlesSievedOfAll.j6 kq a5 a6 a8 a9 l10 a11 a4_0 a4_1 a7_0 a7_1 = some true) ∧ Aside0 (kq ≤ kj65) ∧ Aside0 (wc.heap[gb101]? = some (.cells #[.string a3_0, .int .i64 a3_1] 28 (0, 0))) ∧ Aside0 (wc.heap[gb102]? = some (.cells #[.string a4_0, .int .i64 a4_1] 28 (0, 0))) ∧ Aside0 (wc.heap[gb103]? = some (.cells #[.string a7_0, .int .i64 a7_1] 28 (0, 0))) ∧ Aside0 (wc.heap[gb107]? = some (.cells #[.string t104, .int .i64 t105] 28 (0, 0))) ∧ Aside0 (wc.heap[gb111]? = some (.cells #[.string t108, .int .i64 t109] 28 (0, 0))) ∧ Aside0 (wc.heap[gb118]? = some (.cells #[.string t115, .int .i64 t116] 28 (0, 0))) ∧ Aside0 (wc.heap[gb122]? = some (.cells #[.string t119, .int .i64 t120] 28 (0, 0))) ∧ Aside0 (Below w.heap.size w wc))
            case first =>
             have H := HC105.out
             clear HC105
             by_cases c106 : t117 = true
             ·subst c106
              rw [if_pos rfl] at H
              replace H := Option.bind_eq_some_iff.mp H
              obtain ⟨⟨t123, t126⟩, A1070, H⟩ := H
              (try dsimp only at H)
              have A107 := Aside0.mk A1070
              clear A1070
              replace H := Option.bind_eq_some_iff.mp H
              obtain ⟨⟨t127, t130⟩, A1080, H⟩ := H
              (try dsimp only at H)
              have A108 := Aside0.mk A1080
              clear A1080
              have HC109 := Aside0.mk H
              clear H
              have hnb110 := NB101_102.out
              have hnc110 := NB102_101.out
              have hnb111 := NB101_103.out
              have hnc111 := NB103_101.out
              have hnb112 := NB101_107.out
              have hnc112 := NB107_101.out
              have hnb113 := NB101_111.out
              have hnc113 := NB111_101.out
              have hnb114 := NB101_118.out
              have hnc114 := NB118_101.out
              have hnb115 := NB101_122.out
              have hnc115 := NB122_101.out
              have hcz116_0 : wc.cell? ⟨gb101, 0, none⟩ = some (.string a3_0) := (blk_cell BK101.out 0).trans rfl
              have hcz116_1 : wc.cell? ⟨gb101, 1, none⟩ = some (.int .i64 a3_1) := (blk_cell BK101.out 1).trans rfl
              have hfz116_0 := blk_frozen BK101.out 0
              have hfz116_1 := blk_frozen BK101.out 1
              go_upto_region 18 with (first | ((with_reducible refine gate_callee (f := 10) rfl ?_); refine goesL_ (some 147) rfl rfl Tryd.func10 (by kernel_rfl) rfl #[.agg #[.string a3_0, .int .i64 a3_1]] rfl (by (try simp only [List.map_toArray, List.map_cons, List.map_nil]); first | done | rfl | (simp only [List.length_drop, List.length_take]; rfl)) ?_; (with_reducible refine (impl_Answers.calls kj65 a3_0 a3_1 t123 t126 _ A107.out).mono ?_); rintro e w117 ⟨v124, rfl, ho0, hb⟩; refine ⟨_, rfl, ?_⟩; have n0_ := Aside0.mk (Kd.S_lower ho0 (below_size (by apply_rules only [HB.out, below_alloc, pw_below_drewN, below_drew1, below_set, GE101.out, GE102.out, GE103.out, GE107.out, GE111.out, GE118.out, GE122.out]))); have n1_ := Aside0.mk (blk_below (by apply_rules only [BK101.out, blk_drewN, blk_drew, blk_alloc]) hb); have n2_ := Aside0.mk (blk_below (by apply_rules only [BK102.out, blk_drewN, blk_drew, blk_alloc]) hb); have n3_ := Aside0.mk (blk_below (by apply_rules only [BK103.out, blk_drewN, blk_drew, blk_alloc]) hb); have n4_ := Aside0.mk (blk_below (by apply_rules only [BK107.out, blk_drewN, blk_drew, blk_alloc]) hb); have n5_ := Aside0.mk (blk_below (by apply_rules only [BK111.out, blk_drewN, blk_drew, blk_alloc]) hb); have n6_ := Aside0.mk (blk_below (by apply_rules only [BK118.out, blk_drewN, blk_drew, blk_alloc]) hb); have n7_ := Aside0.mk (blk_below (by apply_rules only [BK122.out, blk_drewN, blk_drew, blk_alloc]) hb); have n8_ := Aside0.mk (below_step (by apply_rules only [HB.out, below_alloc, pw_below_drewN, below_drew1, below_set, GE101.out, GE102.out, GE103.out, GE107.out, GE111.out, GE118.out, GE122.out]) hb); clear BK101; clear BK102; clear BK103; clear BK107; clear BK111; clear BK118; clear BK122; clear HB; have HO125 := n0_; have BK101 := n1_; have BK102 := n2_; have BK103 := n3_; have BK107 := n4_; have BK111 := n5_; have BK118 := n6_; have BK122 := n7_; have HB := n8_; clear n0_ n1_ n2_ n3_ n4_ n5_ n6_ n7_ n8_; (try clear hb); (try clear hb2); (try clear hk); (try clear hi); (try clear ho0); have hnb118 := NB118_102.out; have hnc118 := NB102_118.out; have hnb119 := NB118_103.out; have hnc119 := NB103_118.out; have hnb120 := NB118_107.out; have hnc120 := NB107_118.out; have hnb121 := NB118_111.out; have hnc121 := NB111_118.out; have hnb122 := NB118_122.out; have hnc122 := NB122_118.out; have hcz123_0 : w117.cell? ⟨gb118, 0, none⟩ = some (.string t115) := (blk_cell BK118.out 0).trans rfl; have hcz123_1 : w117.cell? ⟨gb118, 1, none⟩ = some (.int .i64 t116) := (blk_cell BK118.out 1).trans rfl; have hfz123_0 := blk_frozen BK118.out 0; have hfz123_1 := blk_frozen BK118.out 1) | ((with_reducible refine gate_callee (f := 10) rfl ?_); refine goesL_ (some 152) rfl rfl Tryd.func10 (by kernel_rfl) rfl #[.agg #[.string t115, .int .i64 t116]] rfl (by (try simp only [List.map_toArray, List.map_cons, List.map_nil]); first | done | rfl | (simp only [List.length_drop, List.length_take]; rfl)) ?_; (with_reducible refine (impl_Answers.calls kj65 t115 t116 t127 t130 _ A108.out).mono ?_); rintro e w124 ⟨v128, rfl, ho0, hb⟩; refine ⟨_, rfl, ?_⟩; have n0_ := Aside0.mk (Kd.S_elder' (by apply_rules only [HO125.out, Kd.S_alloc, Kd.S_drewN, Kd.S_drew]) (Kd.S_base ho0) hb); have n1_ := Aside0.mk (Kd.S_lower (Kd.S_new' ho0 (Kd.S_lt (by apply_rules only [HO125.out, Kd.S_alloc, Kd.S_drewN, Kd.S_drew]))) (below_size (by apply_rules only [HB.out, below_alloc, pw_below_drewN, below_drew1, below_set, GE101.out, GE102.out, GE103.out, GE107.out, GE111.out, GE118.out, GE122.out]))); have n2_ := Aside0.mk (blk_below (by apply_rules only [BK101.out, blk_drewN, blk_drew, blk_alloc]) hb); have n3_ := Aside0.mk (blk_below (by apply_rules only [BK102.out, blk_drewN, blk_drew, blk_alloc]) hb); have n4_ := Aside0.mk (blk_below (by apply_rules only [BK103.out, blk_drewN, blk_drew, blk_alloc]) hb); have n5_ := Aside0.mk (blk_below (by apply_rules only [BK107.out, blk_drewN, blk_drew, blk_alloc]) hb); have n6_ := Aside0.mk (blk_below (by apply_rules only [BK111.out, blk_drewN, blk_drew, blk_alloc]) hb); have n7_ := Aside0.mk (blk_below (by apply_rules only [BK118.out, blk_drewN, blk_drew, blk_alloc]) hb); have n8_ := Aside0.mk (blk_below (by apply_rules only [BK122.out, blk_drewN, blk_drew, blk_alloc]) hb); have n9_ := Aside0.mk (below_step (by apply_rules only [HB.out, below_alloc, pw_below_drewN, below_drew1, below_set, GE101.out, GE102.out, GE103.out, GE107.out, GE111.out, GE118.out, GE122.out]) hb); clear HO125; clear BK101; clear BK102; clear BK103; clear BK107; clear BK111; clear BK118; clear BK122; clear HB; have HO125 := n0_; have HO129 := n1_; have BK101 := n2_; have BK102 := n3_; have BK103 := n4_; have BK107 := n5_; have BK111 := n6_; have BK118 := n7_; have BK122 := n8_; have HB := n9_; clear n0_ n1_ n2_ n3_ n4_ n5_ n6_ n7_ n8_ n9_; (try clear hb); (try clear hb2); (try clear hk); (try clear hi); (try clear ho0)))
              (try simp only [Act.put, List.setIfInBounds_toArray, List.set_cons_zero, List.set_cons_succ])
              go_cut [180] from 145 to 154 (fun v180 wc => ∃ (kq : Nat) (x180_108 : Bool), v180 = .bool x180_108 ∧ Aside0 (laws_FnPuzzlesSievedOfAll.j4 kq a5 a6 a8 a9 l10 a11 x180_108 a3_0 a3_1 a4_0 a4_1 a7_0 a7_1 t115 t116 = some true) ∧ Aside0 (kq ≤ kj65) ∧ Aside0 (wc.heap[gb101]? = some (.cells #[.string a3_0, .int .i64 a3_1] 28 (0, 0))) ∧ Aside0 (wc.heap[gb102]? = some (.cells #[.string a4_0, .int .i64 a4_1] 28 (0, 0))) ∧ Aside0 (wc.heap[gb103]? = some (.cells #[.string a7_0, .int .i64 a7_1] 28 (0, 0))) ∧ Aside0 (wc.heap[gb107]? = some (.cells #[.string t104, .int .i64 t105] 28 (0, 0))) ∧ Aside0 (wc.heap[gb111]? = some (.cells #[.string t108, .int .i64 t109] 28 (0, 0))) ∧ Aside0 (wc.heap[gb118]? = some (.cells #[.string t115, .int .i64 t116] 28 (0, 0))) ∧ Aside0 (wc.heap[gb122]? = some (.cells #[.string t119, .int .i64 t120] 28 (0, 0))) ∧ Aside0 (Below w.heap.size w wc))
              case first =>
               have H := HC109.out
               clear HC109
               by_cases c125 : t126 = true
               ·subst c125
                rw [if_pos rfl] at H
                by_cases c126 : (t123.length : Int) = 1
                ·rw [if_pos c126] at H
                 have c126b0 : ((t123.length : Int) == 1) = true := beq_iff_eq.mpr c126
                 have c126b1 : ((t123.length : Int) != 1) = false := bne_eq_false_iff_eq.mpr c126
                 clear c126
                 (first | rw [c126b0] | rw [c126b1] | (simp only [i64_w, i32_w]; rw [c126b0]) | skip)
                 by_cases c127 : t130 = true
                 ·subst c127
                  rw [if_pos rfl] at H
                  replace H := Option.bind_eq_some_iff.mp H
                  obtain ⟨t131, A1280, H⟩ := H
                  (try dsimp only at H)
                  have A128 := Aside0.mk A1280
                  clear A1280
                  by_cases c129 : t131 = true
                  ·subst c129
                   rw [if_pos rfl] at H
                   have H' := Aside0.mk H
                   clear H
                   obtain ⟨Ao130, co130, eo130⟩ := Kd.S_slice HO125.out
                   subst eo130
                   obtain ⟨Ao131, co131, eo131⟩ := Kd.S_slice HO129.out
                   subst eo131
                   go_wp2_with (first | (go_at_call 28; (with_reducible refine (laws_gAnswers.calls kj65 _ _ t123 _ _ t127 true _ ?side1 ?side2 ?side3 ?side4 A128.out).mono ?_); (case side1 => repeat (first | exact (Kd.S_reads' HO125.out).2.2 | (with_reducible refine Kd.C_alloc ?_ _) | (with_reducible refine Kd.C_drewN ?_ _) | (with_reducible refine Kd.C_drew ?_))); (case side2 => exact (Kd.S_reads' HO125.out).2.1); (case side3 => repeat (first | exact (Kd.S_reads' HO129.out).2.2 | (with_reducible refine Kd.C_alloc ?_ _) | (with_reducible refine Kd.C_drewN ?_ _) | (with_reducible refine Kd.C_drew ?_))); (case side4 => exact (Kd.S_reads' HO129.out).2.1); rintro e w' ⟨rfl, ⟨nd, rfl⟩⟩; have hnb132 := NB118_101.out; have hnc132 := NB101_118.out; have hnb133 := NB118_102.out; have hnc133 := NB102_118.out; have hnb134 := NB118_103.out; have hnc134 := NB103_118.out; have hnb135 := NB118_107.out; have hnc135 := NB107_118.out; have hnb136 := NB118_111.out; have hnc136 := NB111_118.out; have hnb137 := NB118_122.out; have hnc137 := NB122_118.out; have hcz138_0 : w124.cell? ⟨gb118, 0, none⟩ = some (.string t115) := (blk_cell BK118.out 0).trans rfl; have hcz138_1 : w124.cell? ⟨gb118, 1, none⟩ = some (.int .i64 t116) := (blk_cell BK118.out 1).trans rfl; have hfz138_0 := blk_frozen BK118.out 0; have hfz138_1 := blk_frozen BK118.out 1; have hnb139 := NB101_102.out; have hnc139 := NB102_101.out; have hnb140 := NB101_103.out; have hnc140 := NB103_101.out; have hnb141 := NB101_107.out; have hnc141 := NB107_101.out; have hnb142 := NB101_111.out; have hnc142 := NB111_101.out; have hnb143 := NB101_122.out; have hnc143 := NB122_101.out; have hcz144_0 : w124.cell? ⟨gb101, 0, none⟩ = some (.string a3_0) := (blk_cell BK101.out 0).trans rfl; have hcz144_1 : w124.cell? ⟨gb101, 1, none⟩ = some (.int .i64 a3_1) := (blk_cell BK101.out 1).trans rfl; have hfz144_0 := blk_frozen BK101.out 0; have hfz144_1 := blk_frozen BK101.out 1))
                   go_meet
                   case rel => exact ⟨_, (((t115.size : Int) != (a3_0.size : Int))), (by first | rfl | (simp; done) | (simp [*]; done)), H', ⟨by have := HJ12.out; have := HJ20.out; have := HJ45.out; have := HJ65.out; first | omega | exact Nat.le_refl _⟩, ⟨by apply_rules only [BK101.out, blk_drewN, blk_drew, blk_alloc]⟩, ⟨by apply_rules only [BK102.out, blk_drewN, blk_drew, blk_alloc]⟩, ⟨by apply_rules only [BK103.out, blk_drewN, blk_drew, blk_alloc]⟩, ⟨by apply_rules only [BK107.out, blk_drewN, blk_drew, blk_alloc]⟩, ⟨by apply_rules only [BK111.out, blk_drewN, blk_drew, blk_alloc]⟩, ⟨by apply_rules only [BK118.out, blk_drewN, blk_drew, blk_alloc]⟩, ⟨by apply_rules only [BK122.out, blk_drewN, blk_drew, blk_alloc]⟩, ⟨by apply_rules only [HB.out, below_alloc, pw_below_drewN, below_drew1, below_set, GE101.out, GE102.out, GE103.out, GE107.out, GE111.out, GE118.out, GE122.out]⟩⟩
                  ·replace c129 := Bool.eq_false_iff.mpr c129
                   subst c129
                   rw [if_neg (show ¬ (false = true) by decide)] at H
                   have H' := Aside0.mk H
                   clear H
                   obtain ⟨Ao145, co145, eo145⟩ := Kd.S_slice HO125.out
                   subst eo145
                   obtain ⟨Ao146, co146, eo146⟩ := Kd.S_slice HO129.out
                   subst eo146
                   go_wp2_with (first | (go_at_call 28; (with_reducible refine (laws_gAnswers.calls kj65 _ _ t123 _ _ t127 false _ ?side1 ?side2 ?side3 ?side4 A128.out).mono ?_); (case side1 => repeat (first | exact (Kd.S_reads' HO125.out).2.2 | (with_reducible refine Kd.C_alloc ?_ _) | (with_reducible refine Kd.C_drewN ?_ _) | (with_reducible refine Kd.C_drew ?_))); (case side2 => exact (Kd.S_reads' HO125.out).2.1); (case side3 => repeat (first | exact (Kd.S_reads' HO129.out).2.2 | (with_reducible refine Kd.C_alloc ?_ _) | (with_reducible refine Kd.C_drewN ?_ _) | (with_reducible refine Kd.C_drew ?_))); (case side4 => exact (Kd.S_reads' HO129.out).2.1); rintro e w' ⟨rfl, ⟨nd, rfl⟩⟩))
                   go_meet
                   case rel => exact ⟨_, (true), (by first | rfl | (simp; done) | (simp [*]; done)), H', ⟨by have := HJ12.out; have := HJ20.out; have := HJ45.out; have := HJ65.out; first | omega | exact Nat.le_refl _⟩, ⟨by apply_rules only [BK101.out, blk_drewN, blk_drew, blk_alloc]⟩, ⟨by apply_rules only [BK102.out, blk_drewN, blk_drew, blk_alloc]⟩, ⟨by apply_rules only [BK103.out, blk_drewN, blk_drew, blk_alloc]⟩, ⟨by apply_rules only [BK107.out, blk_drewN, blk_drew, blk_alloc]⟩, ⟨by apply_rules only [BK111.out, blk_drewN, blk_drew, blk_alloc]⟩, ⟨by apply_rules only [BK118.out, blk_drewN, blk_drew, blk_alloc]⟩, ⟨by apply_rules only [BK122.out, blk_drewN, blk_drew, blk_alloc]⟩, ⟨by apply_rules only [HB.out, below_alloc, pw_below_drewN, below_drew1, below_set, GE101.out, GE102.out, GE103.out, GE107.out, GE111.out, GE118.out, GE122.out]⟩⟩
                 ·replace c127 := Bool.eq_false_iff.mpr c127
                  subst c127
                  rw [if_neg (show ¬ (false = true) by decide)] at H
                  have H' := Aside0.mk H
                  clear H
                  obtain ⟨Ao147, co147, eo147⟩ := Kd.S_slice HO125.out
                  subst eo147
                  go_wp2
                  go_meet
                  case rel => exact ⟨_, (true), (by first | rfl | (simp; done) | (simp [*]; done)), H', ⟨by have := HJ12.out; have := HJ20.out; have := HJ45.out; have := HJ65.out; first | omega | exact Nat.le_refl _⟩, ⟨by apply_rules only [BK101.out, blk_drewN, blk_drew, blk_alloc]⟩, ⟨by apply_rules only [BK102.out, blk_drewN, blk_drew, blk_alloc]⟩, ⟨by apply_rules only [BK103.out, blk_drewN, blk_drew, blk_alloc]⟩, ⟨by apply_rules only [BK107.out, blk_drewN, blk_drew, blk_alloc]⟩, ⟨by apply_rules only [BK111.out, blk_drewN, blk_drew, blk_alloc]⟩, ⟨by apply_rules only [BK118.out, blk_drewN, blk_drew, blk_alloc]⟩, ⟨by apply_rules only [BK122.out, blk_drewN, blk_drew, blk_alloc]⟩, ⟨by apply_rules only [HB.out, below_alloc, pw_below_drewN, below_drew1, below_set, GE101.out, GE102.out, GE103.out, GE107.out, GE111.out, GE118.out, GE122.out]⟩⟩
                ·rw [if_neg c126] at H
                 have c126b0 : ((t123.length : Int) == 1) = false := beq_eq_false_iff_ne.mpr c126
                 have c126b1 : ((t123.length : Int) != 1) = true := bne_iff_ne.mpr c126
                 (first | rw [c126b0] | rw [c126b1] | (simp only [i64_w, i32_w]; rw [c126b0]) | skip)
                 have H' := Aside0.mk H
                 clear H
                 obtain ⟨Ao148, co148, eo148⟩ := Kd.S_slice HO125.out
                 subst eo148
                 go_wp2
                 go_meet
                 case rel => exact ⟨_, (true), (by first | rfl | (simp; done) | (simp [*]; done)), H', ⟨by have := HJ12.out; have := HJ20.out; have := HJ45.out; have := HJ65.out; first | omega | exact Nat.le_refl _⟩, ⟨by apply_rules only [BK101.out, blk_drewN, blk_drew, blk_alloc]⟩, ⟨by apply_rules only [BK102.out, blk_drewN, blk_drew, blk_alloc]⟩, ⟨by apply_rules only [BK103.out, blk_drewN, blk_drew, blk_alloc]⟩, ⟨by apply_rules only [BK107.out, blk_drewN, blk_drew, blk_alloc]⟩, ⟨by apply_rules only [BK111.out, blk_drewN, blk_drew, blk_alloc]⟩, ⟨by apply_rules only [BK118.out, blk_drewN, blk_drew, blk_alloc]⟩, ⟨by apply_rules only [BK122.out, blk_drewN, blk_drew, blk_alloc]⟩, ⟨by apply_rules only [HB.out, below_alloc, pw_below_drewN, below_drew1, below_set, GE101.out, GE102.out, GE103.out, GE107.out, GE111.out, GE118.out, GE122.out]⟩⟩
               ·replace c125 := Bool.eq_false_iff.mpr c125
                subst c125
                rw [if_neg (show ¬ (false = true) by decide)] at H
                have H' := Aside0.mk H
                clear H
                go_wp2
                go_meet
                case rel => exact ⟨_, (true), (by first | rfl | (simp; done) | (simp [*]; done)), H', ⟨by have := HJ12.out; have := HJ20.out; have := HJ45.out; have := HJ65.out; first | omega | exact Nat.le_refl _⟩, ⟨by apply_rules only [BK101.out, blk_drewN, blk_drew, blk_alloc]⟩, ⟨by apply_rules only [BK102.out, blk_drewN, blk_drew, blk_alloc]⟩, ⟨by apply_rules only [BK103.out, blk_drewN, blk_drew, blk_alloc]⟩, ⟨by apply_rules only [BK107.out, blk_drewN, blk_drew, blk_alloc]⟩, ⟨by apply_rules only [BK111.out, blk_drewN, blk_drew, blk_alloc]⟩, ⟨by apply_rules only [BK118.out, blk_drewN, blk_drew, blk_alloc]⟩, ⟨by apply_rules only [BK122.out, blk_drewN, blk_drew, blk_alloc]⟩, ⟨by apply_rules only [HB.out, below_alloc, pw_below_drewN, below_drew1, below_set, GE101.out, GE102.out, GE103.out, GE107.out, GE111.out, GE118.out, GE122.out]⟩⟩
              case rest =>
               clear HC109
               (try clear c18); (try clear c45); (try clear c104); (try clear c106); (try clear hcz116_0); (try clear hcz116_1); (try clear hcz123_0); (try clear hcz123_1); (try clear hcz27_0); (try clear hcz27_1); (try clear hcz34_0); (try clear hcz34_1); (try clear hcz71_0); (try clear hcz71_1); (try clear hcz79_0); (try clear hcz79_1); (try clear hcz80_0); (try clear hcz80_1); (try clear hcz89_0); (try clear hcz89_1); (try clear hfz116_0); (try clear hfz116_1); (try clear hfz123_0); (try clear hfz123_1); (try clear hfz27_0); (try clear hfz27_1); (try clear hfz34_0); (try clear hfz34_1); (try clear hfz71_0); (try clear hfz71_1); (try clear hfz79_0); (try clear hfz79_1); (try clear hfz80_0); (try clear hfz80_1); (try clear hfz89_0); (try clear hfz89_1)
               obtain ⟨kq, x180_108, rfl, HA, HJ108, BK101, BK102, BK103, BK107, BK111, BK118, BK122, HB⟩ := hcut
               cases kq with
               | zero => exact absurd HA.out (by simp [laws_FnPuzzlesSievedOfAll.j4])
               | succ kj108 =>
                have H := HA.out
                clear HA
                simp only [laws_FnPuzzlesSievedOfAll.j4] at H
                by_cases c149 : x180_108 = true
                ·subst c149
                 rw [if_pos rfl] at H
                 exact absurd H (by simp)
                ·replace c149 := Bool.eq_false_iff.mpr c149
                 subst c149
                 rw [if_neg (show ¬ (false = true) by decide)] at H
                 have H' := Aside0.mk H
                 clear H
                 go_wp2
                 go_loopg [39] kj108 (fun kq v39 w' => ∃ (x39_6 : Int), v39 = .int .i64 x39_6 ∧ Aside0 (laws_FnPuzzlesSievedOfAll.l0 kq a5 a6 a8 a9 l10 a11 x39_6 a3_0 a3_1 a4_0 a4_1 a7_0 a7_1 t115 t116 = some true) ∧ Aside0 (kq ≤ kj108) ∧ Aside0 (w'.heap[gb101]? = some (.cells #[.string a3_0, .int .i64 a3_1] 28 (0, 0))) ∧ Aside0 (w'.heap[gb102]? = some (.cells #[.string a4_0, .int .i64 a4_1] 28 (0, 0))) ∧ Aside0 (w'.heap[gb103]? = some (.cells #[.string a7_0, .int .i64 a7_1] 28 (0, 0))) ∧ Aside0 (w'.heap[gb107]? = some (.cells #[.string t104, .int .i64 t105] 28 (0, 0))) ∧ Aside0 (w'.heap[gb111]? = some (.cells #[.string t108, .int .i64 t109] 28 (0, 0))) ∧ Aside0 (w'.heap[gb118]? = some (.cells #[.string t115, .int .i64 t116] 28 (0, 0))) ∧ Aside0 (w'.heap[gb122]? = some (.cells #[.string t119, .int .i64 t120] 28 (0, 0))) ∧ Aside0 (Below w.heap.size w w'))
                 case atStart => exact ⟨(1), (by first | rfl | (simp; done) | (simp [*]; done)), H', ⟨Nat.le_refl _⟩, ⟨by apply_rules only [BK101.out, blk_drewN, blk_drew, blk_alloc]⟩, ⟨by apply_rules only [BK102.out, blk_drewN, blk_drew, blk_alloc]⟩, ⟨by apply_rules only [BK103.out, blk_drewN, blk_drew, blk_alloc]⟩, ⟨by apply_rules only [BK107.out, blk_drewN, blk_drew, blk_alloc]⟩, ⟨by apply_rules only [BK111.out, blk_drewN, blk_drew, blk_alloc]⟩, ⟨by apply_rules only [BK118.out, blk_drewN, blk_drew, blk_alloc]⟩, ⟨by apply_rules only [BK122.out, blk_drewN, blk_drew, blk_alloc]⟩, ⟨by apply_rules only [HB.out, below_alloc, pw_below_drewN, below_drew1, below_set, GE101.out, GE102.out, GE103.out, GE107.out, GE111.out, GE118.out, GE122.out]⟩⟩
                 case round =>
                  clear H'
                  (try clear c18); (try clear c45); (try clear c104); (try clear c106); (try clear c149); (try clear hcz116_0); (try clear hcz116_1); (try clear hcz123_0); (try clear hcz123_1); (try clear hcz27_0); (try clear hcz27_1); (try clear hcz34_0); (try clear hcz34_1); (try clear hcz71_0); (try clear hcz71_1); (try clear hcz79_0); (try clear hcz79_1); (try clear hcz80_0); (try clear hcz80_1); (try clear hcz89_0); (try clear hcz89_1); (try clear hfz116_0); (try clear hfz116_1); (try clear hfz123_0); (try clear hfz123_1); (try clear hfz27_0); (try clear hfz27_1); (try clear hfz34_0); (try clear hfz34_1); (try clear hfz71_0); (try clear hfz71_1); (try clear hfz79_0); (try clear hfz79_1); (try clear hfz80_0); (try clear hfz80_1); (try clear hfz89_0); (try clear hfz89_1)
                  obtain ⟨x39_6, rfl, HA, HK6, BK101, BK102, BK103, BK107, BK111, BK118, BK122, HB⟩ := hrel
                  cases gk with
                  | zero => exact absurd HA.out (by simp [laws_FnPuzzlesSievedOfAll.l0])
                  | succ k6 =>
                   have H := HA.out
                   clear HA
                   simp only [laws_FnPuzzlesSievedOfAll.l0] at H
                   by_cases c150 : x39_6 ≤ (t115.size : Int)
                   ·rw [if_pos c150] at H
                    have c150b0 : decide (x39_6 ≤ (t115.size : Int)) = true := decide_eq_true c150
                    clear c150
                    obtain ⟨ji151, hji151⟩ : ∃ j_ : Int, (wrap64 (x39_6 - 1)) = j_ := ⟨_, rfl⟩
                    replace H : (if 0 ≤ (ji151) then (if (ji151) < (t115.size : Int) then (if (bt t115 (ji151)) = 63 then (laws_FnPuzzlesSievedOfAll.l0 k6 a5 a6 a8 a9 l10 a11 (wrap64 (x39_6 + 1)) a3_0 a3_1 a4_0 a4_1 a7_0 a7_1 t115 t116) else ((impl_HideNumber.f t115 t116 x39_6).bind fun bt132 => ((impl_CountAnswers.f k6 bt132.1 bt132.2.1).bind fun bt136 => (if (ji151) < (a3_0.size : Int) then (if (bt t115 (ji151)) = (bt a3_0 (ji151)) then (if bt132.2.2 = true then (if bt136.2 = true then (if bt136.1 < 2 then (some false) else (laws_FnPuzzlesSievedOfAll.l0 k6 a5 a6 a8 a9 l10 a11 (wrap64 (x39_6 + 1)) a3_0 a3_1 a4_0 a4_1 a7_0 a7_1 t115 t116)) else (laws_FnPuzzlesSievedOfAll.l0 k6 a5 a6 a8 a9 l10 a11 (wrap64 (x39_6 + 1)) a3_0 a3_1 a4_0 a4_1 a7_0 a7_1 t115 t116)) else (some false)) else (some false)) else (none))))) else (none)) else (none)) = some true := by first | (rw [hji151] at H; exact H) | (simp only [hji151] at H ⊢; exact H)
                    have hji151w : (IntKind.i64.wrap (x39_6 - 1)) = ji151 := (i64_w _).trans hji151
                    by_cases c152 : 0 ≤ (ji151)
                    ·rw [if_pos c152] at H
                     have c152b0 : decide (0 ≤ (ji151)) = true := decide_eq_true c152
                     clear c152
                     by_cases c153 : (ji151) < (t115.size : Int)
                     ·rw [if_pos c153] at H
                      have c153b0 : decide ((ji151) < (t115.size : Int)) = true := decide_eq_true c153
                      clear c153
                      by_cases c155 : (bt t115 (ji151)) = 63
                      ·rw [if_pos c155] at H
                       have c155b0 : ((bt t115 (ji151)) == 63) = true := beq_iff_eq.mpr c155
                       have c155b1 : ((bt t115 (ji151)) != 63) = false := bne_eq_false_iff_eq.mpr c155
                       clear c155
                       have H' := Aside0.mk H
                       clear H
                       have hnb156 := NB118_101.out
                       have hnc156 := NB101_118.out
                       have hnb157 := NB118_102.out
                       have hnc157 := NB102_118.out
                       have hnb158 := NB118_103.out
                       have hnc158 := NB103_118.out
                       have hnb159 := NB118_107.out
                       have hnc159 := NB107_118.out
                       have hnb160 := NB118_111.out
                       have hnc160 := NB111_118.out
                       have hnb161 := NB118_122.out
                       have hnc161 := NB122_118.out
                       have hcz162_0 : wr.cell? ⟨gb118, 0, none⟩ = some (.string t115) := (blk_cell BK118.out 0).trans rfl
                       have hcz162_1 : wr.cell? ⟨gb118, 1, none⟩ = some (.int .i64 t116) := (blk_cell BK118.out 1).trans rfl
                       have hfz162_0 := blk_frozen BK118.out 0
                       have hfz162_1 := blk_frozen BK118.out 1
                       have p154 : 0 ≤ ((ji151) : Int) := of_decide_eq_true (by first | (with_reducible assumption) | assumption)
                       have q154 : (ji151) < (t115.size : Int) := of_decide_eq_true (by first | (with_reducible assumption) | assumption)
                       have hx154 := bt_at t115 (ji151)
                       replace p154 := eq_true p154
                       replace q154 := eq_true q154
                       go_wp2
                       go_roundg k6
                       case measure => have := HJ12.out; have := HJ20.out; have := HJ45.out; have := HJ65.out; have := HJ108.out; have := HK6.out; omega
                       case rel => exact ⟨(wrap64 (x39_6 + 1)), (by first | rfl | (simp; done) | (simp [*]; done)), H', ⟨by have := HJ12.out; have := HJ20.out; have := HJ45.out; have := HJ65.out; have := HJ108.out; have := HK6.out; omega⟩, ⟨by apply_rules only [BK101.out, blk_drewN, blk_drew, blk_alloc]⟩, ⟨by apply_rules only [BK102.out, blk_drewN, blk_drew, blk_alloc]⟩, ⟨by apply_rules only [BK103.out, blk_drewN, blk_drew, blk_alloc]⟩, ⟨by apply_rules only [BK107.out, blk_drewN, blk_drew, blk_alloc]⟩, ⟨by apply_rules only [BK111.out, blk_drewN, blk_drew, blk_alloc]⟩, ⟨by apply_rules only [BK118.out, blk_drewN, blk_drew, blk_alloc]⟩, ⟨by apply_rules only [BK122.out, blk_drewN, blk_drew, blk_alloc]⟩, ⟨by apply_rules only [HB.out, below_alloc, pw_below_drewN, below_drew1, below_set, GE101.out, GE102.out, GE103.out, GE107.out, GE111.out, GE118.out, GE122.out]⟩⟩
                      ·rw [if_neg c155] at H
                       have c155b0 : ((bt t115 (ji151)) == 63) = false := beq_eq_false_iff_ne.mpr c155
                       have c155b1 : ((bt t115 (ji151)) != 63) = true := bne_iff_ne.mpr c155
                       replace H := Option.bind_eq_some_iff.mp H
                       obtain ⟨⟨t132, t133, t134⟩, A1630, H⟩ := H
                       (try dsimp only at H)
                       have A163 := Aside0.mk A1630
                       clear A1630
                       replace H := Option.bind_eq_some_iff.mp H
                       obtain ⟨⟨t136, t137⟩, A1640, H⟩ := H
                       (try dsimp only at H)
                       have A164 := Aside0.mk A1640
                       clear A1640
                       by_cases c166 : (ji151) < (a3_0.size : Int)
                       ·rw [if_pos c166] at H
                        have c166b0 : decide ((ji151) < (a3_0.size : Int)) = true := decide_eq_true c166
                        clear c166
                        by_cases c168 : (bt t115 (ji151)) = (bt a3_0 (ji151))
                        ·rw [if_pos c168] at H
                         have c168b0 : ((bt t115 (ji151)) == (bt a3_0 (ji151))) = true := beq_iff_eq.mpr c168
                         have c168b1 : ((bt t115 (ji151)) != (bt a3_0 (ji151))) = false := bne_eq_false_iff_eq.mpr c168
                         clear c168
                         by_cases c169 : t134 = true
                         ·subst c169
                          rw [if_pos rfl] at H
                          by_cases c170 : t137 = true
                          ·subst c170
                           rw [if_pos rfl] at H
                           by_cases c171 : t136 < 2
                           ·rw [if_pos c171] at H
                            have c171b0 : decide (t136 < 2) = true := decide_eq_true c171
                            clear c171
                            exact absurd H (by simp)
                           ·rw [if_neg c171] at H
                            have c171b0 : decide (t136 < 2) = false := decide_eq_false c171
                            clear c171
                            have H' := Aside0.mk H
                            clear H
                            have hnb172 := NB118_101.out
                            have hnc172 := NB101_118.out
                            have hnb173 := NB118_102.out
                            have hnc173 := NB102_118.out
                            have hnb174 := NB118_103.out
                            have hnc174 := NB103_118.out
                            have hnb175 := NB118_107.out
                            have hnc175 := NB107_118.out
                            have hnb176 := NB118_111.out
                            have hnc176 := NB111_118.out
                            have hnb177 := NB118_122.out
                            have hnc177 := NB122_118.out
                            have hcz178_0 : wr.cell? ⟨gb118, 0, none⟩ = some (.string t115) := (blk_cell BK118.out 0).trans rfl
                            have hcz178_1 : wr.cell? ⟨gb118, 1, none⟩ = some (.int .i64 t116) := (blk_cell BK118.out 1).trans rfl
                            have hfz178_0 := blk_frozen BK118.out 0
                            have hfz178_1 := blk_frozen BK118.out 1
                            have p154 : 0 ≤ ((ji151) : Int) := of_decide_eq_true (by first | (with_reducible assumption) | assumption)
                            have q154 : (ji151) < (t115.size : Int) := of_decide_eq_true (by first | (with_reducible assumption) | assumption)
                            have hx154 := bt_at t115 (ji151)
                            replace p154 := eq_true p154
                            replace q154 := eq_true q154
                            try go_wp2_with (first | ((with_reducible refine gate_callee (f := 29) rfl ?_); refine goesL_ (some 197) rfl rfl Tryd.func29 (by kernel_rfl) rfl #[.agg #[.string t115, .int .i64 t116], .int .i64 x39_6] rfl (by (try simp only [List.map_toArray, List.map_cons, List.map_nil]); first | done | rfl | (simp only [List.length_drop, List.length_take]; rfl)) ?_; (with_reducible refine (impl_HideNumber.calls t115 t116 x39_6 t132 t133 true _ A163.out).mono ?_); rintro e w179 ⟨rfl, hb⟩; refine ⟨_, rfl, ?_⟩; have n0_ := Aside0.mk (blk_below (by apply_rules only [BK101.out, blk_drewN, blk_drew, blk_alloc]) hb); have n1_ := Aside0.mk (blk_below (by apply_rules only [BK102.out, blk_drewN, blk_drew, blk_alloc]) hb); have n2_ := Aside0.mk (blk_below (by apply_rules only [BK103.out, blk_drewN, blk_drew, blk_alloc]) hb); have n3_ := Aside0.mk (blk_below (by apply_rules only [BK107.out, blk_drewN, blk_drew, blk_alloc]) hb); have n4_ := Aside0.mk (blk_below (by apply_rules only [BK111.out, blk_drewN, blk_drew, blk_alloc]) hb); have n5_ := Aside0.mk (blk_below (by apply_rules only [BK118.out, blk_drewN, blk_drew, blk_alloc]) hb); have n6_ := Aside0.mk (blk_below (by apply_rules only [BK122.out, blk_drewN, blk_drew, blk_alloc]) hb); have n7_ := Aside0.mk (below_step (by apply_rules only [HB.out, below_alloc, pw_below_drewN, below_drew1, below_set, GE101.out, GE102.out, GE103.out, GE107.out, GE111.out, GE118.out, GE122.out]) hb); clear BK101; clear BK102; clear BK103; clear BK107; clear BK111; clear BK118; clear BK122; clear HB; have BK101 := n0_; have BK102 := n1_; have BK103 := n2_; have BK107 := n3_; have BK111 := n4_; have BK118 := n5_; have BK122 := n6_; have HB := n7_; clear n0_ n1_ n2_ n3_ n4_ n5_ n6_ n7_; (try clear hb); (try clear hb2); (try clear hk); (try clear hi)) | ((with_reducible refine gate_dst (N := 40) rfl ?_); (try (refine gate_guard (by rfl) ?_; dsimp only)); refine box_event ?hg (N := 40) ?hd (cs := #[.string (⟨#[]⟩ : ByteArray), .int .i64 0]) (t := 28) ?hr ?_; (case hd => rfl); (case hg => rfl); (case hr => first | (go_simp; done) | (go_simp; rfl)); intro gb135 hg w180 hbox hb; have n0_ := Aside0.mk (blk_below (by apply_rules only [BK101.out, blk_drewN, blk_drew, blk_alloc]) hb); have n1_ := Aside0.mk (blk_below (by apply_rules only [BK102.out, blk_drewN, blk_drew, blk_alloc]) hb); have n2_ := Aside0.mk (blk_below (by apply_rules only [BK103.out, blk_drewN, blk_drew, blk_alloc]) hb); have n3_ := Aside0.mk (blk_below (by apply_rules only [BK107.out, blk_drewN, blk_drew, blk_alloc]) hb); have n4_ := Aside0.mk (blk_below (by apply_rules only [BK111.out, blk_drewN, blk_drew, blk_alloc]) hb); have n5_ := Aside0.mk (blk_below (by apply_rules only [BK118.out, blk_drewN, blk_drew, blk_alloc]) hb); have n6_ := Aside0.mk (blk_below (by apply_rules only [BK122.out, blk_drewN, blk_drew, blk_alloc]) hb); have n7_ := Aside0.mk (below_step (by apply_rules only [HB.out, below_alloc, pw_below_drewN, below_drew1, below_set, GE101.out, GE102.out, GE103.out, GE107.out, GE111.out, GE118.out, GE122.out]) hb); have n8_ := Aside0.mk (hbox); have n9_ := Aside0.mk ((by rw [hg]; exact (below_size (by apply_rules only [HB.out, below_alloc, pw_below_drewN, below_drew1, below_set, GE101.out, GE102.out, GE103.out, GE107.out, GE111.out, GE118.out, GE122.out])) : w.heap.size ≤ gb135)); have n10_ := Aside0.mk ((by rw [hg]; exact (below_size (by apply_rules only [HB.out, below_alloc, pw_below_drewN, below_drew1, below_set, GE101.out, GE102.out, GE103.out, GE107.out, GE111.out, GE118.out, GE122.out])) : w.heap.size ≤ gb135)); have n11_ := Aside0.mk ((by rw [hg]; exact Nat.ne_of_lt (blk_lt (g := gb101) (o := .cells #[.string a3_0, .int .i64 a3_1] 28 (0, 0)) (by apply_rules only [BK101.out, blk_drewN, blk_drew, blk_alloc])) : gb101 ≠ gb135)); have n12_ := Aside0.mk ((by rw [hg]; exact Nat.ne_of_gt (blk_lt (g := gb101) (o := .cells #[.string a3_0, .int .i64 a3_1] 28 (0, 0)) (by apply_rules only [BK101.out, blk_drewN, blk_drew, blk_alloc])) : gb135 ≠ gb101)); have n13_ := Aside0.mk ((by rw [hg]; exact Nat.ne_of_lt (blk_lt (g := gb102) (o := .cells #[.string a4_0, .int .i64 a4_1] 28 (0, 0)) (by apply_rules only [BK102.out, blk_drewN, blk_drew, blk_alloc])) : gb102 ≠ gb135)); have n14_ := Aside0.mk ((by rw [hg]; exact Nat.ne_of_gt (blk_lt (g := gb102) (o := .cells #[.string a4_0, .int .i64 a4_1] 28 (0, 0)) (by apply_rules only [BK102.out, blk_drewN, blk_drew, blk_alloc])) : gb135 ≠ gb102)); have n15_ := Aside0.mk ((by rw [hg]; exact Nat.ne_of_lt (blk_lt (g := gb103) (o := .cells #[.string a7_0, .int .i64 a7_1] 28 (0, 0)) (by apply_rules only [BK103.out, blk_drewN, blk_drew, blk_alloc])) : gb103 ≠ gb135)); have n16_ := Aside0.mk ((by rw [hg]; exact Nat.ne_of_gt (blk_lt (g := gb103) (o := .cells #[.string a7_0, .int .i64 a7_1] 28 (0, 0)) (by apply_rules only [BK103.out, blk_drewN, blk_drew, blk_alloc])) : gb135 ≠ gb103)); have n17_ := Aside0.mk ((by rw [hg]; exact Nat.ne_of_lt (blk_lt (g := gb107) (o := .cells #[.string t104, .int .i64 t105] 28 (0, 0)) (by apply_rules only [BK107.out, blk_drewN, blk_drew, blk_alloc])) : gb107 ≠ gb135)); have n18_ := Aside0.mk ((by rw [hg]; exact Nat.ne_of_gt (blk_lt (g := gb107) (o := .cells #[.string t104, .int .i64 t105] 28 (0, 0)) (by apply_rules only [BK107.out, blk_drewN, blk_drew, blk_alloc])) : gb135 ≠ gb107)); have n19_ := Aside0.mk ((by rw [hg]; exact Nat.ne_of_lt (blk_lt (g := gb111) (o := .cells #[.string t108, .int .i64 t109] 28 (0, 0)) (by apply_rules only [BK111.out, blk_drewN, blk_drew, blk_alloc])) : gb111 ≠ gb135)); have n20_ := Aside0.mk ((by rw [hg]; exact Nat.ne_of_gt (blk_lt (g := gb111) (o := .cells #[.string t108, .int .i64 t109] 28 (0, 0)) (by apply_rules only [BK111.out, blk_drewN, blk_drew, blk_alloc])) : gb135 ≠ gb111)); have n21_ := Aside0.mk ((by rw [hg]; exact Nat.ne_of_lt (blk_lt (g := gb118) (o := .cells #[.string t115, .int .i64 t116] 28 (0, 0)) (by apply_rules only [BK118.out, blk_drewN, blk_drew, blk_alloc])) : gb118 ≠ gb135)); have n22_ := Aside0.mk ((by rw [hg]; exact Nat.ne_of_gt (blk_lt (g := gb118) (o := .cells #[.string t115, .int .i64 t116] 28 (0, 0)) (by apply_rules only [BK118.out, blk_drewN, blk_drew, blk_alloc])) : gb135 ≠ gb118)); have n23_ := Aside0.mk ((by rw [hg]; exact Nat.ne_of_lt (blk_lt (g := gb122) (o := .cells #[.string t119, .int .i64 t120] 28 (0, 0)) (by apply_rules only [BK122.out, blk_drewN, blk_drew, blk_alloc])) : gb122 ≠ gb135)); have n24_ := Aside0.mk ((by rw [hg]; exact Nat.ne_of_gt (blk_lt (g := gb122) (o := .cells #[.string t119, .int .i64 t120] 28 (0, 0)) (by apply_rules only [BK122.out, blk_drewN, blk_drew, blk_alloc])) : gb135 ≠ gb122)); clear BK101; clear BK102; clear BK103; clear BK107; clear BK111; clear BK118; clear BK122; clear HB; have BK101 := n0_; have BK102 := n1_; have BK103 := n2_; have BK107 := n3_; have BK111 := n4_; have BK118 := n5_; have BK122 := n6_; have HB := n7_; have BK135 := n8_; have GW135 := n9_; have GE135 := n10_; have NB101_135 := n11_; have NB135_101 := n12_; have NB102_135 := n13_; have NB135_102 := n14_; have NB103_135 := n15_; have NB135_103 := n16_; have NB107_135 := n17_; have NB135_107 := n18_; have NB111_135 := n19_; have NB135_111 := n20_; have NB118_135 := n21_; have NB135_118 := n22_; have NB122_135 := n23_; have NB135_122 := n24_; clear n0_ n1_ n2_ n3_ n4_ n5_ n6_ n7_ n8_ n9_ n10_ n11_ n12_ n13_ n14_ n15_ n16_ n17_ n18_ n19_ n20_ n21_ n22_ n23_ n24_; clear hb hbox hg; have hnb181 := NB135_101.out; have hnc181 := NB101_135.out; have hnb182 := NB135_102.out; have hnc182 := NB102_135.out; have hnb183 := NB135_103.out; have hnc183 := NB103_135.out; have hnb184 := NB135_107.out; have hnc184 := NB107_135.out; have hnb185 := NB135_111.out; have hnc185 := NB111_135.out; have hnb186 := NB135_118.out; have hnc186 := NB118_135.out; have hnb187 := NB135_122.out; have hnc187 := NB122_135.out; have hcz188_0 : w180.cell? ⟨gb135, 0, none⟩ = some (.string (⟨#[]⟩ : ByteArray)) := (blk_cell BK135.out 0).trans rfl; have hcz188_1 : w180.cell? ⟨gb135, 1, none⟩ = some (.int .i64 0) := (blk_cell BK135.out 1).trans rfl; have hfz188_0 := blk_frozen BK135.out 0; have hfz188_1 := blk_frozen BK135.out 1) | ((with_reducible refine gate_callee (f := 30) rfl ?_); refine goesL_ (some 202) rfl rfl Tryd.func30 (by kernel_rfl) rfl #[.agg #[.string t132, .int .i64 t133]] rfl (by (try simp only [List.map_toArray, List.map_cons, List.map_nil]); first | done | rfl | (simp only [List.length_drop, List.length_take]; rfl)) ?_; (with_reducible refine (impl_CountAnswers.calls k6 t132 t133 t136 true _ A164.out).mono ?_); rintro e w189 ⟨rfl, hb⟩; refine ⟨_, rfl, ?_⟩; have n0_ := Aside0.mk (blk_below (g := gb101) (o := .cells #[.string a3_0, .int .i64 a3_1] 28 (0, 0)) (by (with_reducible repeat (first | refine blk_drewN ?_ _ | refine blk_drew ?_ | refine blk_alloc ?_ _)); refine blk_far ?_ NB101_135.out _; (with_reducible repeat (first | refine blk_drewN ?_ _ | refine blk_drew ?_ | refine blk_alloc ?_ _)); refine blk_far ?_ NB101_135.out _; apply_rules only [BK101.out, blk_drewN, blk_drew, blk_alloc]) hb); have n1_ := Aside0.mk (blk_below (g := gb102) (o := .cells #[.string a4_0, .int .i64 a4_1] 28 (0, 0)) (by (with_reducible repeat (first | refine blk_drewN ?_ _ | refine blk_drew ?_ | refine blk_alloc ?_ _)); refine blk_far ?_ NB102_135.out _; (with_reducible repeat (first | refine blk_drewN ?_ _ | refine blk_drew ?_ | refine blk_alloc ?_ _)); refine blk_far ?_ NB102_135.out _; apply_rules only [BK102.out, blk_drewN, blk_drew, blk_alloc]) hb); have n2_ := Aside0.mk (blk_below (g := gb103) (o := .cells #[.string a7_0, .int .i64 a7_1] 28 (0, 0)) (by (with_reducible repeat (first | refine blk_drewN ?_ _ | refine blk_drew ?_ | refine blk_alloc ?_ _)); refine blk_far ?_ NB103_135.out _; (with_reducible repeat (first | refine blk_drewN ?_ _ | refine blk_drew ?_ | refine blk_alloc ?_ _)); refine blk_far ?_ NB103_135.out _; apply_rules only [BK103.out, blk_drewN, blk_drew, blk_alloc]) hb); have n3_ := Aside0.mk (blk_below (g := gb107) (o := .cells #[.string t104, .int .i64 t105] 28 (0, 0)) (by (with_reducible repeat (first | refine blk_drewN ?_ _ | refine blk_drew ?_ | refine blk_alloc ?_ _)); refine blk_far ?_ NB107_135.out _; (with_reducible repeat (first | refine blk_drewN ?_ _ | refine blk_drew ?_ | refine blk_alloc ?_ _)); refine blk_far ?_ NB107_135.out _; apply_rules only [BK107.out, blk_drewN, blk_drew, blk_alloc]) hb); have n4_ := Aside0.mk (blk_below (g := gb111) (o := .cells #[.string t108, .int .i64 t109] 28 (0, 0)) (by (with_reducible repeat (first | refine blk_drewN ?_ _ | refine blk_drew ?_ | refine blk_alloc ?_ _)); refine blk_far ?_ NB111_135.out _; (with_reducible repeat (first | refine blk_drewN ?_ _ | refine blk_drew ?_ | refine blk_alloc ?_ _)); refine blk_far ?_ NB111_135.out _; apply_rules only [BK111.out, blk_drewN, blk_drew, blk_alloc]) hb); have n5_ := Aside0.mk (blk_below (g := gb118) (o := .cells #[.string t115, .int .i64 t116] 28 (0, 0)) (by (with_reducible repeat (first | refine blk_drewN ?_ _ | refine blk_drew ?_ | refine blk_alloc ?_ _)); refine blk_far ?_ NB118_135.out _; (with_reducible repeat (first | refine blk_drewN ?_ _ | refine blk_drew ?_ | refine blk_alloc ?_ _)); refine blk_far ?_ NB118_135.out _; apply_rules only [BK118.out, blk_drewN, blk_drew, blk_alloc]) hb); have n6_ := Aside0.mk (blk_below (g := gb122) (o := .cells #[.string t119, .int .i64 t120] 28 (0, 0)) (by (with_reducible repeat (first | refine blk_drewN ?_ _ | refine blk_drew ?_ | refine blk_alloc ?_ _)); refine blk_far ?_ NB122_135.out _; (with_reducible repeat (first | refine blk_drewN ?_ _ | refine blk_drew ?_ | refine blk_alloc ?_ _)); refine blk_far ?_ NB122_135.out _; apply_rules only [BK122.out, blk_drewN, blk_drew, blk_alloc]) hb); have n7_ := Aside0.mk (blk_below (g := gb135) (o := .cells #[.string t132, .int .i64 t133] 28 (0, 0)) (by (with_reducible repeat (first | refine blk_drewN ?_ _ | refine blk_drew ?_ | refine blk_alloc ?_ _)); refine blk_put (cs := #[.string t132, .int .i64 0]) ?_ 1 _ rfl; (with_reducible repeat (first | refine blk_drewN ?_ _ | refine blk_drew ?_ | refine blk_alloc ?_ _)); refine blk_put (cs := #[.string (⟨#[]⟩ : ByteArray), .int .i64 0]) ?_ 0 _ rfl; apply_rules only [BK135.out, blk_drewN, blk_drew, blk_alloc]) hb); have n8_ := Aside0.mk (below_step (by apply_rules only [HB.out, below_alloc, pw_below_drewN, below_drew1, below_set, GE101.out, GE102.out, GE103.out, GE107.out, GE111.out, GE118.out, GE122.out, GE135.out]) hb); clear BK101; clear BK102; clear BK103; clear BK107; clear BK111; clear BK118; clear BK122; clear BK135; clear HB; have BK101 := n0_; have BK102 := n1_; have BK103 := n2_; have BK107 := n3_; have BK111 := n4_; have BK118 := n5_; have BK122 := n6_; have BK135 := n7_; have HB := n8_; clear n0_ n1_ n2_ n3_ n4_ n5_ n6_ n7_ n8_; (try clear hb); (try clear hb2); (try clear hk); (try clear hi)))
                            have n0_ := Aside0.mk (blk_drew BK101.out)
                            have n1_ := Aside0.mk (blk_drew BK102.out)
                            have n2_ := Aside0.mk (blk_drew BK103.out)
                            have n3_ := Aside0.mk (blk_drew BK107.out)
                            have n4_ := Aside0.mk (blk_drew BK111.out)
                            have n5_ := Aside0.mk (blk_drew BK118.out)
                            have n6_ := Aside0.mk (blk_drew BK122.out)
                            have n7_ := Aside0.mk (blk_drew BK135.out)
                            have n8_ := Aside0.mk (below_drew1 HB.out)
                            clear BK101
                            clear BK102
                            clear BK103
                            clear BK107
                            clear BK111
                            clear BK118
                            clear BK122
                            clear BK135
                            clear HB
                            have BK101 := n0_
                            have BK102 := n1_
                            have BK103 := n2_
                            have BK107 := n3_
                            have BK111 := n4_
                            have BK118 := n5_
                            have BK122 := n6_
                            have BK135 := n7_
                            have HB := n8_
                            clear n0_ n1_ n2_ n3_ n4_ n5_ n6_ n7_ n8_
                            have p165 : 0 ≤ ((ji151) : Int) := of_decide_eq_true (by first | (with_reducible assumption) | assumption)
                            have q165 : (ji151) < (t115.size : Int) := of_decide_eq_true (by first | (with_reducible assumption) | assumption)
                            have hx165 := bt_at t115 (ji151)
                            replace p165 := eq_true p165
                            replace q165 := eq_true q165
                            have p167 : 0 ≤ ((ji151) : Int) := of_decide_eq_true (by first | (with_reducible assumption) | assumption)
                            have q167 : (ji151) < (a3_0.size : Int) := of_decide_eq_true (by first | (with_reducible assumption) | assumption)
                            have hx167 := bt_at a3_0 (ji151)
                            replace p167 := eq_true p167
                            replace q167 := eq_true q167
                            refine start_ (n := 22) (S := fun w' => w'.cell? ⟨gb118, 0, none⟩ = some (.string t115) ∧ w'.cell? ⟨gb118, 1, none⟩ = some (.int .i64 t116) ∧ w'.cell? ⟨gb101, 0, none⟩ = some (.string a3_0) ∧ w'.cell? ⟨gb101, 1, none⟩ = some (.int .i64 a3_1)) (ds := []) #[false, false, false, false, false, false, false, false, false, false, false, false, false, false, false, false, false, false, false, false, false, false] (by kernel_rfl) rfl rfl ⟨(blk_cell BK118.out 0).trans rfl, (blk_cell BK118.out 1).trans rfl, (blk_cell BK101.out 0).trans rfl, (blk_cell BK101.out 1).trans rfl⟩ (fun hHeld => ?_); refine with_tabW laws_FnPuzzlesSievedOfAll.tab26 laws_FnPuzzlesSievedOfAll.bits26 (fun HT_ HW_ => ?_)
                            generalize w189.drew = w190 at BK101 BK102 BK103 BK107 BK111 BK118 BK122 BK135 HB hHeld ⊢
                            refine pure_ (i := 0) (N := some 205) (v := ?_) (a' := ?_) #[true, false, false, false, false, false, false, false, false, false, false, false, false, false, false, false, false, false, false, false, false, false] rfl rfl (any_of HT_.out (by kernel_rfl)) (fun _ _ _ h => h) (Or.inl ⟨by rfl, ?_⟩) ?_ ?_
                            rotate_left
                            ·intro w'
                             go_simp
                             with_reducible rfl
                            rotate_left
                            ·simp only [Act.put, List.setIfInBounds_toArray, List.set_cons_zero, List.set_cons_succ, i64_w, i32_w]
                             rfl
                            refine pure_ (i := 2) (N := some 207) (v := ?_) (a' := ?_) #[true, false, true, false, false, false, false, false, false, false, false, false, false, false, false, false, false, false, false, false, false, false] rfl rfl (any_of HT_.out (by kernel_rfl)) (fun _ _ _ h => h) (Or.inl ⟨by rfl, ?_⟩) ?_ ?_
                            rotate_left
                            ·intro w'
                             go_simp
                             with_reducible rfl
                            rotate_left
                            ·simp only [Act.put, List.setIfInBounds_toArray, List.set_cons_zero, List.set_cons_succ, i64_w, i32_w]
                             rfl
                            refine pure_ (i := 3) (N := some 208) (v := ?_) (a' := ?_) #[true, false, true, true, false, false, false, false, false, false, false, false, false, false, false, false, false, false, false, false, false, false] rfl rfl (any_of HT_.out (by kernel_rfl)) (fun _ _ _ h => h) (Or.inl ⟨by rfl, ?_⟩) ?_ ?_
                            rotate_left
                            ·intro w'
                             go_simp
                             with_reducible rfl
                            rotate_left
                            ·simp only [Act.put, List.setIfInBounds_toArray, List.set_cons_zero, List.set_cons_succ, i64_w, i32_w]
                             rfl
                            refine pure_ (i := 5) (N := some 210) (v := ?_) (a' := ?_) #[true, false, true, true, false, true, false, false, false, false, false, false, false, false, false, false, false, false, false, false, false, false] rfl rfl (any_of HT_.out (by kernel_rfl)) (fun _ _ _ h => h) (Or.inl ⟨by rfl, ?_⟩) ?_ ?_
                            rotate_left
                            ·intro w'
                             go_simp
                             with_reducible rfl
                            rotate_left
                            ·simp only [Act.put, List.setIfInBounds_toArray, List.set_cons_zero, List.set_cons_succ, i64_w, i32_w]
                             rfl
                            refine pure_ (i := 7) (N := some 212) (v := ?_) (a' := ?_) #[true, false, true, true, false, true, false, true, false, false, false, false, false, false, false, false, false, false, false, false, false, false] rfl rfl (any_of HT_.out (by kernel_rfl)) (fun _ _ _ h => h) (Or.inl ⟨by rfl, ?_⟩) ?_ ?_
                            rotate_left
                            ·intro w'
                             go_simp
                             with_reducible rfl
                            rotate_left
                            ·simp only [Act.put, List.setIfInBounds_toArray, List.set_cons_zero, List.set_cons_succ, i64_w, i32_w]
                             rfl
                            refine pure_ (i := 8) (N := some 213) (v := ?_) (a' := ?_) #[true, false, true, true, false, true, false, true, true, false, false, false, false, false, false, false, false, false, false, false, false, false] rfl rfl (any_of HT_.out (by kernel_rfl)) (fun _ _ _ h => h) (Or.inl ⟨by rfl, ?_⟩) ?_ ?_
                            rotate_left
                            ·intro w'
                             go_simp
                             with_reducible rfl
                            rotate_left
                            ·simp only [Act.put, List.setIfInBounds_toArray, List.set_cons_zero, List.set_cons_succ, i64_w, i32_w]
                             rfl
                            refine take_ (i := 1) (N := some 206) (v := ?_) (a' := ?_) #[true, true, true, true, false, true, false, true, true, false, false, false, false, false, false, false, false, false, false, false, false, false] rfl rfl (take_ofW HT_.out HW_.out (by kernel_rfl)) (fun _ _ _ h => h) (Or.inl ⟨by rfl, ?_⟩) hHeld ?_ ?_
                            rotate_left
                            ·rintro w' ⟨s0, s1, s2, s3⟩
                             go_simp
                             with_reducible rfl
                            rotate_left
                            ·simp only [Act.put, List.setIfInBounds_toArray, List.set_cons_zero, List.set_cons_succ, i64_w, i32_w]
                             rfl
                            refine take_ (i := 4) (N := some 209) (v := ?_) (a' := ?_) #[true, true, true, true, true, true, false, true, true, false, false, false, false, false, false, false, false, false, false, false, false, false] rfl rfl (take_ofW HT_.out HW_.out (by kernel_rfl)) (fun _ _ _ h => h) (Or.inl ⟨by rfl, ?_⟩) hHeld ?_ ?_
                            rotate_left
                            ·rintro w' ⟨s0, s1, s2, s3⟩
                             go_simp
                             with_reducible rfl
                            rotate_left
                            ·simp only [Act.put, List.setIfInBounds_toArray, List.set_cons_zero, List.set_cons_succ, i64_w, i32_w]
                             rfl
                            refine take_ (i := 6) (N := some 211) (v := ?_) (a' := ?_) #[true, true, true, true, true, true, true, true, true, false, false, false, false, false, false, false, false, false, false, false, false, false] rfl rfl (take_ofW HT_.out HW_.out (by kernel_rfl)) (fun _ _ _ h => h) (Or.inl ⟨by rfl, ?_⟩) hHeld ?_ ?_
                            rotate_left
                            ·rintro w' ⟨s0, s1, s2, s3⟩
                             go_simp
                             with_reducible rfl
                            rotate_left
                            ·simp only [Act.put, List.setIfInBounds_toArray, List.set_cons_zero, List.set_cons_succ, i64_w, i32_w]
                             rfl
                            refine take_ (i := 9) (N := some 214) (v := ?_) (a' := ?_) #[true, true, true, true, true, true, true, true, true, true, false, false, false, false, false, false, false, false, false, false, false, false] rfl rfl (take_ofW HT_.out HW_.out (by kernel_rfl)) (fun _ _ _ h => h) (Or.inl ⟨by rfl, ?_⟩) hHeld ?_ ?_
                            rotate_left
                            ·rintro w' ⟨s0, s1, s2, s3⟩
                             go_simp
                             with_reducible rfl
                            rotate_left
                            ·simp only [Act.put, List.setIfInBounds_toArray, List.set_cons_zero, List.set_cons_succ, i64_w, i32_w]
                             rfl
                            refine pure_ (i := 10) (N := some 215) (v := ?_) (a' := ?_) #[true, true, true, true, true, true, true, true, true, true, true, false, false, false, false, false, false, false, false, false, false, false] rfl rfl (any_of HT_.out (by kernel_rfl)) (fun _ _ _ h => h) (Or.inl ⟨by rfl, ?_⟩) ?_ ?_
                            rotate_left
                            ·intro w'
                             go_simp
                             with_reducible rfl
                            rotate_left
                            ·simp only [Act.put, List.setIfInBounds_toArray, List.set_cons_zero, List.set_cons_succ, i64_w, i32_w]
                             rfl
                            refine pure_ (i := 11) (N := some 216) (v := ?_) (a' := ?_) #[true, true, true, true, true, true, true, true, true, true, true, true, false, false, false, false, false, false, false, false, false, false] rfl rfl (any_of HT_.out (by kernel_rfl)) (fun _ _ _ h => h) (Or.inl ⟨by rfl, ?_⟩) ?_ ?_
                            rotate_left
                            ·intro w'
                             go_simp
                             with_reducible rfl
                            rotate_left
                            ·simp only [Act.put, List.setIfInBounds_toArray, List.set_cons_zero, List.set_cons_succ, i64_w, i32_w]
                             rfl
                            refine pure_ (i := 12) (N := some 217) (v := ?_) (a' := ?_) #[true, true, true, true, true, true, true, true, true, true, true, true, true, false, false, false, false, false, false, false, false, false] rfl rfl (any_of HT_.out (by kernel_rfl)) (fun _ _ _ h => h) (Or.inl ⟨by rfl, ?_⟩) ?_ ?_
                            rotate_left
                            ·intro w'
                             go_simp
                             with_reducible rfl
                            rotate_left
                            ·simp only [Act.put, List.setIfInBounds_toArray, List.set_cons_zero, List.set_cons_succ, i64_w, i32_w]
                             rfl
                            refine pure_ (i := 13) (N := some 218) (v := ?_) (a' := ?_) #[true, true, true, true, true, true, true, true, true, true, true, true, true, true, false, false, false, false, false, false, false, false] rfl rfl (any_of HT_.out (by kernel_rfl)) (fun _ _ _ h => h) (Or.inl ⟨by rfl, ?_⟩) ?_ ?_
                            rotate_left
                            ·intro w'
                             go_simp
                             with_reducible rfl
                            rotate_left
                            ·simp only [Act.put, List.setIfInBounds_toArray, List.set_cons_zero, List.set_cons_succ, i64_w, i32_w]
                             rfl
                            refine pure_ (i := 14) (N := some 219) (v := ?_) (a' := ?_) #[true, true, true, true, true, true, true, true, true, true, true, true, true, true, true, false, false, false, false, false, false, false] rfl rfl (any_of HT_.out (by kernel_rfl)) (fun _ _ _ h => h) (Or.inl ⟨by rfl, ?_⟩) ?_ ?_
                            rotate_left
                            ·intro w'
                             go_simp
                             with_reducible rfl
                            rotate_left
                            ·simp only [Act.put, List.setIfInBounds_toArray, List.set_cons_zero, List.set_cons_succ, i64_w, i32_w]
                             rfl
                            refine pure_ (i := 15) (N := some 220) (v := ?_) (a' := ?_) #[true, true, true, true, true, true, true, true, true, true, true, true, true, true, true, true, false, false, false, false, false, false] rfl rfl (any_of HT_.out (by kernel_rfl)) (fun _ _ _ h => h) (Or.inl ⟨by rfl, ?_⟩) ?_ ?_
                            rotate_left
                            ·intro w'
                             go_simp
                             with_reducible rfl
                            rotate_left
                            ·simp only [Act.put, List.setIfInBounds_toArray, List.set_cons_zero, List.set_cons_succ, i64_w, i32_w]
                             rfl
                            refine pure_ (i := 16) (N := some 221) (v := ?_) (a' := ?_) #[true, true, true, true, true, true, true, true, true, true, true, true, true, true, true, true, true, false, false, false, false, false] rfl rfl (any_of HT_.out (by kernel_rfl)) (fun _ _ _ h => h) (Or.inl ⟨by rfl, ?_⟩) ?_ ?_
                            rotate_left
                            ·intro w'
                             go_simp
                             with_reducible rfl
                            rotate_left
                            ·simp only [Act.put, List.setIfInBounds_toArray, List.set_cons_zero, List.set_cons_succ, i64_w, i32_w]
                             rfl
                            refine pure_ (i := 17) (N := some 222) (v := ?_) (a' := ?_) #[true, true, true, true, true, true, true, true, true, true, true, true, true, true, true, true, true, true, false, false, false, false] rfl rfl (any_of HT_.out (by kernel_rfl)) (fun _ _ _ h => h) (Or.inl ⟨by rfl, ?_⟩) ?_ ?_
                            rotate_left
                            ·intro w'
                             go_simp
                             with_reducible rfl
                            rotate_left
                            ·simp only [Act.put, List.setIfInBounds_toArray, List.set_cons_zero, List.set_cons_succ, i64_w, i32_w]
                             rfl
                            refine pure_ (i := 18) (N := some 223) (v := ?_) (a' := ?_) #[true, true, true, true, true, true, true, true, true, true, true, true, true, true, true, true, true, true, true, false, false, false] rfl rfl (any_of HT_.out (by kernel_rfl)) (fun _ _ _ h => h) (Or.inl ⟨by rfl, ?_⟩) ?_ ?_
                            rotate_left
                            ·intro w'
                             go_simp
                             with_reducible rfl
                            rotate_left
                            ·simp only [Act.put, List.setIfInBounds_toArray, List.set_cons_zero, List.set_cons_succ, i64_w, i32_w]
                             rfl
                            refine pure_ (i := 19) (N := some 224) (v := ?_) (a' := ?_) #[true, true, true, true, true, true, true, true, true, true, true, true, true, true, true, true, true, true, true, true, false, false] rfl rfl (any_of HT_.out (by kernel_rfl)) (fun _ _ _ h => h) (Or.inl ⟨by rfl, ?_⟩) ?_ ?_
                            rotate_left
                            ·intro w'
                             go_simp
                             with_reducible rfl
                            rotate_left
                            ·simp only [Act.put, List.setIfInBounds_toArray, List.set_cons_zero, List.set_cons_succ, i64_w, i32_w]
                             rfl
                            refine pure_ (i := 20) (N := some 225) (v := ?_) (a' := ?_) #[true, true, true, true, true, true, true, true, true, true, true, true, true, true, true, true, true, true, true, true, true, false] rfl rfl (any_of HT_.out (by kernel_rfl)) (fun _ _ _ h => h) (Or.inl ⟨by rfl, ?_⟩) ?_ ?_
                            rotate_left
                            ·intro w'
                             go_simp
                             with_reducible rfl
                            rotate_left
                            ·simp only [Act.put, List.setIfInBounds_toArray, List.set_cons_zero, List.set_cons_succ, i64_w, i32_w]
                             rfl
                            refine pure_ (i := 21) (N := some 226) (v := ?_) (a' := ?_) #[true, true, true, true, true, true, true, true, true, true, true, true, true, true, true, true, true, true, true, true, true, true] rfl rfl (any_of HT_.out (by kernel_rfl)) (fun _ _ _ h => h) (Or.inl ⟨by rfl, ?_⟩) ?_ ?_
                            rotate_left
                            ·intro w'
                             go_simp
                             with_reducible rfl
                            rotate_left
                            ·simp only [Act.put, List.setIfInBounds_toArray, List.set_cons_zero, List.set_cons_succ, i64_w, i32_w]
                             rfl
                            refine done_ (done_of HT_.out (by kernel_rfl)) ?_
                            try go_wp2
                            go_roundg k6
                            case measure => have := HJ12.out; have := HJ20.out; have := HJ45.out; have := HJ65.out; have := HJ108.out; have := HK6.out; omega
                            case rel => exact ⟨(wrap64 (x39_6 + 1)), (by first | rfl | (simp; done) | (simp [*]; done)), H', ⟨by have := HJ12.out; have := HJ20.out; have := HJ45.out; have := HJ65.out; have := HJ108.out; have := HK6.out; omega⟩, ⟨by apply_rules only [BK101.out, blk_drewN, blk_drew, blk_alloc]⟩, ⟨by apply_rules only [BK102.out, blk_drewN, blk_drew, blk_alloc]⟩, ⟨by apply_rules only [BK103.out, blk_drewN, blk_drew, blk_alloc]⟩, ⟨by apply_rules only [BK107.out, blk_drewN, blk_drew, blk_alloc]⟩, ⟨by apply_rules only [BK111.out, blk_drewN, blk_drew, blk_alloc]⟩, ⟨by apply_rules only [BK118.out, blk_drewN, blk_drew, blk_alloc]⟩, ⟨by apply_rules only [BK122.out, blk_drewN, blk_drew, blk_alloc]⟩, ⟨by apply_rules only [HB.out, below_alloc, pw_below_drewN, below_drew1, below_set, GE101.out, GE102.out, GE103.out, GE107.out, GE111.out, GE118.out, GE122.out, GE135.out]⟩⟩
                          ·replace c170 := Bool.eq_false_iff.mpr c170
                           subst c170
                           rw [if_neg (show ¬ (false = true) by decide)] at H
                           have H' := Aside0.mk H
                           clear H
                           have hnb191 := NB118_101.out
                           have hnc191 := NB101_118.out
                           have hnb192 := NB118_102.out
                           have hnc192 := NB102_118.out
                           have hnb193 := NB118_103.out
                           have hnc193 := NB103_118.out
                           have hnb194 := NB118_107.out
                           have hnc194 := NB107_118.out
                           have hnb195 := NB118_111.out
                           have hnc195 := NB111_118.out
                           have hnb196 := NB118_122.out
                           have hnc196 := NB122_118.out
                           have hcz197_0 : wr.cell? ⟨gb118, 0, none⟩ = some (.string t115) := (blk_cell BK118.out 0).trans rfl
                           have hcz197_1 : wr.cell? ⟨gb118, 1, none⟩ = some (.int .i64 t116) := (blk_cell BK118.out 1).trans rfl
                           have hfz197_0 := blk_frozen BK118.out 0
                           have hfz197_1 := blk_frozen BK118.out 1
                           have p154 : 0 ≤ ((ji151) : Int) := of_decide_eq_true (by first | (with_reducible assumption) | assumption)
                           have q154 : (ji151) < (t115.size : Int) := of_decide_eq_true (by first | (with_reducible assumption) | assumption)
                           have hx154 := bt_at t115 (ji151)
                           replace p154 := eq_true p154
                           replace q154 := eq_true q154
                           try go_wp2_with (first | ((with_reducible refine gate_callee (f := 29) rfl ?_); refine goesL_ (some 197) rfl rfl Tryd.func29 (by kernel_rfl) rfl #[.agg #[.string t115, .int .i64 t116], .int .i64 x39_6] rfl (by (try simp only [List.map_toArray, List.map_cons, List.map_nil]); first | done | rfl | (simp only [List.length_drop, List.length_take]; rfl)) ?_; (with_reducible refine (impl_HideNumber.calls t115 t116 x39_6 t132 t133 true _ A163.out).mono ?_); rintro e w198 ⟨rfl, hb⟩; refine ⟨_, rfl, ?_⟩; have n0_ := Aside0.mk (blk_below (by apply_rules only [BK101.out, blk_drewN, blk_drew, blk_alloc]) hb); have n1_ := Aside0.mk (blk_below (by apply_rules only [BK102.out, blk_drewN, blk_drew, blk_alloc]) hb); have n2_ := Aside0.mk (blk_below (by apply_rules only [BK103.out, blk_drewN, blk_drew, blk_alloc]) hb); have n3_ := Aside0.mk (blk_below (by apply_rules only [BK107.out, blk_drewN, blk_drew, blk_alloc]) hb); have n4_ := Aside0.mk (blk_below (by apply_rules only [BK111.out, blk_drewN, blk_drew, blk_alloc]) hb); have n5_ := Aside0.mk (blk_below (by apply_rules only [BK118.out, blk_drewN, blk_drew, blk_alloc]) hb); have n6_ := Aside0.mk (blk_below (by apply_rules only [BK122.out, blk_drewN, blk_drew, blk_alloc]) hb); have n7_ := Aside0.mk (below_step (by apply_rules only [HB.out, below_alloc, pw_below_drewN, below_drew1, below_set, GE101.out, GE102.out, GE103.out, GE107.out, GE111.out, GE118.out, GE122.out]) hb); clear BK101; clear BK102; clear BK103; clear BK107; clear BK111; clear BK118; clear BK122; clear HB; have BK101 := n0_; have BK102 := n1_; have BK103 := n2_; have BK107 := n3_; have BK111 := n4_; have BK118 := n5_; have BK122 := n6_; have HB := n7_; clear n0_ n1_ n2_ n3_ n4_ n5_ n6_ n7_; (try clear hb); (try clear hb2); (try clear hk); (try clear hi)) | ((with_reducible refine gate_dst (N := 40) rfl ?_); (try (refine gate_guard (by rfl) ?_; dsimp only)); refine box_event ?hg (N := 40) ?hd (cs := #[.string (⟨#[]⟩ : ByteArray), .int .i64 0]) (t := 28) ?hr ?_; (case hd => rfl); (case hg => rfl); (case hr => first | (go_simp; done) | (go_simp; rfl)); intro gb135 hg w199 hbox hb; have n0_ := Aside0.mk (blk_below (by apply_rules only [BK101.out, blk_drewN, blk_drew, blk_alloc]) hb); have n1_ := Aside0.mk (blk_below (by apply_rules only [BK102.out, blk_drewN, blk_drew, blk_alloc]) hb); have n2_ := Aside0.mk (blk_below (by apply_rules only [BK103.out, blk_drewN, blk_drew, blk_alloc]) hb); have n3_ := Aside0.mk (blk_below (by apply_rules only [BK107.out, blk_drewN, blk_drew, blk_alloc]) hb); have n4_ := Aside0.mk (blk_below (by apply_rules only [BK111.out, blk_drewN, blk_drew, blk_alloc]) hb); have n5_ := Aside0.mk (blk_below (by apply_rules only [BK118.out, blk_drewN, blk_drew, blk_alloc]) hb); have n6_ := Aside0.mk (blk_below (by apply_rules only [BK122.out, blk_drewN, blk_drew, blk_alloc]) hb); have n7_ := Aside0.mk (below_step (by apply_rules only [HB.out, below_alloc, pw_below_drewN, below_drew1, below_set, GE101.out, GE102.out, GE103.out, GE107.out, GE111.out, GE118.out, GE122.out]) hb); have n8_ := Aside0.mk (hbox); have n9_ := Aside0.mk ((by rw [hg]; exact (below_size (by apply_rules only [HB.out, below_alloc, pw_below_drewN, below_drew1, below_set, GE101.out, GE102.out, GE103.out, GE107.out, GE111.out, GE118.out, GE122.out])) : w.heap.size ≤ gb135)); have n10_ := Aside0.mk ((by rw [hg]; exact (below_size (by apply_rules only [HB.out, below_alloc, pw_below_drewN, below_drew1, below_set, GE101.out, GE102.out, GE103.out, GE107.out, GE111.out, GE118.out, GE122.out])) : w.heap.size ≤ gb135)); have n11_ := Aside0.mk ((by rw [hg]; exact Nat.ne_of_lt (blk_lt (g := gb101) (o := .cells #[.string a3_0, .int .i64 a3_1] 28 (0, 0)) (by apply_rules only [BK101.out, blk_drewN, blk_drew, blk_alloc])) : gb101 ≠ gb135)); have n12_ := Aside0.mk ((by rw [hg]; exact Nat.ne_of_gt (blk_lt (g := gb101) (o := .cells #[.string a3_0, .int .i64 a3_1] 28 (0, 0)) (by apply_rules only [BK101.out, blk_drewN, blk_drew, blk_alloc])) : gb135 ≠ gb101)); have n13_ := Aside0.mk ((by rw [hg]; exact Nat.ne_of_lt (blk_lt (g := gb102) (o := .cells #[.string a4_0, .int .i64 a4_1] 28 (0, 0)) (by apply_rules only [BK102.out, blk_drewN, blk_drew, blk_alloc])) : gb102 ≠ gb135)); have n14_ := Aside0.mk ((by rw [hg]; exact Nat.ne_of_gt (blk_lt (g := gb102) (o := .cells #[.string a4_0, .int .i64 a4_1] 28 (0, 0)) (by apply_rules only [BK102.out, blk_drewN, blk_drew, blk_alloc])) : gb135 ≠ gb102)); have n15_ := Aside0.mk ((by rw [hg]; exact Nat.ne_of_lt (blk_lt (g := gb103) (o := .cells #[.string a7_0, .int .i64 a7_1] 28 (0, 0)) (by apply_rules only [BK103.out, blk_drewN, blk_drew, blk_alloc])) : gb103 ≠ gb135)); have n16_ := Aside0.mk ((by rw [hg]; exact Nat.ne_of_gt (blk_lt (g := gb103) (o := .cells #[.string a7_0, .int .i64 a7_1] 28 (0, 0)) (by apply_rules only [BK103.out, blk_drewN, blk_drew, blk_alloc])) : gb135 ≠ gb103)); have n17_ := Aside0.mk ((by rw [hg]; exact Nat.ne_of_lt (blk_lt (g := gb107) (o := .cells #[.string t104, .int .i64 t105] 28 (0, 0)) (by apply_rules only [BK107.out, blk_drewN, blk_drew, blk_alloc])) : gb107 ≠ gb135)); have n18_ := Aside0.mk ((by rw [hg]; exact Nat.ne_of_gt (blk_lt (g := gb107) (o := .cells #[.string t104, .int .i64 t105] 28 (0, 0)) (by apply_rules only [BK107.out, blk_drewN, blk_drew, blk_alloc])) : gb135 ≠ gb107)); have n19_ := Aside0.mk ((by rw [hg]; exact Nat.ne_of_lt (blk_lt (g := gb111) (o := .cells #[.string t108, .int .i64 t109] 28 (0, 0)) (by apply_rules only [BK111.out, blk_drewN, blk_drew, blk_alloc])) : gb111 ≠ gb135)); have n20_ := Aside0.mk ((by rw [hg]; exact Nat.ne_of_gt (blk_lt (g := gb111) (o := .cells #[.string t108, .int .i64 t109] 28 (0, 0)) (by apply_rules only [BK111.out, blk_drewN, blk_drew, blk_alloc])) : gb135 ≠ gb111)); have n21_ := Aside0.mk ((by rw [hg]; exact Nat.ne_of_lt (blk_lt (g := gb118) (o := .cells #[.string t115, .int .i64 t116] 28 (0, 0)) (by apply_rules only [BK118.out, blk_drewN, blk_drew, blk_alloc])) : gb118 ≠ gb135)); have n22_ := Aside0.mk ((by rw [hg]; exact Nat.ne_of_gt (blk_lt (g := gb118) (o := .cells #[.string t115, .int .i64 t116] 28 (0, 0)) (by apply_rules only [BK118.out, blk_drewN, blk_drew, blk_alloc])) : gb135 ≠ gb118)); have n23_ := Aside0.mk ((by rw [hg]; exact Nat.ne_of_lt (blk_lt (g := gb122) (o := .cells #[.string t119, .int .i64 t120] 28 (0, 0)) (by apply_rules only [BK122.out, blk_drewN, blk_drew, blk_alloc])) : gb122 ≠ gb135)); have n24_ := Aside0.mk ((by rw [hg]; exact Nat.ne_of_gt (blk_lt (g := gb122) (o := .cells #[.string t119, .int .i64 t120] 28 (0, 0)) (by apply_rules only [BK122.out, blk_drewN, blk_drew, blk_alloc])) : gb135 ≠ gb122)); clear BK101; clear BK102; clear BK103; clear BK107; clear BK111; clear BK118; clear BK122; clear HB; have BK101 := n0_; have BK102 := n1_; have BK103 := n2_; have BK107 := n3_; have BK111 := n4_; have BK118 := n5_; have BK122 := n6_; have HB := n7_; have BK135 := n8_; have GW135 := n9_; have GE135 := n10_; have NB101_135 := n11_; have NB135_101 := n12_; have NB102_135 := n13_; have NB135_102 := n14_; have NB103_135 := n15_; have NB135_103 := n16_; have NB107_135 := n17_; have NB135_107 := n18_; have NB111_135 := n19_; have NB135_111 := n20_; have NB118_135 := n21_; have NB135_118 := n22_; have NB122_135 := n23_; have NB135_122 := n24_; clear n0_ n1_ n2_ n3_ n4_ n5_ n6_ n7_ n8_ n9_ n10_ n11_ n12_ n13_ n14_ n15_ n16_ n17_ n18_ n19_ n20_ n21_ n22_ n23_ n24_; clear hb hbox hg; have hnb200 := NB135_101.out; have hnc200 := NB101_135.out; have hnb201 := NB135_102.out; have hnc201 := NB102_135.out; have hnb202 := NB135_103.out; have hnc202 := NB103_135.out; have hnb203 := NB135_107.out; have hnc203 := NB107_135.out; have hnb204 := NB135_111.out; have hnc204 := NB111_135.out; have hnb205 := NB135_118.out; have hnc205 := NB118_135.out; have hnb206 := NB135_122.out; have hnc206 := NB122_135.out; have hcz207_0 : w199.cell? ⟨gb135, 0, none⟩ = some (.string (⟨#[]⟩ : ByteArray)) := (blk_cell BK135.out 0).trans rfl; have hcz207_1 : w199.cell? ⟨gb135, 1, none⟩ = some (.int .i64 0) := (blk_cell BK135.out 1).trans rfl; have hfz207_0 := blk_frozen BK135.out 0; have hfz207_1 := blk_frozen BK135.out 1) | ((with_reducible refine gate_callee (f := 30) rfl ?_); refine goesL_ (some 202) rfl rfl Tryd.func30 (by kernel_rfl) rfl #[.agg #[.string t132, .int .i64 t133]] rfl (by (try simp only [List.map_toArray, List.map_cons, List.map_nil]); first | done | rfl | (simp only [List.length_drop, List.length_take]; rfl)) ?_; (with_reducible refine (impl_CountAnswers.calls k6 t132 t133 t136 false _ A164.out).mono ?_); rintro e w208 ⟨rfl, hb⟩; refine ⟨_, rfl, ?_⟩; have n0_ := Aside0.mk (blk_below (g := gb101) (o := .cells #[.string a3_0, .int .i64 a3_1] 28 (0, 0)) (by (with_reducible repeat (first | refine blk_drewN ?_ _ | refine blk_drew ?_ | refine blk_alloc ?_ _)); refine blk_far ?_ NB101_135.out _; (with_reducible repeat (first | refine blk_drewN ?_ _ | refine blk_drew ?_ | refine blk_alloc ?_ _)); refine blk_far ?_ NB101_135.out _; apply_rules only [BK101.out, blk_drewN, blk_drew, blk_alloc]) hb); have n1_ := Aside0.mk (blk_below (g := gb102) (o := .cells #[.string a4_0, .int .i64 a4_1] 28 (0, 0)) (by (with_reducible repeat (first | refine blk_drewN ?_ _ | refine blk_drew ?_ | refine blk_alloc ?_ _)); refine blk_far ?_ NB102_135.out _; (with_reducible repeat (first | refine blk_drewN ?_ _ | refine blk_drew ?_ | refine blk_alloc ?_ _)); refine blk_far ?_ NB102_135.out _; apply_rules only [BK102.out, blk_drewN, blk_drew, blk_alloc]) hb); have n2_ := Aside0.mk (blk_below (g := gb103) (o := .cells #[.string a7_0, .int .i64 a7_1] 28 (0, 0)) (by (with_reducible repeat (first | refine blk_drewN ?_ _ | refine blk_drew ?_ | refine blk_alloc ?_ _)); refine blk_far ?_ NB103_135.out _; (with_reducible repeat (first | refine blk_drewN ?_ _ | refine blk_drew ?_ | refine blk_alloc ?_ _)); refine blk_far ?_ NB103_135.out _; apply_rules only [BK103.out, blk_drewN, blk_drew, blk_alloc]) hb); have n3_ := Aside0.mk (blk_below (g := gb107) (o := .cells #[.string t104, .int .i64 t105] 28 (0, 0)) (by (with_reducible repeat (first | refine blk_drewN ?_ _ | refine blk_drew ?_ | refine blk_alloc ?_ _)); refine blk_far ?_ NB107_135.out _; (with_reducible repeat (first | refine blk_drewN ?_ _ | refine blk_drew ?_ | refine blk_alloc ?_ _)); refine blk_far ?_ NB107_135.out _; apply_rules only [BK107.out, blk_drewN, blk_drew, blk_alloc]) hb); have n4_ := Aside0.mk (blk_below (g := gb111) (o := .cells #[.string t108, .int .i64 t109] 28 (0, 0)) (by (with_reducible repeat (first | refine blk_drewN ?_ _ | refine blk_drew ?_ | refine blk_alloc ?_ _)); refine blk_far ?_ NB111_135.out _; (with_reducible repeat (first | refine blk_drewN ?_ _ | refine blk_drew ?_ | refine blk_alloc ?_ _)); refine blk_far ?_ NB111_135.out _; apply_rules only [BK111.out, blk_drewN, blk_drew, blk_alloc]) hb); have n5_ := Aside0.mk (blk_below (g := gb118) (o := .cells #[.string t115, .int .i64 t116] 28 (0, 0)) (by (with_reducible repeat (first | refine blk_drewN ?_ _ | refine blk_drew ?_ | refine blk_alloc ?_ _)); refine blk_far ?_ NB118_135.out _; (with_reducible repeat (first | refine blk_drewN ?_ _ | refine blk_drew ?_ | refine blk_alloc ?_ _)); refine blk_far ?_ NB118_135.out _; apply_rules only [BK118.out, blk_drewN, blk_drew, blk_alloc]) hb); have n6_ := Aside0.mk (blk_below (g := gb122) (o := .cells #[.string t119, .int .i64 t120] 28 (0, 0)) (by (with_reducible repeat (first | refine blk_drewN ?_ _ | refine blk_drew ?_ | refine blk_alloc ?_ _)); refine blk_far ?_ NB122_135.out _; (with_reducible repeat (first | refine blk_drewN ?_ _ | refine blk_drew ?_ | refine blk_alloc ?_ _)); refine blk_far ?_ NB122_135.out _; apply_rules only [BK122.out, blk_drewN, blk_drew, blk_alloc]) hb); have n7_ := Aside0.mk (blk_below (g := gb135) (o := .cells #[.string t132, .int .i64 t133] 28 (0, 0)) (by (with_reducible repeat (first | refine blk_drewN ?_ _ | refine blk_drew ?_ | refine blk_alloc ?_ _)); refine blk_put (cs := #[.string t132, .int .i64 0]) ?_ 1 _ rfl; (with_reducible repeat (first | refine blk_drewN ?_ _ | refine blk_drew ?_ | refine blk_alloc ?_ _)); refine blk_put (cs := #[.string (⟨#[]⟩ : ByteArray), .int .i64 0]) ?_ 0 _ rfl; apply_rules only [BK135.out, blk_drewN, blk_drew, blk_alloc]) hb); have n8_ := Aside0.mk (below_step (by apply_rules only [HB.out, below_alloc, pw_below_drewN, below_drew1, below_set, GE101.out, GE102.out, GE103.out, GE107.out, GE111.out, GE118.out, GE122.out, GE135.out]) hb); clear BK101; clear BK102; clear BK103; clear BK107; clear BK111; clear BK118; clear BK122; clear BK135; clear HB; have BK101 := n0_; have BK102 := n1_; have BK103 := n2_; have BK107 := n3_; have BK111 := n4_; have BK118 := n5_; have BK122 := n6_; have BK135 := n7_; have HB := n8_; clear n0_ n1_ n2_ n3_ n4_ n5_ n6_ n7_ n8_; (try clear hb); (try clear hb2); (try clear hk); (try clear hi)))
                           have n0_ := Aside0.mk (blk_drew BK101.out)
                           have n1_ := Aside0.mk (blk_drew BK102.out)
                           have n2_ := Aside0.mk (blk_drew BK103.out)
                           have n3_ := Aside0.mk (blk_drew BK107.out)
                           have n4_ := Aside0.mk (blk_drew BK111.out)
                           have n5_ := Aside0.mk (blk_drew BK118.out)
                           have n6_ := Aside0.mk (blk_drew BK122.out)
                           have n7_ := Aside0.mk (blk_drew BK135.out)
                           have n8_ := Aside0.mk (below_drew1 HB.out)
                           clear BK101
                           clear BK102
                           clear BK103
                           clear BK107
                           clear BK111
                           clear BK118
                           clear BK122
                           clear BK135
                           clear HB
                           have BK101 := n0_
                           have BK102 := n1_
                           have BK103 := n2_
                           have BK107 := n3_
                           have BK111 := n4_
                           have BK118 := n5_
                           have BK122 := n6_
                           have BK135 := n7_
                           have HB := n8_
                           clear n0_ n1_ n2_ n3_ n4_ n5_ n6_ n7_ n8_
                           have p165 : 0 ≤ ((ji151) : Int) := of_decide_eq_true (by first | (with_reducible assumption) | assumption)
                           have q165 : (ji151) < (t115.size : Int) := of_decide_eq_true (by first | (with_reducible assumption) | assumption)
                           have hx165 := bt_at t115 (ji151)
                           replace p165 := eq_true p165
                           replace q165 := eq_true q165
                           have p167 : 0 ≤ ((ji151) : Int) := of_decide_eq_true (by first | (with_reducible assumption) | assumption)
                           have q167 : (ji151) < (a3_0.size : Int) := of_decide_eq_true (by first | (with_reducible assumption) | assumption)
                           have hx167 := bt_at a3_0 (ji151)
                           replace p167 := eq_true p167
                           replace q167 := eq_true q167
                           refine start_ (n := 22) (S := fun w' => w'.cell? ⟨gb118, 0, none⟩ = some (.string t115) ∧ w'.cell? ⟨gb118, 1, none⟩ = some (.int .i64 t116) ∧ w'.cell? ⟨gb101, 0, none⟩ = some (.string a3_0) ∧ w'.cell? ⟨gb101, 1, none⟩ = some (.int .i64 a3_1)) (ds := []) #[false, false, false, false, false, false, false, false, false, false, false, false, false, false, false, false, false, false, false, false, false, false] (by kernel_rfl) rfl rfl ⟨(blk_cell BK118.out 0).trans rfl, (blk_cell BK118.out 1).trans rfl, (blk_cell BK101.out 0).trans rfl, (blk_cell BK101.out 1).trans rfl⟩ (fun hHeld => ?_); refine with_tabW laws_FnPuzzlesSievedOfAll.tab26 laws_FnPuzzlesSievedOfAll.bits26 (fun HT_ HW_ => ?_)
                           generalize w208.drew = w209 at BK101 BK102 BK103 BK107 BK111 BK118 BK122 BK135 HB hHeld ⊢
                           refine pure_ (i := 0) (N := some 205) (v := ?_) (a' := ?_) #[true, false, false, false, false, false, false, false, false, false, false, false, false, false, false, false, false, false, false, false, false, false] rfl rfl (any_of HT_.out (by kernel_rfl)) (fun _ _ _ h => h) (Or.inl ⟨by rfl, ?_⟩) ?_ ?_
                           rotate_left
                           ·intro w'
                            go_simp
                            with_reducible rfl
                           rotate_left
                           ·simp only [Act.put, List.setIfInBounds_toArray, List.set_cons_zero, List.set_cons_succ, i64_w, i32_w]
                            rfl
                           refine pure_ (i := 2) (N := some 207) (v := ?_) (a' := ?_) #[true, false, true, false, false, false, false, false, false, false, false, false, false, false, false, false, false, false, false, false, false, false] rfl rfl (any_of HT_.out (by kernel_rfl)) (fun _ _ _ h => h) (Or.inl ⟨by rfl, ?_⟩) ?_ ?_
                           rotate_left
                           ·intro w'
                            go_simp
                            with_reducible rfl
                           rotate_left
                           ·simp only [Act.put, List.setIfInBounds_toArray, List.set_cons_zero, List.set_cons_succ, i64_w, i32_w]
                            rfl
                           refine pure_ (i := 3) (N := some 208) (v := ?_) (a' := ?_) #[true, false, true, true, false, false, false, false, false, false, false, false, false, false, false, false, false, false, false, false, false, false] rfl rfl (any_of HT_.out (by kernel_rfl)) (fun _ _ _ h => h) (Or.inl ⟨by rfl, ?_⟩) ?_ ?_
                           rotate_left
                           ·intro w'
                            go_simp
                            with_reducible rfl
                           rotate_left
                           ·simp only [Act.put, List.setIfInBounds_toArray, List.set_cons_zero, List.set_cons_succ, i64_w, i32_w]
                            rfl
                           refine pure_ (i := 5) (N := some 210) (v := ?_) (a' := ?_) #[true, false, true, true, false, true, false, false, false, false, false, false, false, false, false, false, false, false, false, false, false, false] rfl rfl (any_of HT_.out (by kernel_rfl)) (fun _ _ _ h => h) (Or.inl ⟨by rfl, ?_⟩) ?_ ?_
                           rotate_left
                           ·intro w'
                            go_simp
                            with_reducible rfl
                           rotate_left
                           ·simp only [Act.put, List.setIfInBounds_toArray, List.set_cons_zero, List.set_cons_succ, i64_w, i32_w]
                            rfl
                           refine pure_ (i := 7) (N := some 212) (v := ?_) (a' := ?_) #[true, false, true, true, false, true, false, true, false, false, false, false, false, false, false, false, false, false, false, false, false, false] rfl rfl (any_of HT_.out (by kernel_rfl)) (fun _ _ _ h => h) (Or.inl ⟨by rfl, ?_⟩) ?_ ?_
                           rotate_left
                           ·intro w'
                            go_simp
                            with_reducible rfl
                           rotate_left
                           ·simp only [Act.put, List.setIfInBounds_toArray, List.set_cons_zero, List.set_cons_succ, i64_w, i32_w]
                            rfl
                           refine pure_ (i := 8) (N := some 213) (v := ?_) (a' := ?_) #[true, false, true, true, false, true, false, true, true, false, false, false, false, false, false, false, false, false, false, false, false, false] rfl rfl (any_of HT_.out (by kernel_rfl)) (fun _ _ _ h => h) (Or.inl ⟨by rfl, ?_⟩) ?_ ?_
                           rotate_left
                           ·intro w'
                            go_simp
                            with_reducible rfl
                           rotate_left
                           ·simp only [Act.put, List.setIfInBounds_toArray, List.set_cons_zero, List.set_cons_succ, i64_w, i32_w]
                            rfl
                           refine take_ (i := 1) (N := some 206) (v := ?_) (a' := ?_) #[true, true, true, true, false, true, false, true, true, false, false, false, false, false, false, false, false, false, false, false, false, false] rfl rfl (take_ofW HT_.out HW_.out (by kernel_rfl)) (fun _ _ _ h => h) (Or.inl ⟨by rfl, ?_⟩) hHeld ?_ ?_
                           rotate_left
                           ·rintro w' ⟨s0, s1, s2, s3⟩
                            go_simp
                            with_reducible rfl
                           rotate_left
                           ·simp only [Act.put, List.setIfInBounds_toArray, List.set_cons_zero, List.set_cons_succ, i64_w, i32_w]
                            rfl
                           refine take_ (i := 4) (N := some 209) (v := ?_) (a' := ?_) #[true, true, true, true, true, true, false, true, true, false, false, false, false, false, false, false, false, false, false, false, false, false] rfl rfl (take_ofW HT_.out HW_.out (by kernel_rfl)) (fun _ _ _ h => h) (Or.inl ⟨by rfl, ?_⟩) hHeld ?_ ?_
                           rotate_left
                           ·rintro w' ⟨s0, s1, s2, s3⟩
                            go_simp
                            with_reducible rfl
                           rotate_left
                           ·simp only [Act.put, List.setIfInBounds_toArray, List.set_cons_zero, List.set_cons_succ, i64_w, i32_w]
                            rfl
                           refine take_ (i := 6) (N := some 211) (v := ?_) (a' := ?_) #[true, true, true, true, true, true, true, true, true, false, false, false, false, false, false, false, false, false, false, false, false, false] rfl rfl (take_ofW HT_.out HW_.out (by kernel_rfl)) (fun _ _ _ h => h) (Or.inl ⟨by rfl, ?_⟩) hHeld ?_ ?_
                           rotate_left
                           ·rintro w' ⟨s0, s1, s2, s3⟩
                            go_simp
                            with_reducible rfl
                           rotate_left
                           ·simp only [Act.put, List.setIfInBounds_toArray, List.set_cons_zero, List.set_cons_succ, i64_w, i32_w]
                            rfl
                           refine take_ (i := 9) (N := some 214) (v := ?_) (a' := ?_) #[true, true, true, true, true, true, true, true, true, true, false, false, false, false, false, false, false, false, false, false, false, false] rfl rfl (take_ofW HT_.out HW_.out (by kernel_rfl)) (fun _ _ _ h => h) (Or.inl ⟨by rfl, ?_⟩) hHeld ?_ ?_
                           rotate_left
                           ·rintro w' ⟨s0, s1, s2, s3⟩
                            go_simp
                            with_reducible rfl
                           rotate_left
                           ·simp only [Act.put, List.setIfInBounds_toArray, List.set_cons_zero, List.set_cons_succ, i64_w, i32_w]
                            rfl
                           refine pure_ (i := 10) (N := some 215) (v := ?_) (a' := ?_) #[true, true, true, true, true, true, true, true, true, true, true, false, false, false, false, false, false, false, false, false, false, false] rfl rfl (any_of HT_.out (by kernel_rfl)) (fun _ _ _ h => h) (Or.inl ⟨by rfl, ?_⟩) ?_ ?_
                           rotate_left
                           ·intro w'
                            go_simp
                            with_reducible rfl
                           rotate_left
                           ·simp only [Act.put, List.setIfInBounds_toArray, List.set_cons_zero, List.set_cons_succ, i64_w, i32_w]
                            rfl
                           refine pure_ (i := 11) (N := some 216) (v := ?_) (a' := ?_) #[true, true, true, true, true, true, true, true, true, true, true, true, false, false, false, false, false, false, false, false, false, false] rfl rfl (any_of HT_.out (by kernel_rfl)) (fun _ _ _ h => h) (Or.inl ⟨by rfl, ?_⟩) ?_ ?_
                           rotate_left
                           ·intro w'
                            go_simp
                            with_reducible rfl
                           rotate_left
                           ·simp only [Act.put, List.setIfInBounds_toArray, List.set_cons_zero, List.set_cons_succ, i64_w, i32_w]
                            rfl
                           refine pure_ (i := 12) (N := some 217) (v := ?_) (a' := ?_) #[true, true, true, true, true, true, true, true, true, true, true, true, true, false, false, false, false, false, false, false, false, false] rfl rfl (any_of HT_.out (by kernel_rfl)) (fun _ _ _ h => h) (Or.inl ⟨by rfl, ?_⟩) ?_ ?_
                           rotate_left
                           ·intro w'
                            go_simp
                            with_reducible rfl
                           rotate_left
                           ·simp only [Act.put, List.setIfInBounds_toArray, List.set_cons_zero, List.set_cons_succ, i64_w, i32_w]
                            rfl
                           refine pure_ (i := 13) (N := some 218) (v := ?_) (a' := ?_) #[true, true, true, true, true, true, true, true, true, true, true, true, true, true, false, false, false, false, false, false, false, false] rfl rfl (any_of HT_.out (by kernel_rfl)) (fun _ _ _ h => h) (Or.inl ⟨by rfl, ?_⟩) ?_ ?_
                           rotate_left
                           ·intro w'
                            go_simp
                            with_reducible rfl
                           rotate_left
                           ·simp only [Act.put, List.setIfInBounds_toArray, List.set_cons_zero, List.set_cons_succ, i64_w, i32_w]
                            rfl
                           refine pure_ (i := 14) (N := some 219) (v := ?_) (a' := ?_) #[true, true, true, true, true, true, true, true, true, true, true, true, true, true, true, false, false, false, false, false, false, false] rfl rfl (any_of HT_.out (by kernel_rfl)) (fun _ _ _ h => h) (Or.inl ⟨by rfl, ?_⟩) ?_ ?_
                           rotate_left
                           ·intro w'
                            go_simp
                            with_reducible rfl
                           rotate_left
                           ·simp only [Act.put, List.setIfInBounds_toArray, List.set_cons_zero, List.set_cons_succ, i64_w, i32_w]
                            rfl
                           refine pure_ (i := 15) (N := some 220) (v := ?_) (a' := ?_) #[true, true, true, true, true, true, true, true, true, true, true, true, true, true, true, true, false, false, false, false, false, false] rfl rfl (any_of HT_.out (by kernel_rfl)) (fun _ _ _ h => h) (Or.inl ⟨by rfl, ?_⟩) ?_ ?_
                           rotate_left
                           ·intro w'
                            go_simp
                            with_reducible rfl
                           rotate_left
                           ·simp only [Act.put, List.setIfInBounds_toArray, List.set_cons_zero, List.set_cons_succ, i64_w, i32_w]
                            rfl
                           refine pure_ (i := 16) (N := some 221) (v := ?_) (a' := ?_) #[true, true, true, true, true, true, true, true, true, true, true, true, true, true, true, true, true, false, false, false, false, false] rfl rfl (any_of HT_.out (by kernel_rfl)) (fun _ _ _ h => h) (Or.inl ⟨by rfl, ?_⟩) ?_ ?_
                           rotate_left
                           ·intro w'
                            go_simp
                            with_reducible rfl
                           rotate_left
                           ·simp only [Act.put, List.setIfInBounds_toArray, List.set_cons_zero, List.set_cons_succ, i64_w, i32_w]
                            rfl
                           refine pure_ (i := 17) (N := some 222) (v := ?_) (a' := ?_) #[true, true, true, true, true, true, true, true, true, true, true, true, true, true, true, true, true, true, false, false, false, false] rfl rfl (any_of HT_.out (by kernel_rfl)) (fun _ _ _ h => h) (Or.inl ⟨by rfl, ?_⟩) ?_ ?_
                           rotate_left
                           ·intro w'
                            go_simp
                            with_reducible rfl
                           rotate_left
                           ·simp only [Act.put, List.setIfInBounds_toArray, List.set_cons_zero, List.set_cons_succ, i64_w, i32_w]
                            rfl
                           refine pure_ (i := 18) (N := some 223) (v := undef) (a' := ?_) #[true, true, true, true, true, true, true, true, true, true, true, true, true, true, true, true, true, true, true, false, false, false] rfl rfl (any_of HT_.out (by kernel_rfl)) (fun _ _ _ h => h) (Or.inr ⟨by rfl, rfl⟩) ?_ ?_
                           rotate_left
                           ·simp only [Act.put, List.setIfInBounds_toArray, List.set_cons_zero, List.set_cons_succ, i64_w, i32_w]
                            rfl
                           refine pure_ (i := 19) (N := some 224) (v := undef) (a' := ?_) #[true, true, true, true, true, true, true, true, true, true, true, true, true, true, true, true, true, true, true, true, false, false] rfl rfl (any_of HT_.out (by kernel_rfl)) (fun _ _ _ h => h) (Or.inr ⟨by rfl, rfl⟩) ?_ ?_
                           rotate_left
                           ·simp only [Act.put, List.setIfInBounds_toArray, List.set_cons_zero, List.set_cons_succ, i64_w, i32_w]
                            rfl
                           refine pure_ (i := 20) (N := some 225) (v := ?_) (a' := ?_) #[true, true, true, true, true, true, true, true, true, true, true, true, true, true, true, true, true, true, true, true, true, false] rfl rfl (any_of HT_.out (by kernel_rfl)) (fun _ _ _ h => h) (Or.inl ⟨by rfl, ?_⟩) ?_ ?_
                           rotate_left
                           ·intro w'
                            go_simp
                            with_reducible rfl
                           rotate_left
                           ·simp only [Act.put, List.setIfInBounds_toArray, List.set_cons_zero, List.set_cons_succ, i64_w, i32_w]
                            rfl
                           refine pure_ (i := 21) (N := some 226) (v := ?_) (a' := ?_) #[true, true, true, true, true, true, true, true, true, true, true, true, true, true, true, true, true, true, true, true, true, true] rfl rfl (any_of HT_.out (by kernel_rfl)) (fun _ _ _ h => h) (Or.inl ⟨by rfl, ?_⟩) ?_ ?_
                           rotate_left
                           ·intro w'
                            go_simp
                            with_reducible rfl
                           rotate_left
                           ·simp only [Act.put, List.setIfInBounds_toArray, List.set_cons_zero, List.set_cons_succ, i64_w, i32_w]
                            rfl
                           refine done_ (done_of HT_.out (by kernel_rfl)) ?_
                           try go_wp2
                           go_roundg k6
                           case measure => have := HJ12.out; have := HJ20.out; have := HJ45.out; have := HJ65.out; have := HJ108.out; have := HK6.out; omega
                           case rel => exact ⟨(wrap64 (x39_6 + 1)), (by first | rfl | (simp; done) | (simp [*]; done)), H', ⟨by have := HJ12.out; have := HJ20.out; have := HJ45.out; have := HJ65.out; have := HJ108.out; have := HK6.out; omega⟩, ⟨by apply_rules only [BK101.out, blk_drewN, blk_drew, blk_alloc]⟩, ⟨by apply_rules only [BK102.out, blk_drewN, blk_drew, blk_alloc]⟩, ⟨by apply_rules only [BK103.out, blk_drewN, blk_drew, blk_alloc]⟩, ⟨by apply_rules only [BK107.out, blk_drewN, blk_drew, blk_alloc]⟩, ⟨by apply_rules only [BK111.out, blk_drewN, blk_drew, blk_alloc]⟩, ⟨by apply_rules only [BK118.out, blk_drewN, blk_drew, blk_alloc]⟩, ⟨by apply_rules only [BK122.out, blk_drewN, blk_drew, blk_alloc]⟩, ⟨by apply_rules only [HB.out, below_alloc, pw_below_drewN, below_drew1, below_set, GE101.out, GE102.out, GE103.out, GE107.out, GE111.out, GE118.out, GE122.out, GE135.out]⟩⟩
                         ·replace c169 := Bool.eq_false_iff.mpr c169
                          subst c169
                          rw [if_neg (show ¬ (false = true) by decide)] at H
                          exact absurd H (by simp)
                        ·rw [if_neg c168] at H
                         have c168b0 : ((bt t115 (ji151)) == (bt a3_0 (ji151))) = false := beq_eq_false_iff_ne.mpr c168
                         have c168b1 : ((bt t115 (ji151)) != (bt a3_0 (ji151))) = true := bne_iff_ne.mpr c168
                         exact absurd H (by simp)
                       ·rw [if_neg c166] at H
                        exact absurd H (by simp)
                     ·rw [if_neg c153] at H
                      exact absurd H (by simp)
                    ·rw [if_neg c152] at H
                     exact absurd H (by simp)
                   ·rw [if_neg c150] at H
                    have c150b0 : decide (x39_6 ≤ (t115.size : Int)) = false := decide_eq_false c150
                    clear c150
                    have H' := Aside0.mk H
                    clear H
                    have hnb210 := NB118_101.out
                    have hnc210 := NB101_118.out
                    have hnb211 := NB118_102.out
                    have hnc211 := NB102_118.out
                    have hnb212 := NB118_103.out
                    have hnc212 := NB103_118.out
                    have hnb213 := NB118_107.out
                    have hnc213 := NB107_118.out
                    have hnb214 := NB118_111.out
                    have hnc214 := NB111_118.out
                    have hnb215 := NB118_122.out
                    have hnc215 := NB122_118.out
                    have hcz216_0 : wr.cell? ⟨gb118, 0, none⟩ = some (.string t115) := (blk_cell BK118.out 0).trans rfl
                    have hcz216_1 : wr.cell? ⟨gb118, 1, none⟩ = some (.int .i64 t116) := (blk_cell BK118.out 1).trans rfl
                    have hfz216_0 := blk_frozen BK118.out 0
                    have hfz216_1 := blk_frozen BK118.out 1
                    go_wp2
                    go_meet
                    case rel => exact ⟨_, H', ⟨by have := HJ12.out; have := HJ20.out; have := HJ45.out; have := HJ65.out; have := HJ108.out; have := HK6.out; first | omega | exact Nat.le_refl _⟩, ⟨by apply_rules only [BK101.out, blk_drewN, blk_drew, blk_alloc]⟩, ⟨by apply_rules only [BK102.out, blk_drewN, blk_drew, blk_alloc]⟩, ⟨by apply_rules only [BK103.out, blk_drewN, blk_drew, blk_alloc]⟩, ⟨by apply_rules only [BK107.out, blk_drewN, blk_drew, blk_alloc]⟩, ⟨by apply_rules only [BK111.out, blk_drewN, blk_drew, blk_alloc]⟩, ⟨by apply_rules only [BK118.out, blk_drewN, blk_drew, blk_alloc]⟩, ⟨by apply_rules only [BK122.out, blk_drewN, blk_drew, blk_alloc]⟩, ⟨by apply_rules only [HB.out, below_alloc, pw_below_drewN, below_drew1, below_set, GE101.out, GE102.out, GE103.out, GE107.out, GE111.out, GE118.out, GE122.out]⟩⟩
             ·replace c106 := Bool.eq_false_iff.mpr c106
              subst c106
              rw [if_neg (show ¬ (false = true) by decide)] at H
              have H' := Aside0.mk H
              clear H
              go_wp2
              go_meet
              case rel => exact ⟨_, H', ⟨by have := HJ12.out; have := HJ20.out; have := HJ45.out; have := HJ65.out; first | omega | exact Nat.le_refl _⟩, ⟨by apply_rules only [BK101.out, blk_drewN, blk_drew, blk_alloc]⟩, ⟨by apply_rules only [BK102.out, blk_drewN, blk_drew, blk_alloc]⟩, ⟨by apply_rules only [BK103.out, blk_drewN, blk_drew, blk_alloc]⟩, ⟨by apply_rules only [BK107.out, blk_drewN, blk_drew, blk_alloc]⟩, ⟨by apply_rules only [BK111.out, blk_drewN, blk_drew, blk_alloc]⟩, ⟨by apply_rules only [BK118.out, blk_drewN, blk_drew, blk_alloc]⟩, ⟨by apply_rules only [BK122.out, blk_drewN, blk_drew, blk_alloc]⟩, ⟨by apply_rules only [HB.out, below_alloc, pw_below_drewN, below_drew1, below_set, GE101.out, GE102.out, GE103.out, GE107.out, GE111.out, GE118.out, GE122.out]⟩⟩
            case rest =>
             clear HC105
             (try clear c18)
             obtain ⟨kq, HA, HJ104, BK101, BK102, BK103, BK107, BK111, BK118, BK122, HB⟩ := hcut
             go_step
             exact laws_FnPuzzlesSievedOfAll.part1 k a0 a1 a2 a3_0 a3_1 a4_0 a4_1 a5 a6 a7_0 a7_1 a8 a9 A10 c10 l10 a11 w hu28 HR10 HC10 gb101 GW101 GE101 gb102 GW102 GE102 NB101_102 NB102_101 gb103 GW103 GE103 NB101_103 NB103_101 NB102_103 NB103_102 u64 u65 u66 u67 u68 u69 u70 kj12 HJ12 t104 t105 t106 A19 t108 t109 t110 A20 gb107 GW107 GE107 NB101_107 NB107_101 NB102_107 NB107_102 NB103_107 NB107_103 hnb24 hnc24 hnb25 hnc25 hnb26 hnc26 gb111 GW111 GE111 NB101_111 NB111_101 NB102_111 NB111_102 NB103_111 NB111_103 NB107_111 NB111_107 hnb30 hnc30 hnb31 hnc31 hnb32 hnc32 hnb33 hnc33 u72 u73 u74 u75 u76 u77 u78 u79 u80 u81 u82 u83 u84 u85 u86 u87 u88 u89 u90 u91 u92 kj20 HJ20 u29 u30 u94 u95 u96 u97 u98 u99 u100 u101 u102 u103 u104 u105 u106 u107 u108 u109 u110 u111 u112 u113 u114 u115 u116 u117 u118 u119 u120 u121 u122 u123 u124 u125 kj45 HJ45 t115 t116 t117 A64 t119 t120 t121 A65 hnb67 hnc67 hnb68 hnc68 hnb69 hnc69 hnb70 hnc70 gb118 GW118 GE118 NB101_118 NB118_101 NB102_118 NB118_102 NB103_118 NB118_103 NB107_118 NB118_107 NB111_118 NB118_111 hnb74 hnc74 hnb75 hnc75 hnb76 hnc76 hnb77 hnc77 hnb78 hnc78 gb122 GW122 GE122 NB101_122 NB122_101 NB102_122 NB122_102 NB103_122 NB122_103 NB107_122 NB122_107 NB111_122 NB122_111 NB118_122 NB122_118 hnb83 hnc83 hnb84 hnc84 hnb85 hnc85 hnb86 hnc86 hnb87 hnc87 hnb88 hnc88 u126 u127 u128 u129 u130 u131 u132 u133 u134 u135 u136 u137 u138 u139 u140 u141 u142 kj65 HJ65 wc u24 u35 u36 u37 u38 u39 u40 u41 u42 u43 u144 u145 u146 u147 u148 u149 u150 u151 u152 u153 u154 u155 u156 u157 u158 u159 u160 u161 u162 u163 u164 u165 u166 u167 u168 u169 u170 u171 u172 u173 u174 u175 u176 u177 u178 u179 u180 u181 u182 u183 u184 u185 u186 u187 u188 u189 u190 u191 u192 u193 u194 u195 u196 u197 u198 u199 u200 u201 u202 u203 u204 u205 u206 u207 u208 u209 u210 u211 u212 u213 u214 u215 u216 u217 u218 u219 u220 u221 u222 u223 u224 u225 u226 kq HA HJ104 BK101 BK102 BK103 BK107 BK111 BK118 BK122 HB
def laws_FnPuzzlesSievedOfAll.Pure : Prop := ∀ (a0 : Int) (a1 : Int) (a2 : Int) (a3_0 : ByteArray) (a3_1 : Int) (a4_0 : ByteArray) (a4_1 : Int) (a5 : Int) (a6 : Bool) (a7_0 : ByteArray) (a7_1 : Int) (a8 : Int) (a9 : ByteArray) (l10 : List (SRule)) (a11 : Int), (Lit.int .i64 a0).wf = true → (Lit.int .i64 a1).wf = true → (Lit.int .i64 a2).wf = true → a3_0.size ≤ 9223372036854775807 → (Lit.int .i64 a3_1).wf = true → a4_0.size ≤ 9223372036854775807 → (Lit.int .i64 a4_1).wf = true → (Lit.int .i64 a5).wf = true → a7_0.size ≤ 9223372036854775807 → (Lit.int .i64 a7_1).wf = true → (Lit.int .i64 a8).wf = true → a9.size ≤ 9223372036854775807 → l10.length ≤ 9223372036854775807 → (Lit.int .i64 a11).wf = true → ∃ k, laws_FnPuzzlesSievedOfAll.f k a0 a1 a2 a3_0 a3_1 a4_0 a4_1 a5 a6 a7_0 a7_1 a8 a9 l10 a11 = some true
end Go.Proofs.YtkloiiojigofpaaDoor.P
namespace Go.Proofs.YtkloiiojigofpaaDoor.P
open Go.RowKit Go.Proofs.YtkloiiojigofpaaDoorW.PrintWords Go.Proofs.YtkloiiojigofpaaDoorW.PrintLast Go.Proofs.YtkloiiojigofpaaDoorW.PrintMore
attribute [local go_sem] max2_int min2_int max_two min_two max_three min_three max_four min_four
set_option linter.unusedVariables false
set_option linter.unusedSimpArgs false
def laws_szPuzzle.f (a0_0 : ByteArray) (a0_1 : Int) (a1 : Int) : Option (Int) := if (wrap64 (a1 - (a0_0.size : Int))) < 0 then (some (-1)) else (some (wrap64 (a1 - (a0_0.size : Int))))
set_option maxHeartbeats 8000000 in
set_option maxRecDepth 100000 in
theorem laws_szPuzzle.calls (a0_0 : ByteArray) (a0_1 : Int) (a1 : Int) (r : Int) (w : World) (h : laws_szPuzzle.f a0_0 a0_1 a1 = some r) :
  Calls Tryd.prog 7 #[.agg #[.string a0_0, .int .i64 a0_1], .int .i64 a1] w fun e w' => e = .returned (.int .i64 r) ∧ Below w.heap.size w w' := by
 have hu23 := Tryd.underlying23
 have HB := Aside0.mk (Below.refl w.heap.size w)
 have H : (if (wrap64 (a1 - (a0_0.size : Int))) < 0 then (some (-1)) else (some (wrap64 (a1 - (a0_0.size : Int))))) = some r := h
 clear h
 by_cases c3 : (wrap64 (a1 - (a0_0.size : Int))) < 0
 ·rw [if_pos c3] at H
  have c3b0 : decide ((wrap64 (a1 - (a0_0.size : Int))) < 0) = true := decide_eq_true c3
  clear c3
  obtain rfl := Option.some.inj H
  go_enter Tryd.func7, Tryd.ntmps7
  go_wp2_with (first | ((with_reducible refine gate_dst (N := 2) rfl ?_); refine box_event ?hg (N := 2) ?hd (cs := #[.string a0_0, .int .i64 a0_1]) (t := 23) ?hr ?_; (case hd => rfl); (case hg => rfl); (case hr => first | (go_simp; done) | (go_simp; rfl)); intro gb101 hg w4 hbox hb; have n0_ := Aside0.mk (below_step (by apply_rules only [HB.out, below_alloc, pw_below_drewN, below_drew1]) hb); have n1_ := Aside0.mk (hbox); have n2_ := Aside0.mk ((by rw [hg]; exact (below_size (by apply_rules only [HB.out, below_alloc, pw_below_drewN, below_drew1])) : w.heap.size ≤ gb101)); have n3_ := Aside0.mk ((by rw [hg]; exact (below_size (by apply_rules only [HB.out, below_alloc, pw_below_drewN, below_drew1])) : w.heap.size ≤ gb101)); clear HB; have HB := n0_; have BK101 := n1_; have GW101 := n2_; have GE101 := n3_; clear n0_ n1_ n2_ n3_; clear hb hbox hg; have hcz5_0 : w4.cell? ⟨gb101, 0, none⟩ = some (.string a0_0) := (blk_cell BK101.out 0).trans rfl; have hcz5_1 : w4.cell? ⟨gb101, 1, none⟩ = some (.int .i64 a0_1) := (blk_cell BK101.out 1).trans rfl; have hfz5_0 := blk_frozen BK101.out 0; have hfz5_1 := blk_frozen BK101.out 1))
  go_ret
  exact ⟨by first | rfl | (simp [errW_none, errW_some] <;> rfl) | (simp [*, errW_none, errW_some] <;> rfl), by apply_rules only [HB.out, below_alloc, pw_below_drewN, below_drew1, below_set, GE101.out]⟩
 ·rw [if_neg c3] at H
  have c3b0 : decide ((wrap64 (a1 - (a0_0.size : Int))) < 0) = false := decide_eq_false c3
  clear c3
  obtain rfl := Option.some.inj H
  go_enter Tryd.func7, Tryd.ntmps7
  go_wp2_with (first | ((with_reducible refine gate_dst (N := 2) rfl ?_); refine box_event ?hg (N := 2) ?hd (cs := #[.string a0_0, .int .i64 a0_1]) (t := 23) ?hr ?_; (case hd => rfl); (case hg => rfl); (case hr => first | (go_simp; done) | (go_simp; rfl)); intro gb101 hg w6 hbox hb; have n0_ := Aside0.mk (below_step (by apply_rules only [HB.out, below_alloc, pw_below_drewN, below_drew1]) hb); have n1_ := Aside0.mk (hbox); have n2_ := Aside0.mk ((by rw [hg]; exact (below_size (by apply_rules only [HB.out, below_alloc, pw_below_drewN, below_drew1])) : w.heap.size ≤ gb101)); have n3_ := Aside0.mk ((by rw [hg]; exact (below_size (by apply_rules only [HB.out, below_alloc, pw_below_drewN, below_drew1])) : w.heap.size ≤ gb101)); clear HB; have HB := n0_; have BK101 := n1_; have GW101 := n2_; have GE101 := n3_; clear n0_ n1_ n2_ n3_; clear hb hbox hg; have hcz7_0 : w6.cell? ⟨gb101, 0, none⟩ = some (.string a0_0) := (blk_cell BK101.out 0).trans rfl; have hcz7_1 : w6.cell? ⟨gb101, 1, none⟩ = some (.int .i64 a0_1) := (blk_cell BK101.out 1).trans rfl; have hfz7_0 := blk_frozen BK101.out 0; have hfz7_1 := blk_frozen BK101.out 1))
  go_ret
  exact ⟨by first | rfl | (simp [errW_none, errW_some] <;> rfl) | (simp [*, errW_none, errW_some] <;> rfl), by apply_rules only [HB.out, below_alloc, pw_below_drewN, below_drew1, below_set, GE101.out]⟩
end Go.Proofs.YtkloiiojigofpaaDoor.P
namespace Go.Proofs.YtkloiiojigofpaaDoor.P
open Go.RowKit Go.Proofs.YtkloiiojigofpaaDoorW.PrintWords Go.Proofs.YtkloiiojigofpaaDoorW.PrintLast Go.Proofs.YtkloiiojigofpaaDoorW.PrintMore
attribute [local go_sem] max2_int min2_int max_two min_two max_three min_three max_four min_four
set_option linter.unusedVariables false
set_option linter.unusedSimpArgs false
def laws_toPuzzle.f (a0_0 : ByteArray) (a0_1 : Int) : Option (ByteArray × Int) := some (a0_0, a0_1)
set_option maxHeartbeats 8000000 in
set_option maxRecDepth 100000 in
theorem laws_toPuzzle.calls (a0_0 : ByteArray) (a0_1 : Int) (r1 : ByteArray) (r2 : Int) (w : World) (h : laws_toPuzzle.f a0_0 a0_1 = some (r1, r2)) :
  Calls Tryd.prog 9 #[.agg #[.string a0_0, .int .i64 a0_1]] w fun e w' => e = .returned (.agg #[.string r1, .int .i64 r2]) ∧ Below w.heap.size w w' := by
 have hu23 := Tryd.underlying23
 have hu28 := Tryd.underlying28
 have HB := Aside0.mk (Below.refl w.heap.size w)
 have H : (some (a0_0, a0_1)) = some (r1, r2) := h
 clear h
 simp only [Option.some.injEq, Prod.mk.injEq] at H
 obtain ⟨rfl, rfl⟩ := H
 go_enter Tryd.func9, Tryd.ntmps9
 go_wp2_with (first | ((with_reducible refine gate_dst (N := 1) rfl ?_); refine box_event ?hg (N := 1) ?hd (cs := #[.string a0_0, .int .i64 a0_1]) (t := 23) ?hr ?_; (case hd => rfl); (case hg => rfl); (case hr => first | (go_simp; done) | (go_simp; rfl)); intro gb101 hg w2 hbox hb; have n0_ := Aside0.mk (below_step (by apply_rules only [HB.out, below_alloc, pw_below_drewN, below_drew1]) hb); have n1_ := Aside0.mk (hbox); have n2_ := Aside0.mk ((by rw [hg]; exact (below_size (by apply_rules only [HB.out, below_alloc, pw_below_drewN, below_drew1])) : w.heap.size ≤ gb101)); have n3_ := Aside0.mk ((by rw [hg]; exact (below_size (by apply_rules only [HB.out, below_alloc, pw_below_drewN, below_drew1])) : w.heap.size ≤ gb101)); clear HB; have HB := n0_; have BK101 := n1_; have GW101 := n2_; have GE101 := n3_; clear n0_ n1_ n2_ n3_; clear hb hbox hg) | ((with_reducible refine gate_dst (N := 2) rfl ?_); refine box_event ?hg (N := 2) ?hd (cs := #[.string (⟨#[]⟩ : ByteArray), .int .i64 0]) (t := 28) ?hr ?_; (case hd => rfl); (case hg => rfl); (case hr => first | (go_simp; done) | (go_simp; rfl)); intro gb102 hg w3 hbox hb; have n0_ := Aside0.mk (blk_below (by apply_rules only [BK101.out, blk_drewN, blk_drew, blk_alloc]) hb); have n1_ := Aside0.mk (below_step (by apply_rules only [HB.out, below_alloc, pw_below_drewN, below_drew1, below_set, GE101.out]) hb); have n2_ := Aside0.mk (hbox); have n3_ := Aside0.mk ((by rw [hg]; exact (below_size (by apply_rules only [HB.out, below_alloc, pw_below_drewN, below_drew1, below_set, GE101.out])) : w.heap.size ≤ gb102)); have n4_ := Aside0.mk ((by rw [hg]; exact (below_size (by apply_rules only [HB.out, below_alloc, pw_below_drewN, below_drew1, below_set, GE101.out])) : w.heap.size ≤ gb102)); have n5_ := Aside0.mk ((by rw [hg]; exact Nat.ne_of_lt (blk_lt (g := gb101) (o := .cells #[.string a0_0, .int .i64 a0_1] 23 (0, 0)) (by apply_rules only [BK101.out, blk_drewN, blk_drew, blk_alloc])) : gb101 ≠ gb102)); have n6_ := Aside0.mk ((by rw [hg]; exact Nat.ne_of_gt (blk_lt (g := gb101) (o := .cells #[.string a0_0, .int .i64 a0_1] 23 (0, 0)) (by apply_rules only [BK101.out, blk_drewN, blk_drew, blk_alloc])) : gb102 ≠ gb101)); clear BK101; clear HB; have BK101 := n0_; have HB := n1_; have BK102 := n2_; have GW102 := n3_; have GE102 := n4_; have NB101_102 := n5_; have NB102_101 := n6_; clear n0_ n1_ n2_ n3_ n4_ n5_ n6_; clear hb hbox hg) | ((with_reducible refine gate_dst (N := 3) rfl ?_); refine box_event ?hg (N := 3) ?hd (cs := #[.string (⟨#[]⟩ : ByteArray), .int .i64 0]) (t := 28) ?hr ?_; (case hd => rfl); (case hg => rfl); (case hr => first | (go_simp; done) | (go_simp; rfl)); intro gb103 hg w4 hbox hb; have n0_ := Aside0.mk (blk_below (by apply_rules only [BK101.out, blk_drewN, blk_drew, blk_alloc]) hb); have n1_ := Aside0.mk (blk_below (g := gb102) (o := .cells #[.string (⟨#[]⟩ : ByteArray), .int .i64 0] 28 (0, 0)) (by apply_rules only [BK102.out, blk_drewN, blk_drew, blk_alloc]) hb); have n2_ := Aside0.mk (below_step (by apply_rules only [HB.out, below_alloc, pw_below_drewN, below_drew1, below_set, GE101.out, GE102.out]) hb); have n3_ := Aside0.mk (hbox); have n4_ := Aside0.mk ((by rw [hg]; exact (below_size (by apply_rules only [HB.out, below_alloc, pw_below_drewN, below_drew1, below_set, GE101.out, GE102.out])) : w.heap.size ≤ gb103)); have n5_ := Aside0.mk ((by rw [hg]; exact (below_size (by apply_rules only [HB.out, below_alloc, pw_below_drewN, below_drew1, below_set, GE101.out, GE102.out])) : w.heap.size ≤ gb103)); have n6_ := Aside0.mk ((by rw [hg]; exact Nat.ne_of_lt (blk_lt (g := gb101) (o := .cells #[.string a0_0, .int .i64 a0_1] 23 (0, 0)) (by apply_rules only [BK101.out, blk_drewN, blk_drew, blk_alloc])) : gb101 ≠ gb103)); have n7_ := Aside0.mk ((by rw [hg]; exact Nat.ne_of_gt (blk_lt (g := gb101) (o := .cells #[.string a0_0, .int .i64 a0_1] 23 (0, 0)) (by apply_rules only [BK101.out, blk_drewN, blk_drew, blk_alloc])) : gb103 ≠ gb101)); have n8_ := Aside0.mk ((by rw [hg]; exact Nat.ne_of_lt (blk_lt (g := gb102) (o := .cells #[.string (⟨#[]⟩ : ByteArray), .int .i64 0] 28 (0, 0)) (by apply_rules only [BK102.out, blk_drewN, blk_drew, blk_alloc])) : gb102 ≠ gb103)); have n9_ := Aside0.mk ((by rw [hg]; exact Nat.ne_of_gt (blk_lt (g := gb102) (o := .cells #[.string (⟨#[]⟩ : ByteArray), .int .i64 0] 28 (0, 0)) (by apply_rules only [BK102.out, blk_drewN, blk_drew, blk_alloc])) : gb103 ≠ gb102)); clear BK101; clear BK102; clear HB; have BK101 := n0_; have BK102 := n1_; have HB := n2_; have BK103 := n3_; have GW103 := n4_; have GE103 := n5_; have NB101_103 := n6_; have NB103_101 := n7_; have NB102_103 := n8_; have NB103_102 := n9_; clear n0_ n1_ n2_ n3_ n4_ n5_ n6_ n7_ n8_ n9_; clear hb hbox hg; have hnb5 := NB101_102.out; have hnc5 := NB102_101.out; have hnb6 := NB101_103.out; have hnc6 := NB103_101.out; have hcz7_0 : w4.cell? ⟨gb101, 0, none⟩ = some (.string a0_0) := (blk_cell BK101.out 0).trans rfl; have hcz7_1 : w4.cell? ⟨gb101, 1, none⟩ = some (.int .i64 a0_1) := (blk_cell BK101.out 1).trans rfl; have hfz7_0 := blk_frozen BK101.out 0; have hfz7_1 := blk_frozen BK101.out 1; have hnb8 := NB103_102.out; have hnc8 := NB102_103.out; have hcz9_0 : w4.cell? ⟨gb103, 0, none⟩ = some (.string (⟨#[]⟩ : ByteArray)) := (blk_cell BK103.out 0).trans rfl; have hcz9_1 : w4.cell? ⟨gb103, 1, none⟩ = some (.int .i64 0) := (blk_cell BK103.out 1).trans rfl; have hfz9_0 := blk_frozen BK103.out 0; have hfz9_1 := blk_frozen BK103.out 1; have hcz10_0 : w4.cell? ⟨gb102, 0, none⟩ = some (.string (⟨#[]⟩ : ByteArray)) := (blk_cell BK102.out 0).trans rfl; have hcz10_1 : w4.cell? ⟨gb102, 1, none⟩ = some (.int .i64 0) := (blk_cell BK102.out 1).trans rfl; have hfz10_0 := blk_frozen BK102.out 0; have hfz10_1 := blk_frozen BK102.out 1))
 refine bodyPost_ret (results_cell_row rfl _ _ gb102 28 #[.string a0_0, .int .i64 a0_1] (0, 0) _ rfl (by (with_reducible repeat (first | refine blk_drewN ?_ _ | refine blk_drew ?_ | refine blk_alloc ?_ _)); refine blk_put (cs := #[.string a0_0, .int .i64 0]) ?_ 1 _ rfl; (with_reducible repeat (first | refine blk_drewN ?_ _ | refine blk_drew ?_ | refine blk_alloc ?_ _)); refine blk_put (cs := #[.string (⟨#[]⟩ : ByteArray), .int .i64 0]) ?_ 0 _ rfl; (with_reducible repeat (first | refine blk_drewN ?_ _ | refine blk_drew ?_ | refine blk_alloc ?_ _)); refine blk_far ?_ NB102_103.out _; (with_reducible repeat (first | refine blk_drewN ?_ _ | refine blk_drew ?_ | refine blk_alloc ?_ _)); refine blk_far ?_ NB102_103.out _; apply_rules only [BK102.out, blk_drewN, blk_drew, blk_alloc]) Tryd.underlying28 rfl (by kernel_rfl)) rfl ?_
 exact ⟨by first | rfl | (simp [errW_none, errW_some] <;> rfl) | (simp [*, errW_none, errW_some] <;> rfl), by apply_rules only [HB.out, below_alloc, pw_below_drewN, below_drew1, below_set, GE101.out, GE102.out, GE103.out]⟩
end Go.Proofs.YtkloiiojigofpaaDoor.P
namespace Go.Proofs.YtkloiiojigofpaaDoor.P
open Go.RowKit Go.Proofs.YtkloiiojigofpaaDoorW.PrintWords Go.Proofs.YtkloiiojigofpaaDoorW.PrintLast Go.Proofs.YtkloiiojigofpaaDoorW.PrintMore
attribute [local go_sem] max2_int min2_int max_two min_two max_three min_three max_four min_four
set_option linter.unusedVariables false
set_option linter.unusedSimpArgs false
def laws_eqPuzzle.f (a0_0 : ByteArray) (a0_1 : Int) (a1_0 : ByteArray) (a1_1 : Int) : Option (Bool) := if a0_0.toList = a1_0.toList then (if a0_1 = a1_1 then (some true) else (some false)) else (some false)
set_option maxHeartbeats 8000000 in
set_option maxRecDepth 100000 in
theorem laws_eqPuzzle.calls (a0_0 : ByteArray) (a0_1 : Int) (a1_0 : ByteArray) (a1_1 : Int) (r : Bool) (w : World) (h : laws_eqPuzzle.f a0_0 a0_1 a1_0 a1_1 = some r) :
  Calls Tryd.prog 21 #[.agg #[.string a0_0, .int .i64 a0_1], .agg #[.string a1_0, .int .i64 a1_1]] w fun e w' => e = .returned (.bool r) ∧ Below w.heap.size w w' := by
 have hu28 := Tryd.underlying28
 have HB := Aside0.mk (Below.refl w.heap.size w)
 have H : (if a0_0.toList = a1_0.toList then (if a0_1 = a1_1 then (some true) else (some false)) else (some false)) = some r := h
 clear h
 by_cases c3 : a0_0.toList = a1_0.toList
 ·rw [if_pos c3] at H
  have c3b0 : (a0_0.toList == a1_0.toList) = true := beq_iff_eq.mpr c3
  have c3b1 : (a0_0.toList != a1_0.toList) = false := bne_eq_false_iff_eq.mpr c3
  clear c3
  by_cases c4 : a0_1 = a1_1
  ·rw [if_pos c4] at H
   have c4b0 : (a0_1 == a1_1) = true := beq_iff_eq.mpr c4
   have c4b1 : (a0_1 != a1_1) = false := bne_eq_false_iff_eq.mpr c4
   clear c4
   obtain rfl := Option.some.inj H
   go_enter Tryd.func21, Tryd.ntmps21
   go_wp2_with (first | ((with_reducible refine gate_dst (N := 2) rfl ?_); refine box_event ?hg (N := 2) ?hd (cs := #[.string a0_0, .int .i64 a0_1]) (t := 28) ?hr ?_; (case hd => rfl); (case hg => rfl); (case hr => first | (go_simp; done) | (go_simp; rfl)); intro gb101 hg w5 hbox hb; have n0_ := Aside0.mk (below_step (by apply_rules only [HB.out, below_alloc, pw_below_drewN, below_drew1]) hb); have n1_ := Aside0.mk (hbox); have n2_ := Aside0.mk ((by rw [hg]; exact (below_size (by apply_rules only [HB.out, below_alloc, pw_below_drewN, below_drew1])) : w.heap.size ≤ gb101)); have n3_ := Aside0.mk ((by rw [hg]; exact (below_size (by apply_rules only [HB.out, below_alloc, pw_below_drewN, below_drew1])) : w.heap.size ≤ gb101)); clear HB; have HB := n0_; have BK101 := n1_; have GW101 := n2_; have GE101 := n3_; clear n0_ n1_ n2_ n3_; clear hb hbox hg) | ((with_reducible refine gate_dst (N := 3) rfl ?_); refine box_event ?hg (N := 3) ?hd (cs := #[.string a1_0, .int .i64 a1_1]) (t := 28) ?hr ?_; (case hd => rfl); (case hg => rfl); (case hr => first | (go_simp; done) | (go_simp; rfl)); intro gb102 hg w6 hbox hb; have n0_ := Aside0.mk (blk_below (by apply_rules only [BK101.out, blk_drewN, blk_drew, blk_alloc]) hb); have n1_ := Aside0.mk (below_step (by apply_rules only [HB.out, below_alloc, pw_below_drewN, below_drew1, below_set, GE101.out]) hb); have n2_ := Aside0.mk (hbox); have n3_ := Aside0.mk ((by rw [hg]; exact (below_size (by apply_rules only [HB.out, below_alloc, pw_below_drewN, below_drew1, below_set, GE101.out])) : w.heap.size ≤ gb102)); have n4_ := Aside0.mk ((by rw [hg]; exact (below_size (by apply_rules only [HB.out, below_alloc, pw_below_drewN, below_drew1, below_set, GE101.out])) : w.heap.size ≤ gb102)); have n5_ := Aside0.mk ((by rw [hg]; exact Nat.ne_of_lt (blk_lt (g := gb101) (o := .cells #[.string a0_0, .int .i64 a0_1] 28 (0, 0)) (by apply_rules only [BK101.out, blk_drewN, blk_drew, blk_alloc])) : gb101 ≠ gb102)); have n6_ := Aside0.mk ((by rw [hg]; exact Nat.ne_of_gt (blk_lt (g := gb101) (o := .cells #[.string a0_0, .int .i64 a0_1] 28 (0, 0)) (by apply_rules only [BK101.out, blk_drewN, blk_drew, blk_alloc])) : gb102 ≠ gb101)); clear BK101; clear HB; have BK101 := n0_; have HB := n1_; have BK102 := n2_; have GW102 := n3_; have GE102 := n4_; have NB101_102 := n5_; have NB102_101 := n6_; clear n0_ n1_ n2_ n3_ n4_ n5_ n6_; clear hb hbox hg; have hnb7 := NB101_102.out; have hnc7 := NB102_101.out; have hcz8_0 : w6.cell? ⟨gb101, 0, none⟩ = some (.string a0_0) := (blk_cell BK101.out 0).trans rfl; have hcz8_1 : w6.cell? ⟨gb101, 1, none⟩ = some (.int .i64 a0_1) := (blk_cell BK101.out 1).trans rfl; have hfz8_0 := blk_frozen BK101.out 0; have hfz8_1 := blk_frozen BK101.out 1; have hcz9_0 : w6.cell? ⟨gb102, 0, none⟩ = some (.string a1_0) := (blk_cell BK102.out 0).trans rfl; have hcz9_1 : w6.cell? ⟨gb102, 1, none⟩ = some (.int .i64 a1_1) := (blk_cell BK102.out 1).trans rfl; have hfz9_0 := blk_frozen BK102.out 0; have hfz9_1 := blk_frozen BK102.out 1))
   go_ret
   exact ⟨by first | rfl | (simp [errW_none, errW_some] <;> rfl) | (simp [*, errW_none, errW_some] <;> rfl), by apply_rules only [HB.out, below_alloc, pw_below_drewN, below_drew1, below_set, GE101.out, GE102.out]⟩
  ·rw [if_neg c4] at H
   have c4b0 : (a0_1 == a1_1) = false := beq_eq_false_iff_ne.mpr c4
   have c4b1 : (a0_1 != a1_1) = true := bne_iff_ne.mpr c4
   obtain rfl := Option.some.inj H
   go_enter Tryd.func21, Tryd.ntmps21
   go_wp2_with (first | ((with_reducible refine gate_dst (N := 2) rfl ?_); refine box_event ?hg (N := 2) ?hd (cs := #[.string a0_0, .int .i64 a0_1]) (t := 28) ?hr ?_; (case hd => rfl); (case hg => rfl); (case hr => first | (go_simp; done) | (go_simp; rfl)); intro gb101 hg w10 hbox hb; have n0_ := Aside0.mk (below_step (by apply_rules only [HB.out, below_alloc, pw_below_drewN, below_drew1]) hb); have n1_ := Aside0.mk (hbox); have n2_ := Aside0.mk ((by rw [hg]; exact (below_size (by apply_rules only [HB.out, below_alloc, pw_below_drewN, below_drew1])) : w.heap.size ≤ gb101)); have n3_ := Aside0.mk ((by rw [hg]; exact (below_size (by apply_rules only [HB.out, below_alloc, pw_below_drewN, below_drew1])) : w.heap.size ≤ gb101)); clear HB; have HB := n0_; have BK101 := n1_; have GW101 := n2_; have GE101 := n3_; clear n0_ n1_ n2_ n3_; clear hb hbox hg) | ((with_reducible refine gate_dst (N := 3) rfl ?_); refine box_event ?hg (N := 3) ?hd (cs := #[.string a1_0, .int .i64 a1_1]) (t := 28) ?hr ?_; (case hd => rfl); (case hg => rfl); (case hr => first | (go_simp; done) | (go_simp; rfl)); intro gb102 hg w11 hbox hb; have n0_ := Aside0.mk (blk_below (by apply_rules only [BK101.out, blk_drewN, blk_drew, blk_alloc]) hb); have n1_ := Aside0.mk (below_step (by apply_rules only [HB.out, below_alloc, pw_below_drewN, below_drew1, below_set, GE101.out]) hb); have n2_ := Aside0.mk (hbox); have n3_ := Aside0.mk ((by rw [hg]; exact (below_size (by apply_rules only [HB.out, below_alloc, pw_below_drewN, below_drew1, below_set, GE101.out])) : w.heap.size ≤ gb102)); have n4_ := Aside0.mk ((by rw [hg]; exact (below_size (by apply_rules only [HB.out, below_alloc, pw_below_drewN, below_drew1, below_set, GE101.out])) : w.heap.size ≤ gb102)); have n5_ := Aside0.mk ((by rw [hg]; exact Nat.ne_of_lt (blk_lt (g := gb101) (o := .cells #[.string a0_0, .int .i64 a0_1] 28 (0, 0)) (by apply_rules only [BK101.out, blk_drewN, blk_drew, blk_alloc])) : gb101 ≠ gb102)); have n6_ := Aside0.mk ((by rw [hg]; exact Nat.ne_of_gt (blk_lt (g := gb101) (o := .cells #[.string a0_0, .int .i64 a0_1] 28 (0, 0)) (by apply_rules only [BK101.out, blk_drewN, blk_drew, blk_alloc])) : gb102 ≠ gb101)); clear BK101; clear HB; have BK101 := n0_; have HB := n1_; have BK102 := n2_; have GW102 := n3_; have GE102 := n4_; have NB101_102 := n5_; have NB102_101 := n6_; clear n0_ n1_ n2_ n3_ n4_ n5_ n6_; clear hb hbox hg; have hnb12 := NB101_102.out; have hnc12 := NB102_101.out; have hcz13_0 : w11.cell? ⟨gb101, 0, none⟩ = some (.string a0_0) := (blk_cell BK101.out 0).trans rfl; have hcz13_1 : w11.cell? ⟨gb101, 1, none⟩ = some (.int .i64 a0_1) := (blk_cell BK101.out 1).trans rfl; have hfz13_0 := blk_frozen BK101.out 0; have hfz13_1 := blk_frozen BK101.out 1; have hcz14_0 : w11.cell? ⟨gb102, 0, none⟩ = some (.string a1_0) := (blk_cell BK102.out 0).trans rfl; have hcz14_1 : w11.cell? ⟨gb102, 1, none⟩ = some (.int .i64 a1_1) := (blk_cell BK102.out 1).trans rfl; have hfz14_0 := blk_frozen BK102.out 0; have hfz14_1 := blk_frozen BK102.out 1))
   go_ret
   exact ⟨by first | rfl | (simp [errW_none, errW_some] <;> rfl) | (simp [*, errW_none, errW_some] <;> rfl), by apply_rules only [HB.out, below_alloc, pw_below_drewN, below_drew1, below_set, GE101.out, GE102.out]⟩
 ·rw [if_neg c3] at H
  have c3b0 : (a0_0.toList == a1_0.toList) = false := beq_eq_false_iff_ne.mpr c3
  have c3b1 : (a0_0.toList != a1_0.toList) = true := bne_iff_ne.mpr c3
  obtain rfl := Option.some.inj H
  go_enter Tryd.func21, Tryd.ntmps21
  go_wp2_with (first | ((with_reducible refine gate_dst (N := 2) rfl ?_); refine box_event ?hg (N := 2) ?hd (cs := #[.string a0_0, .int .i64 a0_1]) (t := 28) ?hr ?_; (case hd => rfl); (case hg => rfl); (case hr => first | (go_simp; done) | (go_simp; rfl)); intro gb101 hg w15 hbox hb; have n0_ := Aside0.mk (below_step (by apply_rules only [HB.out, below_alloc, pw_below_drewN, below_drew1]) hb); have n1_ := Aside0.mk (hbox); have n2_ := Aside0.mk ((by rw [hg]; exact (below_size (by apply_rules only [HB.out, below_alloc, pw_below_drewN, below_drew1])) : w.heap.size ≤ gb101)); have n3_ := Aside0.mk ((by rw [hg]; exact (below_size (by apply_rules only [HB.out, below_alloc, pw_below_drewN, below_drew1])) : w.heap.size ≤ gb101)); clear HB; have HB := n0_; have BK101 := n1_; have GW101 := n2_; have GE101 := n3_; clear n0_ n1_ n2_ n3_; clear hb hbox hg) | ((with_reducible refine gate_dst (N := 3) rfl ?_); refine box_event ?hg (N := 3) ?hd (cs := #[.string a1_0, .int .i64 a1_1]) (t := 28) ?hr ?_; (case hd => rfl); (case hg => rfl); (case hr => first | (go_simp; done) | (go_simp; rfl)); intro gb102 hg w16 hbox hb; have n0_ := Aside0.mk (blk_below (by apply_rules only [BK101.out, blk_drewN, blk_drew, blk_alloc]) hb); have n1_ := Aside0.mk (below_step (by apply_rules only [HB.out, below_alloc, pw_below_drewN, below_drew1, below_set, GE101.out]) hb); have n2_ := Aside0.mk (hbox); have n3_ := Aside0.mk ((by rw [hg]; exact (below_size (by apply_rules only [HB.out, below_alloc, pw_below_drewN, below_drew1, below_set, GE101.out])) : w.heap.size ≤ gb102)); have n4_ := Aside0.mk ((by rw [hg]; exact (below_size (by apply_rules only [HB.out, below_alloc, pw_below_drewN, below_drew1, below_set, GE101.out])) : w.heap.size ≤ gb102)); have n5_ := Aside0.mk ((by rw [hg]; exact Nat.ne_of_lt (blk_lt (g := gb101) (o := .cells #[.string a0_0, .int .i64 a0_1] 28 (0, 0)) (by apply_rules only [BK101.out, blk_drewN, blk_drew, blk_alloc])) : gb101 ≠ gb102)); have n6_ := Aside0.mk ((by rw [hg]; exact Nat.ne_of_gt (blk_lt (g := gb101) (o := .cells #[.string a0_0, .int .i64 a0_1] 28 (0, 0)) (by apply_rules only [BK101.out, blk_drewN, blk_drew, blk_alloc])) : gb102 ≠ gb101)); clear BK101; clear HB; have BK101 := n0_; have HB := n1_; have BK102 := n2_; have GW102 := n3_; have GE102 := n4_; have NB101_102 := n5_; have NB102_101 := n6_; clear n0_ n1_ n2_ n3_ n4_ n5_ n6_; clear hb hbox hg; have hnb17 := NB101_102.out; have hnc17 := NB102_101.out; have hcz18_0 : w16.cell? ⟨gb101, 0, none⟩ = some (.string a0_0) := (blk_cell BK101.out 0).trans rfl; have hcz18_1 : w16.cell? ⟨gb101, 1, none⟩ = some (.int .i64 a0_1) := (blk_cell BK101.out 1).trans rfl; have hfz18_0 := blk_frozen BK101.out 0; have hfz18_1 := blk_frozen BK101.out 1; have hcz19_0 : w16.cell? ⟨gb102, 0, none⟩ = some (.string a1_0) := (blk_cell BK102.out 0).trans rfl; have hcz19_1 : w16.cell? ⟨gb102, 1, none⟩ = some (.int .i64 a1_1) := (blk_cell BK102.out 1).trans rfl; have hfz19_0 := blk_frozen BK102.out 0; have hfz19_1 := blk_frozen BK102.out 1))
  go_ret
  exact ⟨by first | rfl | (simp [errW_none, errW_some] <;> rfl) | (simp [*, errW_none, errW_some] <;> rfl), by apply_rules only [HB.out, below_alloc, pw_below_drewN, below_drew1, below_set, GE101.out, GE102.out]⟩
end Go.Proofs.YtkloiiojigofpaaDoor.P
