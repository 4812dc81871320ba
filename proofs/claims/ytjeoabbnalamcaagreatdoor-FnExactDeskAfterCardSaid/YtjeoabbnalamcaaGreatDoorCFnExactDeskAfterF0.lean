/- What functions of the program answer. Proved in this text: its theorems. Conditions: as each theorem states them. -/
import Derived.Test.YtjeoabbnalamcaaGreatDoorCFnExactDeskAfterP
namespace Go.Proofs.YtjeoabbnalamcaaGreatDoor.P
open Go.RowKit Go.Proofs.YtjeoabbnalamcaaGreatDoorW.qaZ Go.Proofs.YtjeoabbnalamcaaGreatDoorW.PrintLast Go.Proofs.YtjeoabbnalamcaaGreatDoorW.PrintMore
set_option linter.unusedVariables false
set_option linter.unusedSimpArgs false
set_option maxHeartbeats 8000000
set_option maxRecDepth 100000
section
attribute [local go_sem] qhj qhl qiE qiF qgt qgu qhk qhm
def qfj.f (qbK : Int) (qbY : Int) (qkc : Int) (qgW : Int) : Option (Bool) := if qbK = qkc then (if qbY = qgW then (some true) else (some false)) else (some false)
theorem qfj.calls (qbK : Int) (qbY : Int) (qkc : Int) (qgW : Int) (r : Bool) (w : World) (h : qfj.f qbK qbY qkc qgW = some r) :
  Calls Tryz.prog 78 #[.agg #[.int .i64 qbK, .int .i64 qbY], .agg #[.int .i64 qkc, .int .i64 qgW]] w fun e w' => e = .returned (.bool r) ∧ Below w.heap.size w w' := by
 have qme := Tryz.underlying85; have HB := br_ w; have H : (if qbK = qkc then (if qbY = qgW then (some true) else (some false)) else (some false)) = some r := h; clear h; by_cases c3 : qbK = qkc; rotate_left
 ·rw [if_neg c3] at H; have qfr : (qbK == qkc) = false := beq_eq_false_iff_ne.mpr c3; have qlH : (qbK != qkc) = true := bne_iff_ne.mpr c3; obtain rfl := sj_ H; go_enter Tryz.func78, Tryz.ntmps78
  go_wp2_with (first | ((with_reducible refine qam (N := 2) rfl ?_); refine bx_ 2 rfl (cs := #[.int .i64 qbK, .int .i64 qbY]) (t := 85) qa1 ?_; intro qbD hg w15 hbox hb; have qas := ak_ (hbox); have qdO := ak_ (HB.ge hg); have qdz := ak_ (HB.ge hg); replace HB := HB.mw hb; clear hb hbox hg) | ((with_reducible refine qam (N := 3) rfl ?_); refine bx_ 3 rfl (cs := #[.int .i64 qkc, .int .i64 qgW]) (t := 85) qa1 ?_; intro qcO hg w16 hbox hb; have qbI := ak_ (hbox); have qfE := ak_ ((by rw [hg]; exact (qab qcw) : w.heap.size ≤ qcO)); have qfq := ak_ ((by rw [hg]; exact (qab qcw) : w.heap.size ≤ qcO)); replace HB := ak_ (qaa qcw hb); have qdr := ak_ (qas.ne hg); have qd8 := ak_ (qas.ne hg).symm; replace qas := qas.mw hb; clear hb hbox hg; have hnb17 := qdr.1; have hnc17 := qd8.1; obtain ⟨qpr, qps, qpx, qpy⟩ := qbl qas.1; obtain ⟨qpt, qpu, qpz, qpA⟩ := qbl qbI.1))
  go_ret
  exact ⟨qca, qqI⟩
 rw [if_pos c3] at H; have qfr : (qbK == qkc) = true := beq_iff_eq.mpr c3; have qlH : (qbK != qkc) = false := bne_eq_false_iff_eq.mpr c3; clear c3; by_cases c4 : qbY = qgW
 ·rw [if_pos c4] at H; have qfw : (qbY == qgW) = true := beq_iff_eq.mpr c4; have qlY : (qbY != qgW) = false := bne_eq_false_iff_eq.mpr c4; clear c4; obtain rfl := sj_ H; go_enter Tryz.func78, Tryz.ntmps78
  go_wp2_with (first | ((with_reducible refine qam (N := 2) rfl ?_); refine bx_ 2 rfl (cs := #[.int .i64 qbK, .int .i64 qbY]) (t := 85) qa1 ?_; intro qbD hg w5 hbox hb; have qas := ak_ (hbox); have qdO := ak_ (HB.ge hg); have qdz := ak_ (HB.ge hg); replace HB := HB.mw hb; clear hb hbox hg) | ((with_reducible refine qam (N := 3) rfl ?_); refine bx_ 3 rfl (cs := #[.int .i64 qkc, .int .i64 qgW]) (t := 85) qa1 ?_; intro qcO hg w6 hbox hb; have qbI := ak_ (hbox); have qfE := ak_ ((by rw [hg]; exact (qab qcw) : w.heap.size ≤ qcO)); have qfq := ak_ ((by rw [hg]; exact (qab qcw) : w.heap.size ≤ qcO)); replace HB := ak_ (qaa qcw hb); have qdr := ak_ (qas.ne hg); have qd8 := ak_ (qas.ne hg).symm; replace qas := qas.mw hb; clear hb hbox hg; have hnb7 := qdr.1; have hnc7 := qd8.1; obtain ⟨qjN, qjO, qjS, qjT⟩ := qbl qas.1; obtain ⟨qgA, qgB, qgC, qgD⟩ := qbl qbI.1))
  go_ret
  exact ⟨qca, qqI⟩
 rw [if_neg c4] at H; have qfw : (qbY == qgW) = false := beq_eq_false_iff_ne.mpr c4; have qlY : (qbY != qgW) = true := bne_iff_ne.mpr c4; obtain rfl := sj_ H; go_enter Tryz.func78, Tryz.ntmps78
 go_wp2_with (first | ((with_reducible refine qam (N := 2) rfl ?_); refine bx_ 2 rfl (cs := #[.int .i64 qbK, .int .i64 qbY]) (t := 85) qa1 ?_; intro qbD hg w10 hbox hb; have qas := ak_ (hbox); have qdO := ak_ (HB.ge hg); have qdz := ak_ (HB.ge hg); replace HB := HB.mw hb; clear hb hbox hg) | ((with_reducible refine qam (N := 3) rfl ?_); refine bx_ 3 rfl (cs := #[.int .i64 qkc, .int .i64 qgW]) (t := 85) qa1 ?_; intro qcO hg w11 hbox hb; have qbI := ak_ (hbox); have qfE := ak_ ((by rw [hg]; exact (qab qcw) : w.heap.size ≤ qcO)); have qfq := ak_ ((by rw [hg]; exact (qab qcw) : w.heap.size ≤ qcO)); replace HB := ak_ (qaa qcw hb); have qdr := ak_ (qas.ne hg); have qd8 := ak_ (qas.ne hg).symm; replace qas := qas.mw hb; clear hb hbox hg; have hnb12 := qdr.1; have hnc12 := qd8.1; obtain ⟨qiw, qix, qiy, qiz⟩ := qbl qas.1; obtain ⟨qsN, qsO, qs3, qs4⟩ := qbl qbI.1))
 go_ret
 exact ⟨qca, qqI⟩
def qbn.l0 : Nat → List (qac) → List (qac) → Int → Option (Bool)
 | 0, _, _, _ => none
 | k + 1, x0, x1, x5 => if x5 < (x0.length : Int) then (if 0 ≤ x5 then (if x5 < (x1.length : Int) then ((qfj.f ((qad x0 x5).f0) ((qad x0 x5).f1) ((qad x1 x5).f0) ((qad x1 x5).f1)).bind fun qcb => (if qcb = true then (qbn.l0 k x0 x1 (wrap64 (x5 + 1))) else (some false))) else (none)) else (none)) else (some true)
def qbn.f (k : Nat) (l0 : List (qac)) (l1 : List (qac)) : Option (Bool) := if (l0.length : Int) = (l1.length : Int) then (qbn.l0 k l0 l1 0) else (some false)
def qbn.T6 : Bool × List (List Nat × List Nat) := (true, [([], []), ([], []), ([0, 1], [0, 1]), ([2], [2]), ([], []), ([], []), ([4, 5], [4, 5]), ([6], [6]), ([3, 7], [3, 7]), ([8], [8])])
def qbn.B6 : List Nat := [0, 0, 3, 7, 0, 0, 48, 112, 255, 511]
theorem qbn.tab6 : qhC .any (opsOf Tryz.f46 6) = qbn.T6 := by kernel_rfl
theorem qbn.bits6 : qeG qbn.T6.2 qbn.B6 = true := by kernel_rfl
theorem qbn.calls (k : Nat) (A0 : Option Addr) (c0 : Nat) (l0 : List (qac)) (A1 : Option Addr) (c1 : Nat) (l1 : List (qac)) (r : Bool) (w : World) (hr0 : Kd.C qaG w A0 l0.length l0) (hc0 : l0.length ≤ c0) (hr1 : Kd.C qaG w A1 l1.length l1) (hc1 : l1.length ≤ c1) (h : qbn.f k l0 l1 = some r) :
  Calls Tryz.prog 46 #[.slice A0 l0.length c0, .slice A1 l1.length c1] w fun e w' => e = .returned (.bool r) ∧ Below w.heap.size w w' := by
 have qme := Tryz.underlying85; have HR0 := ak_ hr0; have HC0 := ak_ hc0; clear hr0 hc0; have HR1 := ak_ hr1; have HC1 := ak_ hc1; clear hr1 hc1; have HB := br_ w; have H : (if (l0.length : Int) = (l1.length : Int) then (qbn.l0 k l0 l1 0) else (some false)) = some r := h; clear h; by_cases c3 : (l0.length : Int) = (l1.length : Int); rotate_left
 ·rw [if_neg c3] at H; have qfr : ((l0.length : Int) == (l1.length : Int)) = false := beq_eq_false_iff_ne.mpr c3; have qlH : ((l0.length : Int) != (l1.length : Int)) = true := bne_iff_ne.mpr c3; have c3b2 : (l0.length == l1.length) = false := k102_; obtain rfl := sj_ H; go_enter Tryz.func46, Tryz.ntmps46; go_wp2
  go_ret
  exact ⟨qca, qao⟩
 rw [if_pos c3] at H; have qfr : ((l0.length : Int) == (l1.length : Int)) = true := beq_iff_eq.mpr c3; have qlH : ((l0.length : Int) != (l1.length : Int)) = false := bne_eq_false_iff_eq.mpr c3; have c3b2 : (l0.length == l1.length) = true := k102_; clear c3; have H' := ak_ H; clear H; go_enter Tryz.func46, Tryz.ntmps46; go_wp2
 go_loopg [5] k (fun kq v5 w' => ∃ (qbC : Int), v5 = .int .i64 qbC ∧ qai (qbn.l0 kq l0 l1 qbC = some r) ∧ qai (kq ≤ k) ∧ qai (Below w.heap.size w w'))
 case atStart => exact ⟨(0), qay, H', ⟨Nat.le_refl _⟩, ⟨qao⟩⟩
 case round =>
  clear H'; (try clear c3); (try clear qfr); (try clear qlH); (try clear c3b2); obtain ⟨qbC, rfl, HA, HK1, HB⟩ := hrel
  cases gk with
  | zero => exact absurd HA.1 (by simp [qbn.l0])
  | succ k1 =>
   have H := HA.1; clear HA; simp only [qbn.l0] at H; by_cases c4 : qbC < (l0.length : Int); rotate_left
   ·rw [if_neg c4] at H; have qfw := decide_eq_false c4; clear c4; obtain rfl := sj_ H; go_wp2
    go_ret
    exact ⟨qca, qao⟩
   rw [if_pos c4] at H; have qfw := decide_eq_true c4; clear c4; obtain ⟨c5, H⟩ := qct H; have qgL := decide_eq_true c5; clear c5; obtain ⟨c6, H⟩ := qct H; have qgc := decide_eq_true c6; clear c6; obtain ⟨qcb, A7, H⟩ := qaB H; (try dsimp only at H); by_cases c8 : qcb = true
   ·subst c8; rw [if_pos rfl] at H; have H' := ak_ H; clear H
    try go_wp2
    replace HB := ak_ (qah HB.1); have qeC : 0 ≤ (qbC : Int) := of_decide_eq_true qaL; have qeJ : qbC < (l0.length : Int) := of_decide_eq_true qaL; obtain ⟨qfL, qg7, qbk, qbL⟩ := qc6 HR0.1 qbC qeC qeJ; have qhc := qbL; have qhb := qbk
    cases qg7
    replace qbk := (HB.1.cell (World.block_lt_of_cell? w _ qbk)).trans qbk; replace qbL := (HB.1.cell (World.block_lt_of_cell? w _ qbL)).trans qbL; replace qeC := eq_true qeC; replace qeJ := eq_true qeJ; have qna : 0 ≤ (qbC : Int) := of_decide_eq_true qaL; have qnc : qbC < (l1.length : Int) := of_decide_eq_true qaL; obtain ⟨qkd, e102, qe0, qe1⟩ := qc6 HR1.1 qbC qna qnc; have qhe := qe1; have qhd := qe0
    cases e102
    replace qe0 := (HB.1.cell (World.block_lt_of_cell? w _ qe0)).trans qe0; replace qe1 := (HB.1.cell (World.block_lt_of_cell? w _ qe1)).trans qe1; replace qna := eq_true qna; replace qnc := eq_true qnc; refine qeS (n := 10) (S := fun w' => w'.cell? (qfL.add ((qbC).toNat * 2)) = some (.int .i64 ((qad l0 qbC).f0)) ∧ w'.cell? ⟨(qfL.add ((qbC).toNat * 2)).block, (qfL.add ((qbC).toNat * 2)).off + 1, none⟩ = some (.int .i64 ((qad l0 qbC).f1)) ∧ w'.cell? (qkd.add ((qbC).toNat * 2)) = some (.int .i64 ((qad l1 qbC).f0)) ∧ w'.cell? ⟨(qkd.add ((qbC).toNat * 2)).block, (qkd.add ((qbC).toNat * 2)).off + 1, none⟩ = some (.int .i64 ((qad l1 qbC).f1))) (ds := []) (rA_ [0, 10]) (by kernel_rfl) rfl rfl ⟨((HB.1.cell (World.block_lt_of_cell? w _ qhb)).trans qhb), ((HB.1.cell (World.block_lt_of_cell? w _ qhc)).trans qhc), ((HB.1.cell (World.block_lt_of_cell? w _ qhd)).trans qhd), ((HB.1.cell (World.block_lt_of_cell? w _ qhe)).trans qhe)⟩ (fun hHeld => ?_); refine qc0 qbn.tab6 qbn.bits6 (fun HT_ HW_ => ?_)
    generalize wr.drew = w9 at HB qbk qbL qe0 qe1 hHeld ⊢
    refine pu_ 0 17 [1, 9] ?_; refine pu_ 1 18 [2, 8] ?_; refine pu_ 2 19 [3, 7] ?_; refine pu_ 4 21 [3, 1, 1, 5] ?_; refine pu_ 5 22 [3, 1, 2, 4] ?_; refine pu_ 6 23 [3, 1, 3, 3] ?_; refine ta4_ 3 20 [7, 3] ?_; refine ta4_ 7 24 [8, 2] ?_; refine qfC (i := 8) (N := some 25) (rA_ [9, 1]) rfl rfl (qcJ HT_.out (by kernel_rfl)) (by decide) (fun K hK => ?_); refine qfN Tryz.func78 (by kernel_rfl) rfl #[.agg #[.int .i64 ((qad l0 qbC).f0), .int .i64 ((qad l0 qbC).f1)], .agg #[.int .i64 ((qad l1 qbC).f0), .int .i64 ((qad l1 qbC).f1)]] (by rfl) rfl rfl qbJ ?_
    with_reducible refine (qfj.calls ((qad l0 qbC).f0) ((qad l0 qbC).f1) ((qad l1 qbC).f0) ((qad l1 qbC).f1) true _ A7.1).mono ?_
    rintro e w10 ⟨rfl, hb⟩; refine ⟨_, rfl, ?_⟩; replace HB := HB.mw hb; (try clear hb); (try clear hb2); (try clear hk); (try clear hi); refine hK.out _ _ ⟨((HB.1.cell (World.block_lt_of_cell? w _ qhb)).trans qhb), ((HB.1.cell (World.block_lt_of_cell? w _ qhc)).trans qhc), ((HB.1.cell (World.block_lt_of_cell? w _ qhd)).trans qhd), ((HB.1.cell (World.block_lt_of_cell? w _ qhe)).trans qhe)⟩ (fun hHeld => ?_); clear hK K; refine nm_ 25 ?_; refine pu_ 9 26 [10] ?_; refine qf5 (qeh HT_.out (by kernel_rfl)) ?_
    try go_wp2
    go_roundg k1
    case measure => have := HK1.1; omega
    case rel => exact ⟨(wrap64 (qbC + 1)), qay, H', ⟨qc9⟩, ⟨qao⟩⟩
   replace c8 := Bool.eq_false_iff.mpr c8; subst c8; rw [if_neg ff_] at H; obtain rfl := sj_ H
   try go_wp2
   replace HB := ak_ (qah HB.1); have qeC : 0 ≤ (qbC : Int) := of_decide_eq_true qaL; have qeJ : qbC < (l0.length : Int) := of_decide_eq_true qaL; obtain ⟨qfL, qg7, qbk, qbL⟩ := qc6 HR0.1 qbC qeC qeJ; have qhc := qbL; have qhb := qbk
   cases qg7
   replace qbk := (HB.1.cell (World.block_lt_of_cell? w _ qbk)).trans qbk; replace qbL := (HB.1.cell (World.block_lt_of_cell? w _ qbL)).trans qbL; replace qeC := eq_true qeC; replace qeJ := eq_true qeJ; have qna : 0 ≤ (qbC : Int) := of_decide_eq_true qaL; have qnc : qbC < (l1.length : Int) := of_decide_eq_true qaL; obtain ⟨qkd, e102, qe0, qe1⟩ := qc6 HR1.1 qbC qna qnc; have qhe := qe1; have qhd := qe0
   cases e102
   replace qe0 := (HB.1.cell (World.block_lt_of_cell? w _ qe0)).trans qe0; replace qe1 := (HB.1.cell (World.block_lt_of_cell? w _ qe1)).trans qe1; replace qna := eq_true qna; replace qnc := eq_true qnc; refine qeS (n := 10) (S := fun w' => w'.cell? (qfL.add ((qbC).toNat * 2)) = some (.int .i64 ((qad l0 qbC).f0)) ∧ w'.cell? ⟨(qfL.add ((qbC).toNat * 2)).block, (qfL.add ((qbC).toNat * 2)).off + 1, none⟩ = some (.int .i64 ((qad l0 qbC).f1)) ∧ w'.cell? (qkd.add ((qbC).toNat * 2)) = some (.int .i64 ((qad l1 qbC).f0)) ∧ w'.cell? ⟨(qkd.add ((qbC).toNat * 2)).block, (qkd.add ((qbC).toNat * 2)).off + 1, none⟩ = some (.int .i64 ((qad l1 qbC).f1))) (ds := []) (rA_ [0, 10]) (by kernel_rfl) rfl rfl ⟨((HB.1.cell (World.block_lt_of_cell? w _ qhb)).trans qhb), ((HB.1.cell (World.block_lt_of_cell? w _ qhc)).trans qhc), ((HB.1.cell (World.block_lt_of_cell? w _ qhd)).trans qhd), ((HB.1.cell (World.block_lt_of_cell? w _ qhe)).trans qhe)⟩ (fun hHeld => ?_); refine qc0 qbn.tab6 qbn.bits6 (fun HT_ HW_ => ?_)
   generalize wr.drew = w11 at HB qbk qbL qe0 qe1 hHeld ⊢
   refine pu_ 0 17 [1, 9] ?_; refine pu_ 1 18 [2, 8] ?_; refine pu_ 2 19 [3, 7] ?_; refine pu_ 4 21 [3, 1, 1, 5] ?_; refine pu_ 5 22 [3, 1, 2, 4] ?_; refine pu_ 6 23 [3, 1, 3, 3] ?_; refine ta4_ 3 20 [7, 3] ?_; refine ta4_ 7 24 [8, 2] ?_; refine qfC (i := 8) (N := some 25) (rA_ [9, 1]) rfl rfl (qcJ HT_.out (by kernel_rfl)) (by decide) (fun K hK => ?_); refine qfN Tryz.func78 (by kernel_rfl) rfl #[.agg #[.int .i64 ((qad l0 qbC).f0), .int .i64 ((qad l0 qbC).f1)], .agg #[.int .i64 ((qad l1 qbC).f0), .int .i64 ((qad l1 qbC).f1)]] (by rfl) rfl rfl qbJ ?_
   with_reducible refine (qfj.calls ((qad l0 qbC).f0) ((qad l0 qbC).f1) ((qad l1 qbC).f0) ((qad l1 qbC).f1) false _ A7.1).mono ?_
   rintro e w12 ⟨rfl, hb⟩; refine ⟨_, rfl, ?_⟩; replace HB := HB.mw hb; (try clear hb); (try clear hb2); (try clear hk); (try clear hi); refine hK.out _ _ ⟨((HB.1.cell (World.block_lt_of_cell? w _ qhb)).trans qhb), ((HB.1.cell (World.block_lt_of_cell? w _ qhc)).trans qhc), ((HB.1.cell (World.block_lt_of_cell? w _ qhd)).trans qhd), ((HB.1.cell (World.block_lt_of_cell? w _ qhe)).trans qhe)⟩ (fun hHeld => ?_); clear hK K; refine nm_ 25 ?_; refine pu_ 9 26 [10] ?_; refine qf5 (qeh HT_.out (by kernel_rfl)) ?_
   try go_wp2
   go_ret
   exact ⟨qca, qao⟩
def qel.f (k : Nat) (qfn : List (qac)) (qbY : Int) (qog : List (qac)) (qgW : Int) : Option (Bool) := (qbn.f k qfn qog).bind fun qcb => (if qcb = true then (if qbY = qgW then (some true) else (some false)) else (some false))
theorem qel.calls (k : Nat) (qlB : Option Addr) (qlG : Nat) (qfn : List (qac)) (qbY : Int) (A1_0 : Option Addr) (c1_0 : Nat) (qog : List (qac)) (qgW : Int) (r : Bool) (w : World) (qob : Kd.C qaG w qlB qfn.length qfn) (qn1 : qfn.length ≤ qlG) (hr1_0 : Kd.C qaG w A1_0 qog.length qog) (hc1_0 : qog.length ≤ c1_0) (h : qel.f k qfn qbY qog qgW = some r) :
  Calls Tryz.prog 14 #[.agg #[.slice qlB qfn.length qlG, .int .i64 qbY], .agg #[.slice A1_0 qog.length c1_0, .int .i64 qgW]] w fun e w' => e = .returned (.bool r) ∧ Below w.heap.size w w' := by
 have hu28 := Tryz.underlying28; have HR0_0 := ak_ qob; have qoP := ak_ qn1; clear qob qn1; have HR1_0 := ak_ hr1_0; have HC1_0 := ak_ hc1_0; clear hr1_0 hc1_0; have HB := br_ w; have H : ((qbn.f k qfn qog).bind fun qcb => (if qcb = true then (if qbY = qgW then (some true) else (some false)) else (some false))) = some r := h; clear h; obtain ⟨qcb, A3, H⟩ := qaB H; (try dsimp only at H); by_cases c4 : qcb = true; rotate_left
 ·replace c4 := Bool.eq_false_iff.mpr c4; subst c4; rw [if_neg ff_] at H; obtain rfl := sj_ H; go_enter Tryz.func14, Tryz.ntmps14
  go_wp2_with (first | ((with_reducible refine qam (N := 2) rfl ?_); refine bx_ 2 rfl (cs := #[.slice qlB qfn.length qlG, .int .i64 qbY]) (t := 28) qa1 ?_; intro qbD hg w22 hbox hb; have qas := ak_ (hbox); have qdO := ak_ (HB.ge hg); have qdz := ak_ (HB.ge hg); replace HB := HB.mw hb; clear hb hbox hg) | ((with_reducible refine qam (N := 3) rfl ?_); refine bx_ 3 rfl (cs := #[.slice A1_0 qog.length c1_0, .int .i64 qgW]) (t := 28) qa1 ?_; intro qcO hg w23 hbox hb; have qbI := ak_ (hbox); have qfE := ak_ ((by rw [hg]; exact (qab qcw) : w.heap.size ≤ qcO)); have qfq := ak_ ((by rw [hg]; exact (qab qcw) : w.heap.size ≤ qcO)); replace HB := ak_ (qaa qcw hb); have qdr := ak_ (qas.ne hg); have qd8 := ak_ (qas.ne hg).symm; replace qas := qas.mw hb; clear hb hbox hg; have hnb24 := qdr.1; have hnc24 := qd8.1; obtain ⟨qsV, qsW, qtb, qtc⟩ := qbl qas.1; obtain ⟨hcz26_0, hcz26_1, hfz26_0, hfz26_1⟩ := qbl qbI.1) | (refine gl_ 9 Tryz.func46 #[.slice qlB qfn.length qlG, .slice A1_0 qog.length c1_0] rfl qbJ ?_; (with_reducible refine (qbn.calls k _ _ qfn _ _ qog false _ ?qaz ?qaA ?qjw ?qjx A3.1).mono ?_); (case qaz => exact k34_); (case qaA => exact qoP.1); (case qjw => exact k35_); (case qjx => exact HC1_0.1); rintro e w27 ⟨rfl, hb⟩; refine ⟨_, rfl, ?_⟩; replace qas := qas.mw hb; replace qbI := qbI.mw hb; replace HB := ak_ (qaa qqI hb); (try clear hb)))
  go_ret
  exact ⟨qca, qqI⟩
 subst c4; rw [if_pos rfl] at H; by_cases c5 : qbY = qgW
 ·rw [if_pos c5] at H; have qgL : (qbY == qgW) = true := beq_iff_eq.mpr c5; have qrb : (qbY != qgW) = false := bne_eq_false_iff_eq.mpr c5; clear c5; obtain rfl := sj_ H; go_enter Tryz.func14, Tryz.ntmps14
  go_wp2_with (first | ((with_reducible refine qam (N := 2) rfl ?_); refine bx_ 2 rfl (cs := #[.slice qlB qfn.length qlG, .int .i64 qbY]) (t := 28) qa1 ?_; intro qbD hg w6 hbox hb; have qas := ak_ (hbox); have qdO := ak_ (HB.ge hg); have qdz := ak_ (HB.ge hg); replace HB := HB.mw hb; clear hb hbox hg) | ((with_reducible refine qam (N := 3) rfl ?_); refine bx_ 3 rfl (cs := #[.slice A1_0 qog.length c1_0, .int .i64 qgW]) (t := 28) qa1 ?_; intro qcO hg w7 hbox hb; have qbI := ak_ (hbox); have qfE := ak_ ((by rw [hg]; exact (qab qcw) : w.heap.size ≤ qcO)); have qfq := ak_ ((by rw [hg]; exact (qab qcw) : w.heap.size ≤ qcO)); replace HB := ak_ (qaa qcw hb); have qdr := ak_ (qas.ne hg); have qd8 := ak_ (qas.ne hg).symm; replace qas := qas.mw hb; clear hb hbox hg; have hnb8 := qdr.1; have hnc8 := qd8.1; obtain ⟨qgA, qgB, qgC, qgD⟩ := qbl qas.1; obtain ⟨qkT, qkU, qkY, qkZ⟩ := qbl qbI.1) | (refine gl_ 9 Tryz.func46 #[.slice qlB qfn.length qlG, .slice A1_0 qog.length c1_0] rfl qbJ ?_; (with_reducible refine (qbn.calls k _ _ qfn _ _ qog true _ ?qaz ?qaA ?qjw ?qjx A3.1).mono ?_); (case qaz => exact k34_); (case qaA => exact qoP.1); (case qjw => exact k35_); (case qjx => exact HC1_0.1); rintro e w11 ⟨rfl, hb⟩; refine ⟨_, rfl, ?_⟩; replace qas := qas.mw hb; replace qbI := qbI.mw hb; replace HB := ak_ (qaa qqI hb); (try clear hb); obtain ⟨qmX, qmY, qmZ, qm0⟩ := qbl qas.1; obtain ⟨qiw, qix, qiy, qiz⟩ := qbl qbI.1))
  go_ret
  exact ⟨qca, qqI⟩
 rw [if_neg c5] at H; have qgL : (qbY == qgW) = false := beq_eq_false_iff_ne.mpr c5; have qrb : (qbY != qgW) = true := bne_iff_ne.mpr c5; obtain rfl := sj_ H; go_enter Tryz.func14, Tryz.ntmps14
 go_wp2_with (first | ((with_reducible refine qam (N := 2) rfl ?_); refine bx_ 2 rfl (cs := #[.slice qlB qfn.length qlG, .int .i64 qbY]) (t := 28) qa1 ?_; intro qbD hg w14 hbox hb; have qas := ak_ (hbox); have qdO := ak_ (HB.ge hg); have qdz := ak_ (HB.ge hg); replace HB := HB.mw hb; clear hb hbox hg) | ((with_reducible refine qam (N := 3) rfl ?_); refine bx_ 3 rfl (cs := #[.slice A1_0 qog.length c1_0, .int .i64 qgW]) (t := 28) qa1 ?_; intro qcO hg w15 hbox hb; have qbI := ak_ (hbox); have qfE := ak_ ((by rw [hg]; exact (qab qcw) : w.heap.size ≤ qcO)); have qfq := ak_ ((by rw [hg]; exact (qab qcw) : w.heap.size ≤ qcO)); replace HB := ak_ (qaa qcw hb); have qdr := ak_ (qas.ne hg); have qd8 := ak_ (qas.ne hg).symm; replace qas := qas.mw hb; clear hb hbox hg; have hnb16 := qdr.1; have hnc16 := qd8.1; obtain ⟨qsR, qsS, qs7, qs8⟩ := qbl qas.1; obtain ⟨qpr, qps, qpx, qpy⟩ := qbl qbI.1) | (refine gl_ 9 Tryz.func46 #[.slice qlB qfn.length qlG, .slice A1_0 qog.length c1_0] rfl qbJ ?_; (with_reducible refine (qbn.calls k _ _ qfn _ _ qog true _ ?qaz ?qaA ?qjw ?qjx A3.1).mono ?_); (case qaz => exact k34_); (case qaA => exact qoP.1); (case qjw => exact k35_); (case qjx => exact HC1_0.1); rintro e w19 ⟨rfl, hb⟩; refine ⟨_, rfl, ?_⟩; replace qas := qas.mw hb; replace qbI := qbI.mw hb; replace HB := ak_ (qaa qqI hb); (try clear hb); obtain ⟨hcz20_0, hcz20_1, hfz20_0, hfz20_1⟩ := qbl qas.1; obtain ⟨hcz21_0, hcz21_1, hfz21_0, hfz21_1⟩ := qbl qbI.1))
 go_ret
 exact ⟨qca, qqI⟩
def qbM.l0 : Nat → List (qac) → Int → Int → Option (Int × (List (qac)))
 | 0, _, _, _ => none
 | k + 1, x0, x1, x5 => if x5 < (x0.length : Int) then (if 0 ≤ x5 then ((some (x0.set (x5 : Int).toNat (⟨x1, (qad x0 x5).f1⟩ : qac) : List (qac))).bind fun qeW => (qbM.l0 k (qeW.set (x5 : Int).toNat (⟨(qad qeW x5).f0, wrap64 (x1 + 1)⟩ : qac)) (wrap64 ((wrap64 (x1 + 1)) + 1)) (wrap64 (x5 + 1)))) else (none)) else (some (x1, x0))
def qbM.f (k : Nat) (l0 : List (qac)) (a1 : Int) : Option (Int × (List (qac))) := qbM.l0 k l0 a1 0
theorem qbM.calls (k : Nat) (P0_ : Nat → Prop) (qij : Value) (l0 : List (qac)) (a1 : Int) (r1 : Int) (r2 : List (qac)) (w0 w : World) (hB : Below w0.heap.size w0 w) (ho0 : Kd.R qaG 85 w w0.heap.size P0_ qij l0) (h : qbM.f k l0 a1 = some (r1, r2)) :
  Calls Tryz.prog 47 #[qij, .int .i64 a1] w fun e w' => e = .returned (.int .i64 r1) ∧ Kd.R qaG 85 w' w0.heap.size (fun k_ => (P0_ k_ ∨ w.heap.size ≤ k_)) qij r2 ∧ Below w0.heap.size w0 w' ∧ Kept w w' (fun k_ => P0_ k_) := by
 have HO0 := ak_ (show Kd.R qaG 85 w w0.heap.size (fun k_ => (P0_ k_ ∨ w.heap.size ≤ k_)) qij l0 from Kd.qa2 ho0 (fun k_ hk => (.inl hk))); have HK := ak_ (Kept.refl w (fun k_ => P0_ k_)); have HW0 := ak_ hB.size; have HB := ak_ hB; clear hB; have H : (qbM.l0 k l0 a1 0) = some (r1, r2) := h; clear h; have H' := ak_ H; clear H; go_enter Tryz.func47, Tryz.ntmps47; go_wp2
 go_loopg [1, 5] k (fun kq v1 v5 w' => ∃ (qfJ : List (qac)) (qfK : Int) (qbC : Int), v1 = .int .i64 qfK ∧ v5 = .int .i64 qbC ∧ qai (qbM.l0 kq qfJ qfK qbC = some (r1, r2)) ∧ qai (kq ≤ k) ∧ qai (Kd.R qaG 85 w' w0.heap.size (fun k_ => (P0_ k_ ∨ w.heap.size ≤ k_)) qij qfJ) ∧ qai (Kept w w' (fun k_ => P0_ k_)) ∧ qai (Below w0.heap.size w0 w'))
 case atStart => exact ⟨(l0), (a1), (0), qay, qay, H', ⟨Nat.le_refl _⟩, ⟨by apply_rules only [HO0.1, Kd.qaq, Kd.qar, Kd.qax]⟩, ⟨k58_⟩, ⟨qao⟩⟩
 case round =>
  clear H'; obtain ⟨qfJ, qfK, qbC, rfl, rfl, HA, HK1, qno, HK, HB⟩ := hrel
  cases gk with
  | zero => exact absurd HA.1 (by simp [qbM.l0])
  | succ k1 =>
   have H := HA.1; clear HA; simp only [qbM.l0] at H; by_cases c3 : qbC < (qfJ.length : Int); rotate_left
   ·rw [if_neg c3] at H; have qfr := decide_eq_false c3; clear c3; obtain ⟨rfl, rfl⟩ := qdQ H; obtain ⟨qjI, qjK, qoJ⟩ := Kd.qaI qno.1; subst qoJ; go_wp2
    go_ret
    exact ⟨qca, by (with_reducible repeat (first | apply Kd.qaq | apply Kd.qar | apply Kd.qax)); exact qno.1, qao, k58_⟩
   rw [if_pos c3] at H; have qfr := decide_eq_true c3; clear c3; obtain ⟨c4, H⟩ := qct H; have qfw := decide_eq_true c4; clear c4
   obtain ⟨qeW, hy_⟩ : ∃ y_ : List (qac), y_ = (qfJ.set (qbC : Int).toNat (⟨qfK, (qad qfJ qbC).f1⟩ : qac)) := ⟨_, rfl⟩
   replace H : (qbM.l0 k1 (qeW.set (qbC : Int).toNat (⟨(qad qeW qbC).f0, wrap64 (qfK + 1)⟩ : qac)) (wrap64 ((wrap64 (qfK + 1)) + 1)) (wrap64 (qbC + 1))) = some (r1, r2) := qfb; have qet := ak_ hy_; clear hy_
   obtain ⟨qim, hy_⟩ : ∃ y_ : List (qac), y_ = (qeW.set (qbC : Int).toNat (⟨(qad qeW qbC).f0, wrap64 (qfK + 1)⟩ : qac)) := ⟨_, rfl⟩
   replace H : (qbM.l0 k1 qim (wrap64 ((wrap64 (qfK + 1)) + 1)) (wrap64 (qbC + 1))) = some (r1, r2) := qfb; have qgI := ak_ hy_; clear hy_; have H' := ak_ H; clear H; obtain ⟨Ao7, co7, eo7⟩ := Kd.qaI qno.1; subst eo7; have p5 : 0 ≤ (qbC : Int) := of_decide_eq_true qaL; have q5 : (qbC : Int) < ((qfJ.length : Int) : Int) := of_decide_eq_true qaL; obtain ⟨go5, co5, eo5, gb5, gl5, cl5, HG5⟩ := Kd.qe8 qno.1 (by omega); (first | cases eo5 | (injection eo5 with ea_ en_ ec_; (first | subst ea_ | (injection ea_ with ea_; subst ea_)); subst ec_; clear en_)); have GB5 := ak_ gb5; have GG5 := ak_ HG5; clear gb5 gl5 HG5; have HMgo5 := ak_ (show (P0_ go5 ∨ w.heap.size ≤ go5) from (qno.1.1 _ rfl)); obtain ⟨ce5, hcl5, hM5, hcc5, hfr5⟩ := Kd.qnB qno.1 qrL (qbC : Int) p5 q5; obtain rfl := qhh hM5; have hx5_0 : wr.cell? ⟨go5, (qbC : Int).toNat * 2, none⟩ = some (.int .i64 ((qad qfJ qbC).f0)) := hcc5 0 _ rfl; have hx5_1 : wr.cell? ⟨go5, (qbC : Int).toNat * 2 + 1, none⟩ = some (.int .i64 ((qad qfJ qbC).f1)) := hcc5 1 _ rfl; have hf5_0 : wr.frozen? ⟨go5, (qbC : Int).toNat * 2, none⟩ = false := hfr5 0; have hf5_1 : wr.frozen? ⟨go5, (qbC : Int).toNat * 2 + 1, none⟩ = false := hfr5 1; clear hcl5 hcc5 hfr5 hM5; replace p5 := eq_true p5; replace q5 := eq_true q5; have HX8 := ak_ (show Kd.R qaG 85 wr w0.heap.size (fun k_ => (P0_ k_ ∨ w.heap.size ≤ k_)) (.slice (some ⟨go5, 0, none⟩) qfJ.length co7) qfJ from (by apply_rules only [qno.1, Kd.qaq, Kd.qar, Kd.qax])); obtain ⟨ce8, hcl8, hM8, hcc8, hfr8⟩ := Kd.qnB HX8.1 qrL (qbC : Int) (of_decide_eq_true qaL) (by have h_ : (qbC : Int) < ((qfJ.length : Int) : Int) := of_decide_eq_true qaL; first | exact h_ | (have e_ := (Kd.qan qno.1).1; omega) | simpa using h_); obtain rfl := qhh hM8; have HP8 := Kd.R_seg HX8.1 (qbC : Int) (of_decide_eq_true qaL) (by have h_ : (qbC : Int) < ((qfJ.length : Int) : Int) := of_decide_eq_true qaL; first | exact h_ | (have e_ := (Kd.qan qno.1).1; omega) | simpa using h_) (seg := [.int .i64 qfK]) (j := 0) hcl8 hcc8 (show 1 ≤ 2 from by decide) (x' := (⟨qfK, (qad qfJ qbC).f1⟩ : qac)) (qc7 _ _ _ (⟨qfK, (qad qfJ qbC).f1⟩ : qac) ) (fun _ hk => hk); have hx8_0 := hcc8 0 _ rfl; (try simp only [show (qaG).sz = 2 from rfl, Nat.mul_one, Nat.add_zero] at hx8_0); have hf8_0 := hfr8 0; (try simp only [show (qaG).sz = 2 from rfl, Nat.mul_one, Nat.add_zero] at hf8_0); clear hcl8 hcc8 hfr8 hM8
   go_wp2_with (first | ((with_reducible refine ql9 (t := 3) (p := 16) rfl ?_); refine qlx (t := 3) (p := 16) (v := ?vo_w9) (w1 := (wr.setCell ⟨go5, (qbC : Int).toNat * 2, none⟩ (.int .i64 qfK))) ?hg ?ho ?hn ?hr ?_; (case ho => rfl); (case hg => rfl); (case hn => rfl); (case hr => exact qa1); intro w9 hw; have hg : wr.grownBy w9 (some go5) := (by rw [hw]; exact HP8.2); have hp_ : Kd.R qaG 85 w9 w0.heap.size (fun k_ => (P0_ k_ ∨ w.heap.size ≤ k_)) (.slice (some ⟨go5, 0, none⟩) qfJ.length co7) qeW := (by rw [hw, qet.1]; exact HP8.1); clear HP8; replace HB := ak_ ((by rw [hw]; exact qat (HB.1) GB5.1 : Below w0.heap.size w0 w9)); replace HK := ak_ (Kept.qi1 (S := (fun k_ => P0_ k_)) hg k58_ (fun k_ e_ => (qno.1.1 k_ e_))); replace qno := ak_ (hp_); clear hg hw hp_; have p6 : 0 ≤ (qbC : Int) := of_decide_eq_true qaL; have q6 : (qbC : Int) < ((qfJ.length : Int) : Int) := of_decide_eq_true qaL; obtain ⟨ce6, hcl6, hM6, hcc6, hfr6⟩ := Kd.qnB qno.1 qrL (qbC : Int) p6 q6; obtain rfl := qhh hM6; have hx6_0 : w9.cell? ⟨go5, (qbC : Int).toNat * 2, none⟩ = some (.int .i64 ((qad qeW qbC).f0)) := hcc6 0 _ rfl; have hx6_1 : w9.cell? ⟨go5, (qbC : Int).toNat * 2 + 1, none⟩ = some (.int .i64 ((qad qeW qbC).f1)) := hcc6 1 _ rfl; have hf6_0 : w9.frozen? ⟨go5, (qbC : Int).toNat * 2, none⟩ = false := hfr6 0; have hf6_1 : w9.frozen? ⟨go5, (qbC : Int).toNat * 2 + 1, none⟩ = false := hfr6 1; clear hcl6 hcc6 hfr6 hM6; replace p6 := eq_true p6; replace q6 := eq_true q6; have HX10 := ak_ (show Kd.R qaG 85 w9 w0.heap.size (fun k_ => (P0_ k_ ∨ w.heap.size ≤ k_)) (.slice (some ⟨go5, 0, none⟩) qfJ.length co7) qeW from (by apply_rules only [qno.1, Kd.qaq, Kd.qar, Kd.qax])); obtain ⟨ce10, hcl10, hM10, hcc10, hfr10⟩ := Kd.qnB HX10.1 qrL (qbC : Int) (of_decide_eq_true qaL) (by have h_ : (qbC : Int) < ((qfJ.length : Int) : Int) := of_decide_eq_true qaL; first | exact h_ | (have e_ := (Kd.qan qno.1).1; omega) | simpa using h_); obtain rfl := qhh hM10; have HP10 := Kd.R_seg HX10.1 (qbC : Int) (of_decide_eq_true qaL) (by have h_ : (qbC : Int) < ((qfJ.length : Int) : Int) := of_decide_eq_true qaL; first | exact h_ | (have e_ := (Kd.qan qno.1).1; omega) | simpa using h_) (seg := [.int .i64 (wrap64 (qfK + 1))]) (j := 1) hcl10 hcc10 (show 2 ≤ 2 from by decide) (x' := (⟨(qad qeW qbC).f0, wrap64 (qfK + 1)⟩ : qac)) (qc7 _ _ _ (⟨(qad qeW qbC).f0, wrap64 (qfK + 1)⟩ : qac) ) (fun _ hk => hk); have hx10_1 := hcc10 1 _ rfl; (try simp only [show (qaG).sz = 2 from rfl, Nat.mul_one, Nat.add_zero] at hx10_1); have hf10_1 := hfr10 1; (try simp only [show (qaG).sz = 2 from rfl, Nat.mul_one, Nat.add_zero] at hf10_1); clear hcl10 hcc10 hfr10 hM10) | ((with_reducible refine ql9 (t := 3) (p := 23) rfl ?_); refine qlx (t := 3) (p := 23) (v := ?vo_w11) (w1 := (w9.setCell ⟨go5, (qbC : Int).toNat * 2 + 1, none⟩ (.int .i64 (wrap64 (qfK + 1))))) ?hg ?ho ?hn ?hr ?_; (case ho => rfl); (case hg => rfl); (case hn => rfl); (case hr => exact qa1); intro w11 hw; have hg : w9.grownBy w11 (some go5) := (by rw [hw]; exact HP10.2); have hp_ : Kd.R qaG 85 w11 w0.heap.size (fun k_ => (P0_ k_ ∨ w.heap.size ≤ k_)) (.slice (some ⟨go5, 0, none⟩) qfJ.length co7) qim := (by rw [hw, qgI.1]; exact HP10.1); clear HP10; replace HB := ak_ ((by rw [hw]; exact qat (HB.1) GB5.1 : Below w0.heap.size w0 w11)); replace HK := ak_ (Kept.qi1 (S := (fun k_ => P0_ k_)) hg k58_ (fun k_ e_ => (qno.1.1 k_ e_))); replace qno := ak_ (hp_); clear hg hw hp_))
   go_roundg k1
   case measure => have := HK1.1; omega
   case rel => exact ⟨(qim), (wrap64 ((wrap64 (qfK + 1)) + 1)), (wrap64 (qbC + 1)), qay, qay, H', ⟨qc9⟩, ⟨by apply_rules only [qno.1, Kd.qaq, Kd.qar, Kd.qax]⟩, ⟨k58_⟩, ⟨qao⟩⟩
def qeA.f (k : Nat) (qfn : List (qac)) (qbY : Int) (a1 : Int) : Option (Int × (List (qac))) := (qbM.f k qfn a1).bind fun qdo => (some (qdo.1, qdo.2))
theorem qeA.calls (k : Nat) (qnz : Nat → Prop) (qij : Value) (qfn : List (qac)) (qbY : Int) (a1 : Int) (r1 : Int) (r2 : List (qac)) (w0 w : World) (hB : Below w0.heap.size w0 w) (ho0_0 : Kd.R qaG 85 w w0.heap.size qnz qij qfn) (h : qeA.f k qfn qbY a1 = some (r1, r2)) :
  Calls Tryz.prog 15 #[.agg #[qij, .int .i64 qbY], .int .i64 a1] w fun e w' => e = .returned (.int .i64 r1) ∧ Kd.R qaG 85 w' w0.heap.size (fun k_ => (qnz k_ ∨ w.heap.size ≤ k_)) qij r2 ∧ Below w0.heap.size w0 w' ∧ Kept w w' (fun k_ => qnz k_) := by
 have hu28 := Tryz.underlying28; have qmE := ak_ (show Kd.R qaG 85 w w0.heap.size (fun k_ => (qnz k_ ∨ w.heap.size ≤ k_)) qij qfn from Kd.qa2 ho0_0 (fun k_ hk => (.inl hk))); have HK := ak_ (Kept.refl w (fun k_ => qnz k_)); have HW0 := ak_ hB.size; have HB := ak_ hB; clear hB; have H : ((qbM.f k qfn a1).bind fun qdo => (some (qdo.1, qdo.2))) = some (r1, r2) := h; clear h; obtain ⟨⟨qaQ, qcb⟩, A3, H⟩ := qaB H; (try dsimp only at H); obtain ⟨rfl, rfl⟩ := qdQ H; obtain ⟨Ao4, co4, eo4⟩ := Kd.qaI qmE.1; subst eo4; go_enter Tryz.func15, Tryz.ntmps15
 go_wp2_with (first | ((with_reducible refine qam (N := 2) rfl ?_); refine bx_ 2 rfl (cs := #[.slice Ao4 qfn.length co4, .int .i64 qbY]) (t := 28) qa1 ?_; intro qbD hg w5 hbox hb; replace qmE := qmE.mw hb; have qas := ak_ (hbox); have qdO := ak_ ((by rw [hg]; exact (by first | exact HK.1.1 | exact (show Kept w _ (fun k_ => qnz k_) from k58_).1) : w.heap.size ≤ qbD)); replace HK := ak_ (Kept.below (S := (fun k_ => qnz k_)) k58_ hb); have qdz := ak_ ((by rw [hg]; exact (qab qao) : w0.heap.size ≤ qbD)); replace HB := HB.mw hb; clear hb hbox hg; obtain ⟨qkV, qkW, qk0, qk1⟩ := qbl qas.1) | (refine gl_ 8 Tryz.func47 #[.slice Ao4 qfn.length co4, .int .i64 a1] rfl qbJ ?_; (with_reducible refine (qbM.calls k (fun k_ => some k_ = (.slice Ao4 qfn.length co4 : Value).ownBlock) (.slice Ao4 qfn.length co4) qfn a1 qaQ qcb w0 _ ?qaz ?qaA A3.1).mono ?_); (case qaz => exact qcw); (case qaA => exact Kd.qhJ rfl qmE.1); rintro e w7 ⟨rfl, hy0, hb, hkp⟩; refine ⟨_, rfl, ?_⟩; replace qas := ak_ (qmM qmg hkp (fun hs_ => (fun e_ => (Kd.qo1 qmE.1 qas.1 (by decide)) e_) hs_)); replace HK := ak_ (Kept.then_ (S := (fun k_ => qnz k_)) (by repeat (first | (with_reducible first | exact HK.1 | apply Kept.alloc | apply Kept.drewN | apply Kept.drew | refine Kept.setCell ?_ (.inr qdO.1) _) | exact HK.1)) hkp (fun k_ hs_ => (fun e_ => (qmE.1.1 k_ e_.symm)) hs_)); replace qmE := ak_ (Kd.R_reok rfl hy0 (fun k_ e_ => qmE.1.1 k_ e_)); replace HB := ak_ (hb); (try clear hb hkp hy0)))
 go_ret
 exact ⟨qca, by (with_reducible repeat (first | apply Kd.qaq | apply Kd.qar | apply Kd.qax)); exact qmE.1, qcw, by repeat (first | (with_reducible first | exact HK.1 | apply Kept.alloc | apply Kept.drewN | apply Kept.drew | refine Kept.setCell ?_ (.inr qdO.1) _) | exact HK.1)⟩
def qbV.l0 : Nat → List (qac) → Int → Int → Option (Int)
 | 0, _, _, _ => none
 | k + 1, x0, x1, x5 => if x5 < (x0.length : Int) then (if 0 ≤ x5 then (if ((qad x0 x5).f0) = x1 then (if ((qad x0 x5).f1) = (wrap64 (x1 + 1)) then (qbV.l0 k x0 (wrap64 ((wrap64 (x1 + 1)) + 1)) (wrap64 (x5 + 1))) else (some (-1))) else (some (-1))) else (none)) else (some x1)
def qbV.f (k : Nat) (l0 : List (qac)) (a1 : Int) : Option (Int) := qbV.l0 k l0 a1 0
theorem qbV.calls (k : Nat) (A0 : Option Addr) (c0 : Nat) (l0 : List (qac)) (a1 : Int) (r : Int) (w : World) (hr0 : Kd.C qaG w A0 l0.length l0) (hc0 : l0.length ≤ c0) (h : qbV.f k l0 a1 = some r) :
  Calls Tryz.prog 48 #[.slice A0 l0.length c0, .int .i64 a1] w fun e w' => e = .returned (.int .i64 r) ∧ qcY w w' := by
 have HR0 := ak_ hr0; have HC0 := ak_ hc0; clear hr0 hc0; have H : (qbV.l0 k l0 a1 0) = some r := h; clear h; have H' := ak_ H; clear H; go_enter Tryz.func48, Tryz.ntmps48; go_wp2
 go_loopg [1, 5] k (fun kq v1 v5 w' => ∃ (qfK : Int) (qbC : Int), v1 = .int .i64 qfK ∧ v5 = .int .i64 qbC ∧ qai (qbV.l0 kq l0 qfK qbC = some r) ∧ qai (kq ≤ k) ∧ qcY w w')
 case atStart => exact ⟨(a1), (0), qay, qay, H', ⟨Nat.le_refl _⟩, qc3⟩
 case round =>
  clear H'; obtain ⟨qfK, qbC, rfl, rfl, HA, HK1, ⟨m1, rfl⟩⟩ := hrel
  cases gk with
  | zero => exact absurd HA.1 (by simp [qbV.l0])
  | succ k1 =>
   have H := HA.1; clear HA; simp only [qbV.l0] at H; by_cases c3 : qbC < (l0.length : Int); rotate_left
   ·rw [if_neg c3] at H; have qfr := decide_eq_false c3; clear c3; obtain rfl := sj_ H; go_wp2
    go_ret
    exact ⟨qay, qc3⟩
   rw [if_pos c3] at H; have qfr := decide_eq_true c3; clear c3; obtain ⟨c4, H⟩ := qct H; have qfw := decide_eq_true c4; clear c4; by_cases c5 : ((qad l0 qbC).f0) = qfK; rotate_left
   ·rw [if_neg c5] at H; have qgL : (((qad l0 qbC).f0) == qfK) = false := beq_eq_false_iff_ne.mpr c5; have qrb : (((qad l0 qbC).f0) != qfK) = true := bne_iff_ne.mpr c5; obtain rfl := sj_ H; have qeC : 0 ≤ (qbC : Int) := of_decide_eq_true qaL; have qeJ : qbC < (l0.length : Int) := of_decide_eq_true qaL; obtain ⟨qfL, qg7, qbk, qbL⟩ := qc6 HR0.1 qbC qeC qeJ
    cases qg7
    replace qeC := eq_true qeC; replace qeJ := eq_true qeJ; go_wp2
    go_ret
    exact ⟨qay, qc3⟩
   rw [if_pos c5] at H; have qgL : (((qad l0 qbC).f0) == qfK) = true := beq_iff_eq.mpr c5; have qrb : (((qad l0 qbC).f0) != qfK) = false := bne_eq_false_iff_eq.mpr c5; clear c5; by_cases c6 : ((qad l0 qbC).f1) = (wrap64 (qfK + 1)); rotate_left
   ·rw [if_neg c6] at H; have qgc : (((qad l0 qbC).f1) == (wrap64 (qfK + 1))) = false := beq_eq_false_iff_ne.mpr c6; have qnJ : (((qad l0 qbC).f1) != (wrap64 (qfK + 1))) = true := bne_iff_ne.mpr c6; obtain rfl := sj_ H; have qeC : 0 ≤ (qbC : Int) := of_decide_eq_true qaL; have qeJ : qbC < (l0.length : Int) := of_decide_eq_true qaL; obtain ⟨qfL, qg7, qbk, qbL⟩ := qc6 HR0.1 qbC qeC qeJ
    cases qg7
    replace qeC := eq_true qeC; replace qeJ := eq_true qeJ; have qna : 0 ≤ (qbC : Int) := of_decide_eq_true qaL; have qnc : qbC < (l0.length : Int) := of_decide_eq_true qaL; obtain ⟨qkd, e102, qe0, qe1⟩ := qc6 HR0.1 qbC qna qnc
    obtain rfl : qfL = qkd := (by injection e102)
    replace qna := eq_true qna; replace qnc := eq_true qnc; go_wp2
    go_ret
    exact ⟨qay, qc3⟩
   rw [if_pos c6] at H; have qgc : (((qad l0 qbC).f1) == (wrap64 (qfK + 1))) = true := beq_iff_eq.mpr c6; have qnJ : (((qad l0 qbC).f1) != (wrap64 (qfK + 1))) = false := bne_eq_false_iff_eq.mpr c6; clear c6; have H' := ak_ H; clear H; have qeC : 0 ≤ (qbC : Int) := of_decide_eq_true qaL; have qeJ : qbC < (l0.length : Int) := of_decide_eq_true qaL; obtain ⟨qfL, qg7, qbk, qbL⟩ := qc6 HR0.1 qbC qeC qeJ
   cases qg7
   replace qeC := eq_true qeC; replace qeJ := eq_true qeJ; have qna : 0 ≤ (qbC : Int) := of_decide_eq_true qaL; have qnc : qbC < (l0.length : Int) := of_decide_eq_true qaL; obtain ⟨qkd, e102, qe0, qe1⟩ := qc6 HR0.1 qbC qna qnc
   obtain rfl : qfL = qkd := (by injection e102)
   replace qna := eq_true qna; replace qnc := eq_true qnc; go_wp2
   go_roundg k1
   case measure => have := HK1.1; omega
   case rel => exact ⟨(wrap64 ((wrap64 (qfK + 1)) + 1)), (wrap64 (qbC + 1)), qay, qay, H', ⟨qc9⟩, qc3⟩
def qdC.f (k : Nat) (qfn : List (qac)) (qbY : Int) (a1 : Int) : Option (Int) := (qbV.f k qfn a1).bind fun qaQ => (if qaQ < 0 then (some (-1)) else (some qaQ))
theorem qdC.calls (k : Nat) (qlB : Option Addr) (qlG : Nat) (qfn : List (qac)) (qbY : Int) (a1 : Int) (r : Int) (w : World) (qob : Kd.C qaG w qlB qfn.length qfn) (qn1 : qfn.length ≤ qlG) (h : qdC.f k qfn qbY a1 = some r) :
  Calls Tryz.prog 16 #[.agg #[.slice qlB qfn.length qlG, .int .i64 qbY], .int .i64 a1] w fun e w' => e = .returned (.int .i64 r) ∧ Below w.heap.size w w' := by
 have hu28 := Tryz.underlying28; have HR0_0 := ak_ qob; have qoP := ak_ qn1; clear qob qn1; have HB := br_ w; have H : ((qbV.f k qfn a1).bind fun qaQ => (if qaQ < 0 then (some (-1)) else (some qaQ))) = some r := h; clear h; obtain ⟨qaQ, A3, H⟩ := qaB H; (try dsimp only at H); by_cases c4 : qaQ < 0
 ·rw [if_pos c4] at H; have qfw := decide_eq_true c4; clear c4; obtain rfl := sj_ H; go_enter Tryz.func16, Tryz.ntmps16
  go_wp2_with (first | ((with_reducible refine qam (N := 2) rfl ?_); refine bx_ 2 rfl (cs := #[.slice qlB qfn.length qlG, .int .i64 qbY]) (t := 28) qa1 ?_; intro qbD hg w5 hbox hb; have qas := ak_ (hbox); have qdO := ak_ (HB.ge hg); have qdz := ak_ (HB.ge hg); replace HB := HB.mw hb; clear hb hbox hg; obtain ⟨qkV, qkW, qk0, qk1⟩ := qbl qas.1) | (refine gl_ 8 Tryz.func48 #[.slice qlB qfn.length qlG, .int .i64 a1] rfl qbJ ?_; (with_reducible refine (qbV.calls k _ _ qfn a1 qaQ _ ?qaz ?qaA A3.1).mono ?_); (case qaz => exact k34_); (case qaA => exact qoP.1); rintro e w' ⟨rfl, ⟨nd, rfl⟩⟩; refine ⟨_, rfl, ?_⟩))
  go_ret
  exact ⟨qca, qcw⟩
 rw [if_neg c4] at H; have qfw := decide_eq_false c4; clear c4; obtain rfl := sj_ H; go_enter Tryz.func16, Tryz.ntmps16
 go_wp2_with (first | ((with_reducible refine qam (N := 2) rfl ?_); refine bx_ 2 rfl (cs := #[.slice qlB qfn.length qlG, .int .i64 qbY]) (t := 28) qa1 ?_; intro qbD hg w7 hbox hb; have qas := ak_ (hbox); have qdO := ak_ (HB.ge hg); have qdz := ak_ (HB.ge hg); replace HB := HB.mw hb; clear hb hbox hg; obtain ⟨qjN, qjO, qjS, qjT⟩ := qbl qas.1) | (refine gl_ 8 Tryz.func48 #[.slice qlB qfn.length qlG, .int .i64 a1] rfl qbJ ?_; (with_reducible refine (qbV.calls k _ _ qfn a1 qaQ _ ?qaz ?qaA A3.1).mono ?_); (case qaz => exact k34_); (case qaA => exact qoP.1); rintro e w' ⟨rfl, ⟨nd, rfl⟩⟩; refine ⟨_, rfl, ?_⟩))
 go_ret
 exact ⟨qca, qcw⟩
def PredR (g : Nat) (lb : Array Value) (p : qac → Bool) (l : List qac) (w : World) : Prop :=
  ∀ (W : World) (x : qac), x ∈ l → Below w.heap.size w W → Calls Tryz.prog g (#[.agg #[.int .i64 x.f0, .int .i64 x.f1]] ++ lb) W fun e w' => e = .returned (.bool (p x)) ∧ Below w.heap.size w w'
def qei (p : qac → Bool) : List qac → Int → Int
  | [], _ => -1
  | x :: l, i => if p x = true then i else qei p l (i + 1)
theorem qkQ (l : List qac) (k : Nat) (h : k < l.length) : l.drop k = qad l k :: l.drop (k + 1) := by
  rw [List.drop_eq_getElem_cons h]
  simp [qad, List.getD, h]
theorem qor (l : List qac) (k : Nat) (h : k < l.length) : qad l k ∈ l := by
  simp [qad, List.getD, h]
theorem qpm {p : qac → Bool} {l : List qac} {k : Nat} (h : k < l.length) (hp : p (qad l k) = true) : qei p (l.drop k) k = k := by
  rw [qkQ l k h, qei, if_pos hp]
theorem qnW {p : qac → Bool} {l : List qac} {k : Nat} (h : k < l.length) (hp : p (qad l k) = false) : qei p (l.drop k) k = qei p (l.drop (k + 1)) ((k + 1 : Nat) : Int) := by
  rw [qkQ l k h, qei, if_neg (by simp [hp])]; rfl
theorem qpl {p : qac → Bool} {l : List qac} {k : Nat} (h : l.length ≤ k) : qei p (l.drop k) k = -1 := by
  rw [List.drop_eq_nil_of_le h]; rfl
set_option maxHeartbeats 2000000 in
theorem qoe (p : qac → Bool) (g : Nat) (lb : Array Value) (eg : ∀ args w, (callFunc g args).run Tryz.prog w = .ok (.enter g args) w)
    (A0 : Option Addr) (c0 : Nat) (l0 : List qac) (w : World) (hp : PredR g lb p l0 w) (hr0 : Kd.C qaG w A0 l0.length l0) :
    Calls Tryz.prog 145 #[.slice A0 l0.length c0, .func (.func g) #[] lb] w fun e w' => e = .returned (.int .i64 (qei p l0 0)) ∧ Below w.heap.size w w' := by
  have hu := Tryz.underlying85; have hm : l0.length ≤ 9223372036854775807 := Kd.C_max hr0; have HR0 := ak_ hr0; have HP := ak_ hp; clear hr0 hp; have HB := br_ w; have H0 := ak_ (show qei p l0 0 = qei p (l0.drop 0) ((0 : Nat) : Int) from rfl); go_enter Tryz.func145, Tryz.ntmps145; go_wp2
  go_loopg [5, 8] l0.length (fun gg _ s8 wr => ∃ kk : Nat, kk ≤ l0.length ∧ l0.length - kk ≤ gg ∧ s8 = .int .i64 kk ∧ qai (Below w.heap.size w wr) ∧ qai (qei p l0 0 = qei p (l0.drop kk) kk))
  case atStart => exact ⟨0, Nat.zero_le _, by omega, rfl, HB, H0⟩
  case round =>
    clear HB H0; obtain ⟨kk, hkk, hg, rfl, HB, HI⟩ := hrel; by_cases hlt : kk < l0.length; rotate_left
    ·have hltz : ¬ (kk : Int) < (l0.length : Int) := by omega
     have HQ := ak_ (qpl (p := p) (l := l0) (k := kk) (by omega)); go_wp2
     go_ret
     exact ⟨by rw [HI.1, HQ.1]; rfl, HB.1⟩
    have hltz : (kk : Int) < (l0.length : Int) := by omega
    obtain ⟨ad, e, hx0, hx1⟩ := qc6 HR0.1 (kk : Int) (by omega) hltz
    cases e
    replace hx0 := (HB.1.cell (World.block_lt_of_cell? w _ hx0)).trans hx0; replace hx1 := (HB.1.cell (World.block_lt_of_cell? w _ hx1)).trans hx1; simp only [Int.toNat_natCast] at hx0 hx1; have hcall := HP.1 wr (qad l0 (kk : Int)) (qor l0 kk hlt) HB.1
    cases hq : p (qad l0 (kk : Int)) with
    | true =>
      rw [hq] at hcall; have HQ := ak_ (qpm hlt hq); clear hq
      go_wp2_with (go_at_fn g; refine hcall.mono ?_; rintro e w' ⟨rfl, hb'⟩)
      go_ret
      exact ⟨by rw [HI.1, HQ.1]; rfl, hb'⟩
    | false =>
      rw [hq] at hcall; have HQ := ak_ (qnW hlt hq); clear hq
      go_wp2_with (go_at_fn g; refine hcall.mono ?_; rintro e w' ⟨rfl, hb'⟩)
      go_roundg (l0.length - (kk + 1))
      case measure => omega
      case rel => exact ⟨kk + 1, by omega, by omega, by go_num, ⟨hb'⟩, ⟨by rw [HI.1, HQ.1]⟩⟩
theorem qcX : (Tryz.prog.info? 85).map (fun i => (i.zero, i.size, i.bytes)) = some (some (.agg #[(.int .i64 0), (.int .i64 0)]), 2, 16) := by kernel_rfl
def qeP (w0 w : World) (vo v : Value) (o : List (List qac)) (W : World) : Prop :=
  Kd.S (Kd.slice 85 qaG) 26 W w0.heap.size (fun _ => True) v o ∧ Below w0.heap.size w0 W ∧ w.grownBy W vo.ownBlock ∧ (v.ownBlock = vo.ownBlock ∨ ∃ b, v.ownBlock = some b ∧ w.heap.size ≤ b)
theorem qha {w w1 w2 : World} {r r' : Option Nat} (h : w.grownBy w1 r) (h2 : w1.grownBy w2 r') (hr : r' = r ∨ ∃ b, r' = some b ∧ w.heap.size ≤ b) : w.grownBy w2 r :=
  ⟨h2.os.trans h.os, h2.tape.trans h.tape, h2.output.trans h.output, Nat.le_trans h.size h2.size, fun k hk hne => (h2.block k (Nat.lt_of_lt_of_le hk h.size) (fun e => by
    rcases hr with hr | ⟨b, hr, hb⟩
    ·exact hne (e.trans hr)
    rw [hr] at e; injection e with e; omega)).trans (h.block k hk hne)⟩
theorem qnF {w w1 w2 : World} {r : Option Nat} (h : Below w.heap.size w w1) (h2 : w1.grownBy w2 r) : w.grownBy w2 r := qha (qej h r) h2 (.inl rfl)
theorem qeP.refl {w0 w : World} {v : Value} {o : List (List qac)} (hS : Kd.S (Kd.slice 85 qaG) 26 w w0.heap.size (fun _ => True) v o) (hB : Below w0.heap.size w0 w) : qeP w0 w v v o w :=
  ⟨hS, hB, qej (Below.refl _ _) _, .inl rfl⟩
theorem qeP.below {w0 w : World} {vo v : Value} {o : List (List qac)} {W W1 : World} (h : qeP w0 w vo v o W) (hb : Below W.heap.size W W1) : qeP w0 w vo v o W1 :=
  ⟨Kd.qg3 h.1 hb, qaa h.2.1 hb, qha h.2.2.1 (qej hb vo.ownBlock) (.inl rfl), h.2.2.2⟩
theorem qeP.trans {w0 w : World} {vo v v1 : Value} {o o1 : List (List qac)} {W W1 : World} (h : qeP w0 w vo v o W) (h2 : qeP w0 W v v1 o1 W1) : qeP w0 w vo v1 o1 W1 := by
  refine ⟨h2.1, h2.2.1, qha h.2.2.1 h2.2.2.1 h.2.2.2, ?_⟩
  rcases h2.2.2.2 with e | ⟨b, e, hb⟩
  ·rw [e]; exact h.2.2.2
  exact .inr ⟨b, e, Nat.le_trans h.2.2.1.size hb⟩
theorem qpe {P : Program} {n : Nat} (w : World) (t e ty : TypeId) (z : Value) (ht : P.underlying t = some (.slice e)) (hv : ∀ w, (zeroValue e).run P w = .ok z w) (hz : ∀ u ∈ (Builtin.zeroCells z.cells n).toList, u.oneCell' = true) (b o c : Nat) (hn : 0 < n) (hne : 0 < z.cells.size)
    (hc : ∀ j, j < n * z.cells.size → (w.cell? ⟨b, o + j, none⟩).isSome = true) (hf : ∀ j, j < n * z.cells.size → w.frozen? ⟨b, o + j, none⟩ = false) :
    (Builtin.clear_ #[t] ty #[.slice (some ⟨b, o, none⟩) n c]).run P w = .ok (.tuple #[]) (w.setCells b o (Builtin.zeroCells z.cells n).toList) := by
  have hl : (Builtin.zeroCells z.cells n).toList.length = n * z.cells.size := by simp [Builtin.zeroCells]
  have hst := run_storeCells_cells (P := P) b o (Builtin.zeroCells z.cells n).toList 0 w (by rw [hl]; simpa using hc) (by rw [hl]; simpa using hf) hz; simp only [Nat.add_zero] at hst
  obtain ⟨m, rfl⟩ : ∃ m, n = m + 1 := ⟨n - 1, by omega⟩
  simp [Builtin.clear_, run_underlying ht, hv, hst]
theorem qi0 (b : Nat) : ∀ (vs : List Value) (o : Nat) (w : World) (cur : Array Value) (e : TypeId) (fr : Nat × Nat), w.heap[b]? = some (.cells cur e fr) → ∃ cur', (w.setCells b o vs).heap[b]? = some (.cells cur' e fr) ∧ cur'.size = cur.size ∧ ∀ j, j < o → cur'[j]? = cur[j]?
  | [], _, _, cur, _, _, h => ⟨cur, h, rfl, fun _ _ => rfl⟩
  | v :: r, o, w, cur, e, fr, h => by
    have h1 : (w.setCell ⟨b, o, none⟩ v).heap[b]? = some (.cells (cur.setIfInBounds o v) e fr) := by simp [World.setCell, Array.getElem?_modify, h]
    obtain ⟨cur', h2, h3, h4⟩ := qi0 b r (o + 1) _ _ _ _ h1; refine ⟨cur', h2, by simpa using h3, fun j hj => ?_⟩; rw [h4 j (by omega), Array.getElem?_setIfInBounds, if_neg (by omega)]
theorem R_clear {α : Type} {d : Kd α} {e base g n c : Nat} {ok : Nat → Prop} {w : World} {xs : List α} (h : d.R e w base ok (.slice (some ⟨g, 0, none⟩) n c) xs) (o : Nat) (vs : List Value) (ho : xs.length * d.sz ≤ o) : d.R e (w.setCells g o vs) base ok (.slice (some ⟨g, 0, none⟩) n c) xs := by
  obtain ⟨h0, inner, hown, hr⟩ := h; refine ⟨h0, inner, ⟨hown.1, ?_⟩, hr.qmf (fun p cs hp => d.M_move (fun k hk => qgF vs o k (fun e_ => hk.2 (by rw [e_]; rfl))) hp)⟩
  rcases hown.2 with ⟨hv, _⟩ | ⟨g', cap, cur, hv, hb, hh, hnc, hcm, hcs, ht⟩
  ·cases hv
  injection hv with ha hn hc
  injection ha with ha
  injection ha with hg
  subst hg; subst hc; obtain ⟨cur', h2, h3, h4⟩ := qi0 g vs o w cur e (0, 0) hh; refine .inr ⟨g, c, cur', by rw [hn], hb, h2, hnc, hcm, by rw [h3]; exact hcs, ?_⟩; rw [← ht]; apply List.ext_getElem?; intro j; simp only [List.getElem?_take, Array.getElem?_toList]; split
  ·next hj => exact h4 j (by omega)
  rfl
theorem qie (w : World) (g o : Nat) (vs : List Value) : w.grownBy (w.setCells g o vs) (some g) :=
  ⟨(qe7 g vs o w).1, (qe7 g vs o w).2.1, (qe7 g vs o w).2.2.1, Nat.le_of_eq (qe7 g vs o w).2.2.2.symm, fun k _ hk => qgF vs o k (fun e => hk (by rw [e]))⟩
theorem qo4 (g o n : Nat) : (⟨g, o, none⟩ : Addr).add n = ⟨g, o + n, none⟩ := add_at g o n
theorem zero_run {P : Program} {e : TypeId} {z : Value} {size bytes : Nat} (h : (P.info? e).map (fun i => (i.zero, i.size, i.bytes)) = some (some z, size, bytes)) (w : World) : (zeroValue e).run P w = .ok z w := by
  obtain ⟨i, hi, hz⟩ := Option.map_eq_some_iff.1 h; simp only [Prod.mk.injEq] at hz
  simp [zeroValue, typeInfo, hi, hz.1]
def qlc : Go.Shelf.Ren := ⟨fun | 171 => 87 | 243 => 146 | 246 => 203 | 283 => 240 | 284 => 241 | 285 => 242 | 286 => 243 | 129 => 259 | 317 => 258 | 318 => 260 | 319 => 261 | 320 => 262 | 337 => 277 | 338 => 278 | n => n, fun | 3 => 3 | 9 => 9 | 2 => 2 | 4 => 4 | 171 => 200 | 0 => 0 | 53 => 68 | 37 => 35 | 5 => 5 | 173 => 203 | 212 => 219 | 51 => 179 | 20 => 20 | 213 => 220 | 46 => 165 | 232 => 246 | 233 => 247 | n => n, fun | 17 => 3 | 18 => 6 | 19 => 7 | n => n⟩
theorem qtF : Go.Proofs.LaysM.n171 Tryz.prog qlc := {
  mixed := by kernel_rfl
  f129 := cs_ Tryz.func259
  f171 := cs_ Tryz.func87
  f243 := cs_ Tryz.func146
  f246 := cs_ Tryz.func203
  f283 := cs_ Tryz.func240
  f284 := cs_ Tryz.func241
  f285 := cs_ Tryz.func242
  f286 := cs_ Tryz.func243
  f317 := cs_ Tryz.func258
  f318 := cs_ Tryz.func260
  f319 := cs_ Tryz.func261
  f320 := cs_ Tryz.func262
  f337 := cs_ Tryz.func277
  f338 := cs_ Tryz.func278
  t0 := Tryz.underlying0
  a0 := Tryz.isAgg0
  z0 := Tryz.sizeOf0
  v0 := Tryz.zeroValue0
  t2 := Tryz.underlying2
  a2 := Tryz.isAgg2
  z2 := Tryz.sizeOf2
  v2 := Tryz.zeroValue2
  t3 := Tryz.underlying3
  a3 := Tryz.isAgg3
  z3 := Tryz.sizeOf3
  v3 := Tryz.zeroValue3
  t4 := Tryz.underlying4
  a4 := Tryz.isAgg4
  z4 := Tryz.sizeOf4
  v4 := Tryz.zeroValue4
  t5 := Tryz.underlying5
  a5 := Tryz.isAgg5
  z5 := Tryz.sizeOf5
  v5 := Tryz.zeroValue5
  t9 := Tryz.underlying9
  a9 := Tryz.isAgg9
  z9 := Tryz.sizeOf9
  v9 := Tryz.zeroValue9
  t20 := Tryz.underlying20
  a20 := Tryz.isAgg20
  z20 := Tryz.sizeOf20
  v20 := Tryz.zeroValue20
  t37 := Tryz.underlying35
  a37 := Tryz.isAgg35
  z37 := Tryz.sizeOf35
  v37 := Tryz.zeroValue35
  t46 := Tryz.underlying165
  a46 := Tryz.isAgg165
  z46 := Tryz.sizeOf165
  v46 := Tryz.zeroValue165
  t51 := Tryz.underlying179
  a51 := Tryz.isAgg179
  z51 := Tryz.sizeOf179
  v51 := Tryz.zeroValue179
  t53 := Tryz.underlying68
  a53 := Tryz.isAgg68
  z53 := Tryz.sizeOf68
  v53 := Tryz.zeroValue68
  t171 := Tryz.underlying200
  a171 := Tryz.isAgg200
  z171 := Tryz.sizeOf200
  v171 := Tryz.zeroValue200
  t173 := Tryz.underlying203
  a173 := Tryz.isAgg203
  z173 := Tryz.sizeOf203
  v173 := Tryz.zeroValue203
  t212 := Tryz.underlying219
  a212 := Tryz.isAgg219
  z212 := Tryz.sizeOf219
  v212 := Tryz.zeroValue219
  t213 := Tryz.underlying220
  a213 := Tryz.isAgg220
  z213 := Tryz.sizeOf220
  t232 := Tryz.underlying246
  a232 := Tryz.isAgg246
  z232 := Tryz.sizeOf246
  v232 := Tryz.zeroValue246
  t233 := Tryz.underlying247
  a233 := Tryz.isAgg247
  z233 := Tryz.sizeOf247
  v233 := Tryz.zeroValue247
  g17 := by kernel_rfl
  g18 := by kernel_rfl
  g19 := by kernel_rfl
  i0 := by kernel_rfl
  i2 := by kernel_rfl
  i3 := by kernel_rfl
  i4 := by kernel_rfl
  i5 := by kernel_rfl
  i9 := by kernel_rfl
  i20 := by kernel_rfl
  i37 := by kernel_rfl
  i46 := by kernel_rfl
  i51 := by kernel_rfl
  i53 := by kernel_rfl
  i171 := by kernel_rfl
  i173 := by kernel_rfl
  i212 := by kernel_rfl
  i232 := by kernel_rfl
  i233 := by kernel_rfl
  m17 := by kernel_rfl
  m18 := by kernel_rfl
  m19 := by kernel_rfl }
def strconv_Itoa.f (a0 : Int) : Option ByteArray := if 0 ≤ a0 ∧ a0 < 100 then some ⟨(Lib.decDigits a0.toNat).toArray⟩ else none
theorem strconv_Itoa.calls (a0 : Int) (r : ByteArray) (w : World) (h : strconv_Itoa.f a0 = some r) :
    Calls Tryz.prog 87 #[.int .i64 a0] w fun e w' => e = .returned (.string r) ∧ Below w.heap.size w w' := by
  unfold strconv_Itoa.f at h; by_cases hc : 0 ≤ a0 ∧ a0 < 100; rotate_left
  ·rw [if_neg hc] at h; exact absurd h (by simp)
  rw [if_pos hc] at h; obtain rfl := Option.some.inj h
  obtain ⟨n, rfl⟩ : ∃ n : Nat, a0 = (n : Int) := ⟨a0.toNat, by omega⟩
  rw [Int.toNat_natCast]
  exact (Any.strconv_Itoa_small (show Lays.n171 Tryz.prog qlc from { qtF with }) n (by omega) w).mono fun e w' ⟨he, hw⟩ => ⟨he, hw ▸ Below.refl _ _⟩
def qlb : Go.Shelf.Ren := ⟨fun | 156 => 88 | 165 => 147 | 166 => 148 | 169 => 149 | 240 => 204 | 241 => 205 | 276 => 244 | 277 => 245 | n => n, fun | 31 => 43 | 9 => 9 | 3 => 3 | 4 => 4 | 0 => 0 | 20 => 20 | 72 => 154 | 76 => 138 | 70 => 152 | 37 => 35 | 75 => 137 | 127 => 176 | 164 => 205 | 5 => 5 | 80 => 72 | n => n, fun | n => n⟩
theorem lays156 : Go.Proofs.Lays.n156 Tryz.prog qlb := {
  mixed := by kernel_rfl
  f156 := cs_ Tryz.func88
  f165 := cs_ Tryz.func147
  f166 := cs_ Tryz.func148
  f169 := cs_ Tryz.func149
  f240 := cs_ Tryz.func204
  f241 := cs_ Tryz.func205
  f276 := cs_ Tryz.func244
  f277 := cs_ Tryz.func245
  t0 := Tryz.underlying0
  a0 := Tryz.isAgg0
  z0 := Tryz.sizeOf0
  v0 := Tryz.zeroValue0
  t3 := Tryz.underlying3
  a3 := Tryz.isAgg3
  z3 := Tryz.sizeOf3
  v3 := Tryz.zeroValue3
  t4 := Tryz.underlying4
  a4 := Tryz.isAgg4
  z4 := Tryz.sizeOf4
  v4 := Tryz.zeroValue4
  t9 := Tryz.underlying9
  a9 := Tryz.isAgg9
  z9 := Tryz.sizeOf9
  v9 := Tryz.zeroValue9
  t20 := Tryz.underlying20
  a20 := Tryz.isAgg20
  z20 := Tryz.sizeOf20
  v20 := Tryz.zeroValue20
  t31 := Tryz.underlying43
  a31 := Tryz.isAgg43
  z31 := Tryz.sizeOf43
  v31 := Tryz.zeroValue43
  t37 := Tryz.underlying35
  a37 := Tryz.isAgg35
  z37 := Tryz.sizeOf35
  v37 := Tryz.zeroValue35
  t70 := Tryz.underlying152
  a70 := Tryz.isAgg152
  z70 := Tryz.sizeOf152
  v70 := Tryz.zeroValue152
  t72 := Tryz.underlying154
  a72 := Tryz.isAgg154
  z72 := Tryz.sizeOf154
  v72 := Tryz.zeroValue154
  t75 := Tryz.underlying137
  a75 := Tryz.isAgg137
  z75 := Tryz.sizeOf137
  v75 := Tryz.zeroValue137
  t76 := Tryz.underlying138
  a76 := Tryz.isAgg138
  z76 := Tryz.sizeOf138
  v76 := Tryz.zeroValue138
  t127 := Tryz.underlying176
  a127 := Tryz.isAgg176
  z127 := Tryz.sizeOf176
  v127 := Tryz.zeroValue176
  t164 := Tryz.underlying205
  a164 := Tryz.isAgg205
  z164 := Tryz.sizeOf205
  v164 := Tryz.zeroValue205 }
theorem extra156 : Builder.Extra Tryz.prog qlb where
  sizeBuilder := by kernel_rfl
  liesBuilder := by kernel_rfl
  t5 := by kernel_rfl
  a5 := fun _ => by kernel_rfl
  z5 := fun _ => by kernel_rfl
  v5 := fun _ => by kernel_rfl
  infoByte := by kernel_rfl
  cellsByte := by kernel_rfl
  sizeByte := by kernel_rfl
  neB5 := by decide
def strings_Join.f (l0 : List ByteArray) (a1 : ByteArray) : Option ByteArray := if 0 < l0.length ∧ l0.length ≤ 140737488355328 ∧ (Lib.join (l0.map (·.data.toList)) a1.data.toList).length ≤ 281474976710656 then some ⟨(Lib.join (l0.map (·.data.toList)) a1.data.toList).toArray⟩ else none
theorem strings_Join.calls (A0 : Option Addr) (c0 : Nat) (l0 : List ByteArray) (a1 : ByteArray) (r : ByteArray) (w : World) (hr0 : Kd.C Kd.string w A0 l0.length l0) (hc0 : l0.length ≤ c0) (h : strings_Join.f l0 a1 = some r) :
    Calls Tryz.prog 88 #[.slice A0 l0.length c0, .string a1] w fun e w' => e = .returned (.string r) ∧ Below w.heap.size w w' := by
  unfold strings_Join.f at h; by_cases hc : 0 < l0.length ∧ l0.length ≤ 140737488355328 ∧ (Lib.join (l0.map (·.data.toList)) a1.data.toList).length ≤ 281474976710656; rotate_left
  ·rw [if_neg hc] at h; exact absurd h (by simp)
  rw [if_pos hc] at h; obtain rfl := Option.some.inj h; obtain ⟨hp, hn, hl⟩ := hc; obtain ⟨-, -, hA⟩ := hr0; obtain ⟨⟨bk, o, p⟩, rfl, hcc⟩ := hA hp
  have hcell : ∀ (j : Nat) x, l0[j]? = some x → w.cell? (Addr.add ⟨bk, o, p⟩ j) = some (.string x) := by
    intro j x hx; obtain ⟨c, -, hM, hg⟩ := hcc j x hx
    cases (show c = [Value.string x] from hM)
    simpa [Kd.string, Kd.scalar] using hg 0 _ rfl
  have hp0 : p = none := by
    obtain ⟨x, hx⟩ : ∃ x, l0[0]? = some x := ⟨l0[0], by simp [hp]⟩
    have h0 := hcell 0 x hx
    cases p with
    | none => rfl
    | some q => exact absurd h0 (by simp [Addr.add, World.cell?]; split <;> simp)
  subst hp0
  have hbk : bk < w.heap.size := by
    obtain ⟨x, hx⟩ : ∃ x, l0[0]? = some x := ⟨l0[0], by simp [hp]⟩
    exact World.block_lt_of_cell? w _ (hcell 0 x hx)
  exact Any.strings_Join_48 lays156 extra156 bk o c0 l0 a1 w (fun j x hx => by have h_ := hcell j x hx; unfold Addr.add at h_; split at h_ <;> simp_all) hbk hn hc0 hl
def qaH.l0 : Nat → List ByteArray → List (qac) → Int → Int → Option (ByteArray)
 | 0, _, _, _, _ => none
 | k + 1, x3, x7, x8, x9 => if x9 < x8 then (if 0 ≤ x9 then (if x9 < (x7.length : Int) then ((strconv_Itoa.f ((qad x7 x9).f0)).bind fun qg0 => (if qg0.size + 1 ≤ 9223372036854775807 then ((strconv_Itoa.f ((qad x7 x9).f1)).bind fun t107 => (if (qg0 ++ (⟨#[58]⟩ : ByteArray)).size + t107.size ≤ 9223372036854775807 then (if x3.length < 8796093022208 then (qaH.l0 k (x3 ++ [(qg0 ++ (⟨#[58]⟩ : ByteArray)) ++ t107]) x7 x8 (wrap64 (x9 + 1))) else (none)) else (none))) else (none))) else (none)) else (none)) else (if (x3.length : Int) = 0 then (some (⟨#[45]⟩ : ByteArray)) else ((strings_Join.f x3 (⟨#[44]⟩ : ByteArray)).bind fun qjB => (some qjB)))
def qaH.f (k : Nat) (l0 : List (qac)) : Option (ByteArray) := qaH.l0 k (([] : List ByteArray)) l0 (l0.length : Int) 0
def qaH.T5 : Bool × List (List Nat × List Nat) := (true, [([], []), ([], []), ([1], [1]), ([2], [2]), ([3], [3]), ([], []), ([5], [5]), ([6, 3], [6]), ([4, 7], [4, 7]), ([8], [8]), ([0, 9, 7], [0, 9]), ([10, 10, 0, 1, 2, 3, 4, 5, 6, 7, 8, 9, 10], [0, 10])])
def qaH.B5 : List Nat := [0, 0, 2, 6, 14, 0, 32, 110, 254, 510, 1023, 2047]
theorem qaH.tab5 : qhC .any (opsOf Tryz.f54 5) = qaH.T5 := by kernel_rfl
theorem qaH.bits5 : qeG qaH.T5.2 qaH.B5 = true := by kernel_rfl
theorem qaH.calls (k : Nat) (A0 : Option Addr) (c0 : Nat) (l0 : List (qac)) (r : ByteArray) (w : World) (hr0 : Kd.C qaG w A0 l0.length l0) (hc0 : l0.length ≤ c0) (h : qaH.f k l0 = some r) :
  Calls Tryz.prog 54 #[.slice A0 l0.length c0] w fun e w' => e = .returned (.string r) ∧ Below w.heap.size w w' := by
 have qme := Tryz.underlying85; have HR0 := ak_ hr0; have HC0 := ak_ hc0; clear hr0 hc0; have HB := br_ w; have H : (qaH.l0 k (([] : List ByteArray)) l0 (l0.length : Int) 0) = some r := h; clear h
 obtain ⟨qeW, hy_⟩ : ∃ y_ : List ByteArray, y_ = (([] : List ByteArray)) := ⟨_, rfl⟩
 replace H : (qaH.l0 k qeW l0 (l0.length : Int) 0) = some r := qfb; have qet := ak_ hy_; clear hy_; have H' := ak_ H; clear H; go_enter Tryz.func54, Tryz.ntmps54
 go_wp2_with (first | ((with_reducible refine qam (N := 6) rfl ?_); refine li_ Kd.string 9 6 rfl (xs := ([] : List ByteArray)) qa1 ?_; intro qjd w2 ho3 hb; (first | rw [← qet.1] at ho3 | (simp only [Int.reduceToNat] at ho3; rw [← qet.1] at ho3)); have qcI := ak_ (Kd.qaw ho3 (qab qao)); replace HB := HB.mw hb; clear hb ho3))
 go_loopg [3, 9] k (fun kq v3 v9 w' => ∃ (qbx : List ByteArray) (qdt : Int), v9 = .int .i64 qdt ∧ qai (qaH.l0 kq qbx l0 (l0.length : Int) qdt = some r) ∧ qai (kq ≤ k) ∧ qai (Kd.R Kd.string 9 w' w.heap.size (fun _ => True) v3 qbx) ∧ qai (Below w.heap.size w w'))
 case atStart => exact ⟨(qeW), (0), qay, H', ⟨Nat.le_refl _⟩, ⟨qoL⟩, ⟨qao⟩⟩
 case round =>
  clear H'; obtain ⟨qbx, qdt, rfl, HA, HK1, qdu, HB⟩ := hrel
  cases gk with
  | zero => exact absurd HA.1 (by simp [qaH.l0])
  | succ k1 =>
   have H := HA.1; clear HA; simp only [qaH.l0] at H; by_cases c4 : qdt < (l0.length : Int); rotate_left
   ·rw [if_neg c4] at H; have qfw := decide_eq_false c4; clear c4; by_cases c19 : (qbx.length : Int) = 0
    ·rw [if_pos c19] at H; have c19b0 : ((qbx.length : Int) == 0) = true := beq_iff_eq.mpr c19; have c19b1 : ((qbx.length : Int) != 0) = false := bne_eq_false_iff_eq.mpr c19; clear c19; obtain rfl := sj_ H; obtain ⟨Ao20, co20, eo20⟩ := Kd.qaI qdu.1; subst eo20; go_wp2
     go_ret
     exact ⟨qca, qao⟩
    rw [if_neg c19] at H; have c19b0 : ((qbx.length : Int) == 0) = false := beq_eq_false_iff_ne.mpr c19; have c19b1 : ((qbx.length : Int) != 0) = true := bne_iff_ne.mpr c19
    have c19b2 : ¬ (qbx = []) := fun h_ => c19 (by rw [h_]; rfl)
    obtain ⟨qjB, A21, H⟩ := qaB H; (try dsimp only at H); obtain rfl := sj_ H; obtain ⟨Ao22, co22, eo22⟩ := Kd.qaI qdu.1; subst eo22
    go_wp2_with (first | (refine gl_ 29 Tryz.func88 #[.slice Ao22 qbx.length co22, .string (⟨#[44]⟩ : ByteArray)] rfl qbJ ?_; (with_reducible refine (strings_Join.calls _ _ qbx (⟨#[44]⟩ : ByteArray) qjB _ ?qaz ?qaA A21.1).mono ?_); (case qaz => exact k41_); (case qaA => exact (Kd.qan qdu.1).2.1); rintro e w23 ⟨rfl, hb⟩; refine ⟨_, rfl, ?_⟩; replace qdu := qdu.mw hb; replace HB := HB.mw hb; (try clear hb)))
    go_ret
    exact ⟨qca, qao⟩
   rw [if_pos c4] at H; have qfw := decide_eq_true c4; clear c4; obtain ⟨c5, H⟩ := qct H; have qgL := decide_eq_true c5; clear c5; obtain ⟨c6, H⟩ := qct H; have qgc := decide_eq_true c6; clear c6; obtain ⟨qg0, A7, H⟩ := qaB H; (try dsimp only at H); obtain ⟨c8, H⟩ := qct H; have qpc := eq_true c8; have c8b1 := decide_eq_true c8
   try have c8b2 : (9223372036854775807 < qg0.size + 1) = False := eq_false (Nat.not_lt.2 c8)
   obtain ⟨t107, A9, H⟩ := qaB H; (try dsimp only at H); obtain ⟨c10, H⟩ := qct H; have qgY := eq_true c10; have c10b1 := decide_eq_true c10
   try have c10b2 : (9223372036854775807 < (qg0 ++ (⟨#[58]⟩ : ByteArray)).size + t107.size) = False := eq_false (Nat.not_lt.2 c10)
   have c10b3 := c10b2; simp only [ByteArray.size_append, show (⟨#[44]⟩ : ByteArray).size = 1 from rfl, show (⟨#[47]⟩ : ByteArray).size = 1 from rfl, show (⟨#[58]⟩ : ByteArray).size = 1 from rfl] at c10b3; obtain ⟨c11, H⟩ := qct H; have qoU := ak_ c11; clear c11
   obtain ⟨qjc, hy_⟩ : ∃ y_ : List ByteArray, y_ = (qbx ++ [(qg0 ++ (⟨#[58]⟩ : ByteArray)) ++ t107]) := ⟨_, rfl⟩
   replace H : (qaH.l0 k1 qjc l0 (l0.length : Int) (wrap64 (qdt + 1))) = some r := qfb; have qoX := ak_ hy_; clear hy_; have H' := ak_ H; clear H; have qhz : 0 ≤ (qdt : Int) := of_decide_eq_true qaL; have qhA : qdt < (l0.length : Int) := of_decide_eq_true qaL; obtain ⟨qia, qnT, qd5, qiA⟩ := qc6 HR0.1 qdt qhz qhA
   cases qnT
   replace qd5 := (HB.1.cell (World.block_lt_of_cell? w _ qd5)).trans qd5; replace qiA := (HB.1.cell (World.block_lt_of_cell? w _ qiA)).trans qiA; replace qhz := eq_true qhz; replace qhA := eq_true qhA
   try go_wp2_with (first | ((with_reducible refine qam (N := 5) rfl ?_); refine bx_ 5 rfl (cs := #[.int .i64 0, .int .i64 0]) (t := 85) qa1 ?_; intro qiZ hg w12 hbox hb; replace qdu := qdu.mw hb; have qf1 := ak_ (hbox); have GW105 := ak_ (HB.ge hg); have GE105 := ak_ (HB.ge hg); replace HB := HB.mw hb; clear hb hbox hg; obtain ⟨qiw, qix, qiy, qiz⟩ := qbl qf1.1))
   have n0_ : qai (Kd.R Kd.string 9 ((w12.setCell ⟨qiZ, 0, none⟩ (.int .i64 ((qad l0 qdt).f0))).setCell ⟨qiZ, 1, none⟩ (.int .i64 ((qad l0 qdt).f1))) w.heap.size (fun _ => True) u3 qbx) := ⟨by (with_reducible repeat (first | apply Kd.qaq | apply Kd.qar | apply Kd.qax)); exact Kd.qa2 (Kd.qco (p := ⟨qiZ, 1, none⟩) (Kd.qco (p := ⟨qiZ, 0, none⟩) (Kd.qcc qdu.1 qf1.1 (by decide)) (fun _ hk => hk.2) (.int .i64 ((qad l0 qdt).f0))) (fun _ hk => hk.2) (.int .i64 ((qad l0 qdt).f1))) (fun _ hk => trivial)⟩
   have n1_ : qai (((w12.setCell ⟨qiZ, 0, none⟩ (.int .i64 ((qad l0 qdt).f0))).setCell ⟨qiZ, 1, none⟩ (.int .i64 ((qad l0 qdt).f1))).heap[qiZ]? = some (.cells #[.int .i64 ((qad l0 qdt).f0), .int .i64 ((qad l0 qdt).f1)] 85 (0, 0))) := ⟨by (with_reducible repeat (first | refine qaj ?_ _ | refine qak ?_ | refine qag ?_ _)); refine qa9 (cs := #[.int .i64 ((qad l0 qdt).f0), .int .i64 0]) ?_ 1 _ rfl; (with_reducible repeat (first | refine qaj ?_ _ | refine qak ?_ | refine qag ?_ _)); refine qa9 (cs := #[.int .i64 0, .int .i64 0]) ?_ 0 _ rfl; apply_rules only [qf1.1, qaj, qak, qag]⟩
   have n2_ : qai (Below w.heap.size w ((w12.setCell ⟨qiZ, 0, none⟩ (.int .i64 ((qad l0 qdt).f0))).setCell ⟨qiZ, 1, none⟩ (.int .i64 ((qad l0 qdt).f1)))) := ⟨k75_⟩
   (try clear qdu); (try clear qf1); (try clear HB)
   generalize ((w12.setCell ⟨qiZ, 0, none⟩ (.int .i64 ((qad l0 qdt).f0))).setCell ⟨qiZ, 1, none⟩ (.int .i64 ((qad l0 qdt).f1))) = w14 at n0_ n1_ n2_ ⊢
   have qdu := n0_; have qf1 := n1_; have HB := n2_; clear n0_ n1_ n2_; replace qdu := ak_ (Kd.qax qdu.1); replace qf1 := ak_ (qak qf1.1); replace HB := ak_ (qah HB.1); refine qeS (n := 12) (S := fun w' => w'.cell? ⟨qiZ, 0, none⟩ = some (.int .i64 ((qad l0 qdt).f0)) ∧ w'.cell? ⟨qiZ, 1, none⟩ = some (.int .i64 ((qad l0 qdt).f1))) (ds := []) (rA_ [0, 12]) (by kernel_rfl) rfl rfl ⟨qd4 qf1.1, qbA qf1.1⟩ (fun hHeld => ?_); refine qc0 qaH.tab5 qaH.bits5 (fun HT_ HW_ => ?_)
   generalize w14.drew = w15 at qdu qf1 HB hHeld ⊢
   refine pu_ 0 13 [1, 11] ?_; refine pu_ 1 14 [2, 10] ?_; refine pu_ 5 18 [2, 3, 1, 6] ?_; refine qii 2 15 [3, 2, 1, 6] ?_; refine qii 6 19 [3, 2, 2, 5] ?_; refine qfC (i := 3) (N := some 16) (rA_ [4, 1, 2, 5]) rfl rfl (qcJ HT_.out (by kernel_rfl)) (by decide) (fun K hK => ?_); refine qfN Tryz.func87 (by kernel_rfl) rfl #[.int .i64 ((qad l0 qdt).f0)] (by rfl) rfl rfl qbJ ?_
   with_reducible refine (strconv_Itoa.calls ((qad l0 qdt).f0) qg0 _ A7.1).mono ?_
   rintro e w16 ⟨rfl, hb⟩; refine ⟨_, rfl, ?_⟩; replace qdu := qdu.mw hb; replace qf1 := qf1.mw hb; replace HB := ak_ (qaa k75_ hb); (try clear hb); (try clear hb2); (try clear hk); (try clear hi); refine hK.out _ _ ⟨qd4 qf1.1, qbA qf1.1⟩ (fun hHeld => ?_); clear hK K; refine nm_ 16 ?_; refine pu_ 4 17 [7, 5] ?_; refine qfC (i := 7) (N := some 20) (rA_ [8, 4]) rfl rfl (qcJ HT_.out (by kernel_rfl)) (by decide) (fun K hK => ?_); refine qfN Tryz.func87 (by kernel_rfl) rfl #[.int .i64 ((qad l0 qdt).f1)] (by rfl) rfl rfl qbJ ?_
   with_reducible refine (strconv_Itoa.calls ((qad l0 qdt).f1) t107 _ A9.1).mono ?_
   rintro e w17 ⟨rfl, hb⟩; refine ⟨_, rfl, ?_⟩; replace qdu := qdu.mw hb; replace qf1 := qf1.mw hb; replace HB := ak_ (qaa k75_ hb); (try clear hb); (try clear hb2); (try clear hk); (try clear hi); refine hK.out _ _ ⟨qd4 qf1.1, qbA qf1.1⟩ (fun hHeld => ?_); clear hK K; refine nm_ 20 ?_; refine pu_ 8 21 [9, 3] ?_; refine qfC (i := 9) (N := some 22) (rA_ [10, 2]) rfl rfl (qcJ HT_.out (by kernel_rfl)) (by decide) (fun K hK => ?_); refine qi9 (w1 := ?_) (v := ?_) (by rfl) rfl ?_ ?_; rotate_left 2
   ·go_simp; constructor
    ·rfl
    rfl
   refine hK.out _ _ ⟨(qba (qag qf1.1 _) 0).trans rfl, (qba (qag qf1.1 _) 1).trans rfl⟩ (fun hHeld => ?_); clear hK K; refine nm_ 22 ?_; refine qfC (i := 10) (N := some 23) (rA_ [11, 1]) rfl rfl (qcJ HT_.out (by kernel_rfl)) (by decide) (fun K hK => ?_); refine Kd.qe4 Kd.string (w0 := w) w.heap.size (by rfl) (.tmp 13) (.tmp 22) 43 9 (.string ⟨#[]⟩) 16 rfl Tryz.underlying43 qm1 rfl (by decide) (by omega) u3 qbx ((qg0 ++ (⟨#[58]⟩ : ByteArray)) ++ t107) [.string ((qg0 ++ (⟨#[58]⟩ : ByteArray)) ++ t107)] (fun _ => True) (fun _ => False) rfl rfl ?aP (fun _ hk => hk.elim) ?aF ?aO ?aB ?aS ?aL ?_
   (case aP => exact rfl)
   (case aB => exact k75_)
   (case aF => exact (fun _ _ => trivial))
   (case aO => exact qib)
   (case aS => exact (qab k75_))
   (case aL => have := qoU.1; omega)
   intro v109 w18 ho hb hg hat; rw [← qoX.1] at ho; replace qf1 := ak_ (qd9 (g := qiZ) (o := .cells #[.int .i64 ((qad l0 qdt).f0), .int .i64 ((qad l0 qdt).f1)] 85 (0, 0)) (by apply_rules only [qf1.1, qaj, qak, qag]) hg (Kd.qo1 qdu.1 qf1.1 (by decide))); replace HB := ak_ (hb); have qnw := ak_ (ho); clear qdu; clear ho hb hg hat; refine hK.out _ _ ⟨qd4 qf1.1, qbA qf1.1⟩ (fun hHeld => ?_); clear hK K; refine nm_ 23 ?_; refine pu_ 11 3 [12] ?_; refine qf5 (qeh HT_.out (by kernel_rfl)) ?_
   try go_wp2
   go_roundg k1
   case measure => have := HK1.1; omega
   case rel => exact ⟨(qjc), (wrap64 (qdt + 1)), qay, H', ⟨qc9⟩, ⟨by apply_rules only [qnw.1, Kd.qaq, Kd.qar, Kd.qax]⟩, ⟨k75_⟩⟩
def qpN : Go.Shelf.Ren := ⟨fun | 160 => 196 | 232 => 229 | 231 => 228 | 227 => 230 | 234 => 232 | 233 => 231 | 236 => 234 | 235 => 233 | 228 => 254 | 271 => 256 | 151 => 255 | 197 => 218 | 120 => 276 | 152 => 275 | 260 => 248 | 137 => 285 | 119 => 286 | 224 => 178 | 225 => 177 | 217 => 176 | 266 => 215 | n => n, fun | 9 => 9 | 4 => 4 | 3 => 3 | 5 => 5 | 117 => 194 | 116 => 193 | 0 => 0 | 124 => 197 | 21 => 21 | 105 => 182 | 46 => 165 | 119 => 221 | 139 => 224 | 138 => 223 | n => n, fun | 3 => 4 | 4 => 5 | n => n⟩
theorem lays160 : Go.Proofs.Lays.n160 Tryz.prog qpN := {
  mixed := by kernel_rfl
  f119 := cs_ Tryz.func286
  f120 := cs_ Tryz.func276
  f137 := cs_ Tryz.func285
  f151 := cs_ Tryz.func255
  f152 := cs_ Tryz.func275
  f160 := cs_ Tryz.func196
  f197 := cs_ Tryz.func218
  f217 := cs_ Tryz.func176
  f224 := cs_ Tryz.func178
  f225 := cs_ Tryz.func177
  f227 := cs_ Tryz.func230
  f228 := cs_ Tryz.func254
  f231 := cs_ Tryz.func228
  f232 := cs_ Tryz.func229
  f233 := cs_ Tryz.func231
  f234 := cs_ Tryz.func232
  f235 := cs_ Tryz.func233
  f236 := cs_ Tryz.func234
  f260 := cs_ Tryz.func248
  f266 := cs_ Tryz.func215
  f271 := cs_ Tryz.func256
  t0 := Tryz.underlying0
  a0 := Tryz.isAgg0
  z0 := Tryz.sizeOf0
  v0 := Tryz.zeroValue0
  t3 := Tryz.underlying3
  a3 := Tryz.isAgg3
  z3 := Tryz.sizeOf3
  v3 := Tryz.zeroValue3
  t4 := Tryz.underlying4
  a4 := Tryz.isAgg4
  z4 := Tryz.sizeOf4
  v4 := Tryz.zeroValue4
  t5 := Tryz.underlying5
  a5 := Tryz.isAgg5
  z5 := Tryz.sizeOf5
  v5 := Tryz.zeroValue5
  t9 := Tryz.underlying9
  a9 := Tryz.isAgg9
  z9 := Tryz.sizeOf9
  v9 := Tryz.zeroValue9
  t21 := Tryz.underlying21
  a21 := Tryz.isAgg21
  z21 := Tryz.sizeOf21
  v21 := Tryz.zeroValue21
  t46 := Tryz.underlying165
  a46 := Tryz.isAgg165
  z46 := Tryz.sizeOf165
  v46 := Tryz.zeroValue165
  t105 := Tryz.underlying182
  a105 := Tryz.isAgg182
  z105 := Tryz.sizeOf182
  v105 := Tryz.zeroValue182
  t116 := Tryz.underlying193
  a116 := Tryz.isAgg193
  z116 := Tryz.sizeOf193
  t117 := Tryz.underlying194
  a117 := Tryz.isAgg194
  z117 := Tryz.sizeOf194
  v117 := Tryz.zeroValue194
  t119 := Tryz.underlying221
  a119 := Tryz.isAgg221
  z119 := Tryz.sizeOf221
  t124 := Tryz.underlying197
  a124 := Tryz.isAgg197
  z124 := Tryz.sizeOf197
  v124 := Tryz.zeroValue197
  t138 := Tryz.underlying223
  a138 := Tryz.isAgg223
  z138 := Tryz.sizeOf223
  v138 := Tryz.zeroValue223
  t139 := Tryz.underlying224
  a139 := Tryz.isAgg224
  z139 := Tryz.sizeOf224
  v139 := Tryz.zeroValue224
  g3 := by kernel_rfl
  g4 := by kernel_rfl }
def qdZ.f (a0 a1 : ByteArray) : Option ByteArray := if a0.size ≤ 9223372036854775807 ∧ a1 = (⟨#[111, 120, 63]⟩ : ByteArray) then some ⟨(Lib.trimS a0.data.toList [111, 120, 63]).toArray⟩ else none
theorem qdZ.calls (a0 : ByteArray) (a1 : ByteArray) (r : ByteArray) (w : World) (h : qdZ.f a0 a1 = some r) :
    Calls Tryz.prog 196 #[.string a0, .string a1] w fun e w' => e = .returned (.string r) ∧ Below w.heap.size w w' := by
  unfold qdZ.f at h; by_cases hc : a0.size ≤ 9223372036854775807 ∧ a1 = (⟨#[111, 120, 63]⟩ : ByteArray)
  ·rw [if_pos hc] at h; obtain rfl := Option.some.inj h; obtain ⟨hs, rfl⟩ := hc; exact Any.strings_Trim_laid lays160 (by kernel_rfl) a0 ⟨#[111, 120, 63]⟩ w hs (by decide) (ascii_of_all (by decide))
  rw [if_neg hc] at h; exact absurd h (by simp)
def qcE.f (qbK : ByteArray) (qbY : Int) : Option (Bool) := if (qbK.size : Int) ≥ 1 then (if (qbK.size : Int) ≤ 48 then ((qdZ.f qbK (⟨#[111, 120, 63]⟩ : ByteArray)).bind fun qaQ => (if qaQ.toList = ([] : List UInt8) then (if qbY ≥ 0 then (some (decide (qbY ≤ 3))) else (some false)) else (some false))) else (some false)) else (some false)
theorem qcE.calls (qbK : ByteArray) (qbY : Int) (r : Bool) (w : World) (h : qcE.f qbK qbY = some r) :
  Calls Tryz.prog 134 #[.agg #[.string qbK, .int .i64 qbY]] w fun e w' => e = .returned (.bool r) ∧ Below w.heap.size w w' := by
 have hu99 := Tryz.underlying99; have HB := br_ w; have H : (if (qbK.size : Int) ≥ 1 then (if (qbK.size : Int) ≤ 48 then ((qdZ.f qbK (⟨#[111, 120, 63]⟩ : ByteArray)).bind fun qaQ => (if qaQ.toList = ([] : List UInt8) then (if qbY ≥ 0 then (some (decide (qbY ≤ 3))) else (some false)) else (some false))) else (some false)) else (some false)) = some r := h; clear h; by_cases c2 : (qbK.size : Int) ≥ 1; rotate_left
 ·rw [if_neg c2] at H; have qfB : decide (1 ≤ (qbK.size : Int)) = false := decide_eq_false c2; have qnI : decide (1 ≤ qbK.size) = false := decide_eq_false (by omega); clear c2; obtain rfl := sj_ H; go_enter Tryz.func134, Tryz.ntmps134
  go_wp2_with (first | ((with_reducible refine qam (N := 1) rfl ?_); refine bx_ 1 rfl (cs := #[.string qbK, .int .i64 qbY]) (t := 99) qa1 ?_; intro qbD hg w20 hbox hb; have qas := ak_ (hbox); have qdO := ak_ (HB.ge hg); have qdz := ak_ (HB.ge hg); replace HB := HB.mw hb; clear hb hbox hg; obtain ⟨hcz21_0, hcz21_1, hfz21_0, hfz21_1⟩ := qbl qas.1))
  go_ret
  exact ⟨qca, qcw⟩
 rw [if_pos c2] at H; have qfB : decide (1 ≤ (qbK.size : Int)) = true := decide_eq_true c2; have qnI : decide (1 ≤ qbK.size) = true := decide_eq_true (by omega); clear c2; by_cases c3 : (qbK.size : Int) ≤ 48; rotate_left
 ·rw [if_neg c3] at H; have qfr := decide_eq_false c3; have qlH : decide (qbK.size ≤ 48) = false := decide_eq_false (by omega); clear c3; obtain rfl := sj_ H; go_enter Tryz.func134, Tryz.ntmps134
  go_wp2_with (first | ((with_reducible refine qam (N := 1) rfl ?_); refine bx_ 1 rfl (cs := #[.string qbK, .int .i64 qbY]) (t := 99) qa1 ?_; intro qbD hg w18 hbox hb; have qas := ak_ (hbox); have qdO := ak_ (HB.ge hg); have qdz := ak_ (HB.ge hg); replace HB := HB.mw hb; clear hb hbox hg; obtain ⟨qpt, qpu, qpz, qpA⟩ := qbl qas.1))
  go_ret
  exact ⟨qca, qcw⟩
 rw [if_pos c3] at H; have qfr := decide_eq_true c3; have qlH : decide (qbK.size ≤ 48) = true := decide_eq_true (by omega); clear c3; obtain ⟨qaQ, A4, H⟩ := qaB H; (try dsimp only at H); by_cases c5 : qaQ.toList = ([] : List UInt8); rotate_left
 ·rw [if_neg c5] at H; have qgL : (qaQ.toList == ([] : List UInt8)) = false := beq_eq_false_iff_ne.mpr c5; have qrb : (qaQ.toList != ([] : List UInt8)) = true := bne_iff_ne.mpr c5; obtain rfl := sj_ H; go_enter Tryz.func134, Tryz.ntmps134
  go_wp2_with (first | ((with_reducible refine qam (N := 1) rfl ?_); refine bx_ 1 rfl (cs := #[.string qbK, .int .i64 qbY]) (t := 99) qa1 ?_; intro qbD hg w15 hbox hb; have qas := ak_ (hbox); have qdO := ak_ (HB.ge hg); have qdz := ak_ (HB.ge hg); replace HB := HB.mw hb; clear hb hbox hg; obtain ⟨qsP, qsQ, qs5, qs6⟩ := qbl qas.1) | (go_at_call 196; (with_reducible refine (qdZ.calls qbK (⟨#[111, 120, 63]⟩ : ByteArray) qaQ _ A4.1).mono ?_); rintro e w17 ⟨rfl, hb⟩; replace qas := qas.mw hb; replace HB := ak_ (qaa qcw hb); (try clear hb)))
  go_ret
  exact ⟨qca, qcw⟩
 rw [if_pos c5] at H; have qgL : (qaQ.toList == ([] : List UInt8)) = true := beq_iff_eq.mpr c5; have qrb : (qaQ.toList != ([] : List UInt8)) = false := bne_eq_false_iff_eq.mpr c5; clear c5; by_cases c6 : qbY ≥ 0
 ·rw [if_pos c6] at H; have qgc : decide (0 ≤ qbY) = true := decide_eq_true c6; clear c6; obtain rfl := sj_ H; go_enter Tryz.func134, Tryz.ntmps134
  go_wp2_with (first | ((with_reducible refine qam (N := 1) rfl ?_); refine bx_ 1 rfl (cs := #[.string qbK, .int .i64 qbY]) (t := 99) qa1 ?_; intro qbD hg w7 hbox hb; have qas := ak_ (hbox); have qdO := ak_ (HB.ge hg); have qdz := ak_ (HB.ge hg); replace HB := HB.mw hb; clear hb hbox hg; obtain ⟨qjN, qjO, qjS, qjT⟩ := qbl qas.1) | (go_at_call 196; (with_reducible refine (qdZ.calls qbK (⟨#[111, 120, 63]⟩ : ByteArray) qaQ _ A4.1).mono ?_); rintro e w9 ⟨rfl, hb⟩; replace qas := qas.mw hb; replace HB := ak_ (qaa qcw hb); (try clear hb); obtain ⟨qkT, qkU, qkY, qkZ⟩ := qbl qas.1))
  go_ret
  exact ⟨qca, qcw⟩
 rw [if_neg c6] at H; have qgc : decide (0 ≤ qbY) = false := decide_eq_false c6; clear c6; obtain rfl := sj_ H; go_enter Tryz.func134, Tryz.ntmps134
 go_wp2_with (first | ((with_reducible refine qam (N := 1) rfl ?_); refine bx_ 1 rfl (cs := #[.string qbK, .int .i64 qbY]) (t := 99) qa1 ?_; intro qbD hg w11 hbox hb; have qas := ak_ (hbox); have qdO := ak_ (HB.ge hg); have qdz := ak_ (HB.ge hg); replace HB := HB.mw hb; clear hb hbox hg; obtain ⟨qmX, qmY, qmZ, qm0⟩ := qbl qas.1) | (go_at_call 196; (with_reducible refine (qdZ.calls qbK (⟨#[111, 120, 63]⟩ : ByteArray) qaQ _ A4.1).mono ?_); rintro e w13 ⟨rfl, hb⟩; replace qas := qas.mw hb; replace HB := ak_ (qaa qcw hb); (try clear hb); obtain ⟨qsN, qsO, qs3, qs4⟩ := qbl qas.1))
 go_ret
 exact ⟨qca, qcw⟩
def qbP.f (qbK : ByteArray) (qbY : Int) : Option (ByteArray) := if qbK.size + 1 ≤ 9223372036854775807 then ((strconv_Itoa.f qbY).bind fun qaQ => (if (qbK ++ (⟨#[58]⟩ : ByteArray)).size + qaQ.size ≤ 9223372036854775807 then (some ((qbK ++ (⟨#[58]⟩ : ByteArray)) ++ qaQ)) else (none))) else (none)
def qbP.T1 : Bool × List (List Nat × List Nat) := (true, [([], []), ([0], [0]), ([1], [1]), ([], []), ([3], [3]), ([4], [4]), ([2, 5], [2, 5]), ([6, 5, 0, 1, 2, 3, 4, 5, 6], [6])])
def qbP.B1 : List Nat := [0, 1, 3, 0, 8, 24, 63, 127]
theorem qbP.tab1 : qhC .any (opsOf Tryz.f135 1) = qbP.T1 := by kernel_rfl
theorem qbP.qse : qeG qbP.T1.2 qbP.B1 = true := by kernel_rfl
theorem qbP.calls (qbK : ByteArray) (qbY : Int) (r : ByteArray) (w : World) (h : qbP.f qbK qbY = some r) :
  Calls Tryz.prog 135 #[.agg #[.string qbK, .int .i64 qbY]] w fun e w' => e = .returned (.string r) ∧ Below w.heap.size w w' := by
 have hu99 := Tryz.underlying99; have HB := br_ w; have H : (if qbK.size + 1 ≤ 9223372036854775807 then ((strconv_Itoa.f qbY).bind fun qaQ => (if (qbK ++ (⟨#[58]⟩ : ByteArray)).size + qaQ.size ≤ 9223372036854775807 then (some ((qbK ++ (⟨#[58]⟩ : ByteArray)) ++ qaQ)) else (none))) else (none)) = some r := h; clear h; obtain ⟨c2, H⟩ := qct H; have qfB := eq_true c2; have qnI := decide_eq_true c2
 try have c2b2 : (9223372036854775807 < qbK.size + 1) = False := eq_false (Nat.not_lt.2 c2)
 obtain ⟨qaQ, A3, H⟩ := qaB H; (try dsimp only at H); obtain ⟨c4, H⟩ := qct H; have qfw := eq_true c4; have qlY := decide_eq_true c4
 try have c4b2 : (9223372036854775807 < (qbK ++ (⟨#[58]⟩ : ByteArray)).size + qaQ.size) = False := eq_false (Nat.not_lt.2 c4)
 have c4b3 : (9223372036854775807 < qbK.size + 1 + qaQ.size) = False := by have e_ : (qbK ++ (⟨#[58]⟩ : ByteArray)).size = qbK.size + 1 := (ByteArray.size_append).trans rfl; rw [← e_]; exact c4b2
 obtain rfl := sj_ H; go_enter Tryz.func135, Tryz.ntmps135
 try go_wp2_with (first | ((with_reducible refine qam (N := 1) rfl ?_); refine bx_ 1 rfl (cs := #[.string qbK, .int .i64 qbY]) (t := 99) qa1 ?_; intro qbD hg w5 hbox hb; have qas := ak_ (hbox); have qdO := ak_ (HB.ge hg); have qdz := ak_ (HB.ge hg); replace HB := HB.mw hb; clear hb hbox hg))
 replace qas := ak_ (qak qas.1); replace HB := ak_ (qah HB.1); refine qeS (n := 8) (S := fun w' => w'.cell? ⟨qbD, 0, none⟩ = some (.string qbK) ∧ w'.cell? ⟨qbD, 1, none⟩ = some (.int .i64 qbY)) (ds := []) (rA_ [0, 8]) (by kernel_rfl) rfl rfl ⟨qd4 qas.1, qbA qas.1⟩ (fun hHeld => ?_); refine qc0 qbP.tab1 qbP.qse (fun HT_ HW_ => ?_)
 generalize w5.drew = w6 at qas HB hHeld ⊢
 refine pu_ 0 3 [1, 7] ?_; refine pu_ 3 6 [1, 2, 1, 4] ?_; refine qii 1 4 [2, 1, 1, 4] ?_; refine pu_ 2 5 [4, 4] ?_; refine qii 4 7 [5, 3] ?_; refine qfC (i := 5) (N := some 8) (rA_ [6, 2]) rfl rfl (qcJ HT_.out (by kernel_rfl)) (by decide) (fun K hK => ?_); refine qfN Tryz.func87 (by kernel_rfl) rfl #[.int .i64 qbY] (by rfl) rfl rfl qbJ ?_
 with_reducible refine (strconv_Itoa.calls qbY qaQ _ A3.1).mono ?_
 rintro e w7 ⟨rfl, hb⟩; refine ⟨_, rfl, ?_⟩; replace qas := qas.mw hb; replace HB := ak_ (qaa qcw hb); (try clear hb); (try clear hb2); (try clear hk); (try clear hi); refine hK.out _ _ ⟨qd4 qas.1, qbA qas.1⟩ (fun hHeld => ?_); clear hK K; refine nm_ 8 ?_; refine pu_ 6 9 [7, 1] ?_; refine pu_ 7 2 [8] ?_; refine qf5 (qeh HT_.out (by kernel_rfl)) ?_
 try go_wp2
 go_ret
 exact ⟨qca, qcw⟩
def qla : Go.Shelf.Ren := ⟨fun | 145 => 90 | 220 => 150 | 219 => 120 | 217 => 176 | 225 => 177 | 224 => 178 | 267 => 179 | 266 => 215 | 314 => 216 | n => n, fun | 9 => 9 | 4 => 4 | 59 => 113 | 3 => 3 | 5 => 5 | 46 => 165 | 146 => 180 | 51 => 179 | n => n, fun | 1 => 0 | n => n⟩
theorem qtE : Go.Proofs.Lays.n145 Tryz.prog qla := {
  mixed := by kernel_rfl
  f145 := cs_ Tryz.func90
  f217 := cs_ Tryz.func176
  f219 := cs_ Tryz.func120
  f220 := cs_ Tryz.func150
  f224 := cs_ Tryz.func178
  f225 := cs_ Tryz.func177
  f266 := cs_ Tryz.func215
  f267 := cs_ Tryz.func179
  f314 := cs_ Tryz.func216
  t3 := Tryz.underlying3
  a3 := Tryz.isAgg3
  z3 := Tryz.sizeOf3
  v3 := Tryz.zeroValue3
  t4 := Tryz.underlying4
  a4 := Tryz.isAgg4
  z4 := Tryz.sizeOf4
  v4 := Tryz.zeroValue4
  t5 := Tryz.underlying5
  a5 := Tryz.isAgg5
  z5 := Tryz.sizeOf5
  v5 := Tryz.zeroValue5
  t9 := Tryz.underlying9
  a9 := Tryz.isAgg9
  z9 := Tryz.sizeOf9
  v9 := Tryz.zeroValue9
  t46 := Tryz.underlying165
  a46 := Tryz.isAgg165
  z46 := Tryz.sizeOf165
  v46 := Tryz.zeroValue165
  t51 := Tryz.underlying179
  a51 := Tryz.isAgg179
  z51 := Tryz.sizeOf179
  v51 := Tryz.zeroValue179
  t59 := Tryz.underlying113
  a59 := Tryz.isAgg113
  z59 := Tryz.sizeOf113
  v59 := Tryz.zeroValue113
  t146 := Tryz.underlying180
  a146 := Tryz.isAgg180
  z146 := Tryz.sizeOf180
  v146 := Tryz.zeroValue180
  g1 := by kernel_rfl }
def qiD : Go.Shelf.Ren := ⟨fun | 172 => 122 | 244 => 182 | 245 => 183 | 247 => 220 | 279 => 221 | 280 => 222 | 281 => 223 | 282 => 224 | 287 => 249 | 316 => 250 | 171 => 87 | 205 => 251 | 321 => 263 | 322 => 264 | 243 => 146 | 246 => 203 | 283 => 240 | 284 => 241 | 285 => 242 | 286 => 243 | 129 => 259 | 317 => 258 | 318 => 260 | 319 => 261 | 320 => 262 | 337 => 277 | 338 => 278 | n => n, fun | 9 => 9 | 3 => 3 | 75 => 137 | 76 => 138 | 4 => 4 | 5 => 5 | 167 => 184 | 37 => 35 | 0 => 0 | 85 => 185 | 2 => 2 | 168 => 187 | 53 => 68 | 175 => 209 | 46 => 165 | 210 => 212 | 127 => 176 | 145 => 228 | 143 => 226 | 21 => 21 | 171 => 200 | 173 => 203 | 212 => 219 | 51 => 179 | 20 => 20 | 213 => 220 | 232 => 246 | 233 => 247 | 80 => 72 | n => n, fun | 15 => 1 | 16 => 2 | 17 => 3 | 18 => 6 | 19 => 7 | n => n⟩
theorem qpO : Go.Proofs.LaysC.n172 Tryz.prog qiD := {
  mixed := by kernel_rfl
  f129 := cs_ Tryz.func259
  f171 := cs_ Tryz.func87
  f172 := cs_ Tryz.func122
  f205 := cs_ Tryz.func251
  f243 := cs_ Tryz.func146
  f244 := cs_ Tryz.func182
  f245 := cs_ Tryz.func183
  f246 := cs_ Tryz.func203
  f247 := cs_ Tryz.func220
  f279 := cs_ Tryz.func221
  f280 := cs_ Tryz.func222
  f281 := cs_ Tryz.func223
  f282 := cs_ Tryz.func224
  f283 := cs_ Tryz.func240
  f284 := cs_ Tryz.func241
  f285 := cs_ Tryz.func242
  f286 := cs_ Tryz.func243
  f287 := cs_ Tryz.func249
  f316 := cs_ Tryz.func250
  f317 := cs_ Tryz.func258
  f318 := cs_ Tryz.func260
  f319 := cs_ Tryz.func261
  f320 := cs_ Tryz.func262
  f321 := cs_ Tryz.func263
  f322 := cs_ Tryz.func264
  f337 := cs_ Tryz.func277
  f338 := cs_ Tryz.func278
  t0 := Tryz.underlying0
  a0 := Tryz.isAgg0
  z0 := Tryz.sizeOf0
  v0 := Tryz.zeroValue0
  t2 := Tryz.underlying2
  a2 := Tryz.isAgg2
  z2 := Tryz.sizeOf2
  v2 := Tryz.zeroValue2
  t3 := Tryz.underlying3
  a3 := Tryz.isAgg3
  z3 := Tryz.sizeOf3
  v3 := Tryz.zeroValue3
  t4 := Tryz.underlying4
  a4 := Tryz.isAgg4
  z4 := Tryz.sizeOf4
  v4 := Tryz.zeroValue4
  t5 := Tryz.underlying5
  a5 := Tryz.isAgg5
  z5 := Tryz.sizeOf5
  v5 := Tryz.zeroValue5
  t9 := Tryz.underlying9
  a9 := Tryz.isAgg9
  z9 := Tryz.sizeOf9
  v9 := Tryz.zeroValue9
  t20 := Tryz.underlying20
  a20 := Tryz.isAgg20
  z20 := Tryz.sizeOf20
  v20 := Tryz.zeroValue20
  t21 := Tryz.underlying21
  a21 := Tryz.isAgg21
  z21 := Tryz.sizeOf21
  v21 := Tryz.zeroValue21
  t37 := Tryz.underlying35
  a37 := Tryz.isAgg35
  z37 := Tryz.sizeOf35
  v37 := Tryz.zeroValue35
  t46 := Tryz.underlying165
  a46 := Tryz.isAgg165
  z46 := Tryz.sizeOf165
  v46 := Tryz.zeroValue165
  t51 := Tryz.underlying179
  a51 := Tryz.isAgg179
  z51 := Tryz.sizeOf179
  v51 := Tryz.zeroValue179
  t53 := Tryz.underlying68
  a53 := Tryz.isAgg68
  z53 := Tryz.sizeOf68
  v53 := Tryz.zeroValue68
  t75 := Tryz.underlying137
  a75 := Tryz.isAgg137
  z75 := Tryz.sizeOf137
  v75 := Tryz.zeroValue137
  t76 := Tryz.underlying138
  a76 := Tryz.isAgg138
  z76 := Tryz.sizeOf138
  v76 := Tryz.zeroValue138
  t85 := Tryz.underlying185
  a85 := Tryz.isAgg185
  z85 := Tryz.sizeOf185
  v85 := Tryz.zeroValue185
  t127 := Tryz.underlying176
  a127 := Tryz.isAgg176
  z127 := Tryz.sizeOf176
  v127 := Tryz.zeroValue176
  t143 := Tryz.underlying226
  a143 := Tryz.isAgg226
  z143 := Tryz.sizeOf226
  v143 := Tryz.zeroValue226
  t145 := Tryz.underlying228
  a145 := Tryz.isAgg228
  z145 := Tryz.sizeOf228
  v145 := Tryz.zeroValue228
  t167 := Tryz.underlying184
  a167 := Tryz.isAgg184
  z167 := Tryz.sizeOf184
  v167 := Tryz.zeroValue184
  t168 := Tryz.underlying187
  a168 := Tryz.isAgg187
  z168 := Tryz.sizeOf187
  v168 := Tryz.zeroValue187
  t171 := Tryz.underlying200
  a171 := Tryz.isAgg200
  z171 := Tryz.sizeOf200
  v171 := Tryz.zeroValue200
  t173 := Tryz.underlying203
  a173 := Tryz.isAgg203
  z173 := Tryz.sizeOf203
  v173 := Tryz.zeroValue203
  t175 := Tryz.underlying209
  a175 := Tryz.isAgg209
  z175 := Tryz.sizeOf209
  v175 := Tryz.zeroValue209
  t210 := Tryz.underlying212
  a210 := Tryz.isAgg212
  z210 := Tryz.sizeOf212
  v210 := Tryz.zeroValue212
  t212 := Tryz.underlying219
  a212 := Tryz.isAgg219
  z212 := Tryz.sizeOf219
  v212 := Tryz.zeroValue219
  t213 := Tryz.underlying220
  a213 := Tryz.isAgg220
  z213 := Tryz.sizeOf220
  t232 := Tryz.underlying246
  a232 := Tryz.isAgg246
  z232 := Tryz.sizeOf246
  v232 := Tryz.zeroValue246
  t233 := Tryz.underlying247
  a233 := Tryz.isAgg247
  z233 := Tryz.sizeOf247
  v233 := Tryz.zeroValue247
  g15 := by kernel_rfl
  g16 := by kernel_rfl
  g17 := by kernel_rfl
  g18 := by kernel_rfl
  g19 := by kernel_rfl
  t80 := Tryz.underlying72
  a80 := Tryz.isAgg72
  z80 := Tryz.sizeOf72
  v80 := Tryz.zeroValue72
  i0 := by kernel_rfl
  i2 := by kernel_rfl
  i3 := by kernel_rfl
  i4 := by kernel_rfl
  i5 := by kernel_rfl
  i9 := by kernel_rfl
  i20 := by kernel_rfl
  i21 := by kernel_rfl
  i37 := by kernel_rfl
  i46 := by kernel_rfl
  i51 := by kernel_rfl
  i53 := by kernel_rfl
  i75 := by kernel_rfl
  i76 := by kernel_rfl
  i80 := by kernel_rfl
  i85 := by kernel_rfl
  i127 := by kernel_rfl
  i143 := by kernel_rfl
  i145 := by kernel_rfl
  i167 := by kernel_rfl
  i168 := by kernel_rfl
  i171 := by kernel_rfl
  i173 := by kernel_rfl
  i175 := by kernel_rfl
  i210 := by kernel_rfl
  i212 := by kernel_rfl
  i232 := by kernel_rfl
  i233 := by kernel_rfl
  m15 := by kernel_rfl
  m16 := by kernel_rfl
  m17 := by kernel_rfl
  m18 := by kernel_rfl
  m19 := by kernel_rfl
  c0 := by kernel_rfl
  c2 := by kernel_rfl
  c3 := by kernel_rfl
  c4 := by kernel_rfl
  c5 := by kernel_rfl
  c9 := by kernel_rfl
  c20 := by kernel_rfl
  c21 := by kernel_rfl
  c37 := by kernel_rfl
  c46 := by kernel_rfl
  c51 := by kernel_rfl
  c53 := by kernel_rfl
  c75 := by kernel_rfl
  c76 := by kernel_rfl
  c80 := by kernel_rfl
  c85 := by kernel_rfl
  c127 := by kernel_rfl
  c143 := by kernel_rfl
  c145 := by kernel_rfl
  c167 := by kernel_rfl
  c168 := by kernel_rfl
  c171 := by kernel_rfl
  c173 := by kernel_rfl
  c175 := by kernel_rfl
  c210 := by kernel_rfl
  c212 := by kernel_rfl
  c213 := by kernel_rfl
  c232 := by kernel_rfl
  c233 := by kernel_rfl }
def qfu (w : World) : Prop := (∃ m : Int, w.cell? ⟨qla.g 1, 0, none⟩ = some (.int .i64 m)) ∧ (∃ ev : Value, w.cell? ⟨qiD.g 15, 0, none⟩ = some ev ∧ (ev = .nilIface ∨ ∃ te pe, ev = .iface te pe)) ∧ (∃ ev : Value, w.cell? ⟨qiD.g 16, 0, none⟩ = some ev ∧ (ev = .nilIface ∨ ∃ te pe, ev = .iface te pe))
theorem qfu.below {w w' : World} (h : qfu w) (hb : Below w.heap.size w w') : qfu w' := by
  obtain ⟨⟨m, h1⟩, ⟨e1, h2, h3⟩, ⟨e2, h4, h5⟩⟩ := h; exact ⟨⟨m, (hb.cell (World.block_lt_of_cell? w _ h1)).trans h1⟩, ⟨e1, (hb.cell (World.block_lt_of_cell? w _ h2)).trans h2, h3⟩, ⟨e2, (hb.cell (World.block_lt_of_cell? w _ h4)).trans h4, h5⟩⟩
def qcd.f (a0 : ByteArray) : Option (ByteArray × Int × Bool) := if a0.size ≤ 1048576 then (match Lib.atoiAll (Lib.cut a0.data.toList [58]).2.1 with
  | .ok v => (qcE.f ⟨(Lib.cut a0.data.toList [58]).1.toArray⟩ v).bind fun t => if t = true then ((qbP.f ⟨(Lib.cut a0.data.toList [58]).1.toArray⟩ v).bind fun txt => if txt.toList = a0.toList then some (⟨(Lib.cut a0.data.toList [58]).1.toArray⟩, v, true) else some ((⟨#[]⟩ : ByteArray), 0, false)) else some ((⟨#[]⟩ : ByteArray), 0, false)
  | _ => some ((⟨#[]⟩ : ByteArray), 0, false)) else none
theorem qpf (s : List UInt8) (sep : List UInt8) : (Lib.cut s sep).2.1.length ≤ s.length := by
  unfold Lib.cut; split
  ·simp only [List.length_drop]; omega
  simp
theorem qgb (s : ByteArray) (w : World) (hs : s.size ≤ 281474976710656) (hG : qfu w) :
    Calls Tryz.prog 122 #[.string s] w fun e w' => ∃ (n : Int) (ev : Value), e = .returned (.tuple #[.int .i64 n, ev]) ∧ ((Lib.atoiAll s.data.toList = .ok n ∧ ev = .nilIface) ∨ ((∀ v, Lib.atoiAll s.data.toList ≠ .ok v) ∧ ∃ te pe, ev = .iface te pe)) ∧ Below w.heap.size w w' := by
  obtain ⟨-, ⟨e1, h2, h3⟩, ⟨e2, h4, h5⟩⟩ := hG
  cases h : Lib.atoiAll s.data.toList with
  | ok v =>
    refine (Any.strconv_Atoi_ok qpO s (by omega) v h w).mono ?_; rintro e w' ⟨rfl, hw⟩; refine ⟨v, .nilIface, rfl, .inl ⟨rfl, rfl⟩, ?_⟩
    rcases hw with rfl | ⟨t, rfl⟩
    ·exact Below.refl _ _
    exact Lib.bytesWorld_below _ _ _
  | range =>
    refine (Any.strconv_Atoi_range qpO s hs h e2 w h4 h5).mono ?_; rintro e w' ⟨N, rfl, -, -, hb⟩; exact ⟨_, _, rfl, .inr ⟨fun v hv => (by cases hv), _, _, rfl⟩, hb⟩
  | _ =>
    refine (Any.strconv_Atoi_syntax qpO s hs h e1 w h2 h3).mono ?_; rintro e w' ⟨N, rfl, -, -, hb⟩; exact ⟨_, _, rfl, .inr ⟨fun v hv => (by cases hv), _, _, rfl⟩, hb⟩
theorem qmT (s : ByteArray) (w : World) (hs : s.size < 4294967281) (hG : qfu w) :
    Calls Tryz.prog 90 #[.string s, .string ⟨#[58]⟩] w fun e w' => e = .returned (.tuple #[.string ⟨(Lib.cut s.data.toList [58]).1.toArray⟩, .string ⟨(Lib.cut s.data.toList [58]).2.1.toArray⟩, .bool (Lib.cut s.data.toList [58]).2.2]) ∧ Below w.heap.size w w' := by
  obtain ⟨⟨m, hm⟩, -⟩ := hG; refine (Any.strings_Cut qtE s ⟨#[58]⟩ m w hs hm).mono ?_; rintro e w' ⟨rfl, n, rfl⟩; exact ⟨rfl, qaf (Below.refl _ _) _⟩
theorem qcd.calls (a0 : ByteArray) (r1 : ByteArray) (r2 : Int) (r3 : Bool) (w : World) (h : qcd.f a0 = some (r1, r2, r3)) (hG : qfu w) :
    Calls Tryz.prog 74 #[.string a0] w fun e w' => e = .returned (.tuple #[.agg #[.string r1, .int .i64 r2], .bool r3]) ∧ Below w.heap.size w w' := by
  have hu := Tryz.underlying99; have HG := ak_ hG; clear hG; unfold qcd.f at h; by_cases hs : a0.size ≤ 1048576; rotate_left
  ·rw [if_neg hs] at h; exact absurd h (by simp)
  rw [if_pos hs] at h; have HS := ak_ hs; have hnl := qpf a0.data.toList [58]
  obtain ⟨bf, hbf⟩ : ∃ x : ByteArray, x = ⟨(Lib.cut a0.data.toList [58]).1.toArray⟩ := ⟨_, rfl⟩
  obtain ⟨nb, hnb⟩ : ∃ x : ByteArray, x = ⟨(Lib.cut a0.data.toList [58]).2.1.toArray⟩ := ⟨_, rfl⟩
  have hnd : nb.data.toList = (Lib.cut a0.data.toList [58]).2.1 := by rw [hnb]
  rw [← hnd, ← hbf] at h; have HNL := ak_ (show nb.size ≤ a0.size by rw [← hnd] at hnl; simpa using hnl); have HBF := ak_ hbf; have HNB := ak_ hnb; clear hbf hnb hnl hnd hs; by_cases hv : ∃ v, Lib.atoiAll nb.data.toList = .ok v; rotate_left
  ·have he : ∀ v, Lib.atoiAll nb.data.toList ≠ .ok v := fun v h_ => hv ⟨v, h_⟩
   have h2 : some ((⟨#[]⟩ : ByteArray), (0 : Int), false) = some (r1, r2, r3) := by
     cases hc : Lib.atoiAll nb.data.toList with
     | ok v => exact absurd hc (he v)
     | _ => rw [hc] at h; exact h
   have HE := ak_ he; clear he hv h; obtain ⟨rfl, rfl, rfl⟩ := qfI h2; go_enter Tryz.func74, Tryz.ntmps74
   go_wp2_with (first | ((with_reducible refine qam (N := 2) rfl ?_); refine bx_ 2 rfl (cs := #[.string (⟨#[]⟩ : ByteArray), .int .i64 0]) (t := 99) qa1 ?_; intro gQ hg w1 hbox hb; have BQ1 := ak_ hbox; have HB1 := ak_ hb; have GQ := ak_ (show w.heap.size ≤ gQ by rw [hg]; exact Nat.le_refl _); have HG1 := ak_ (qfu.below HG.1 hb); clear hbox hb hg) | (refine gl_ 12 Tryz.func90 #[.string a0, .string ⟨#[58]⟩] rfl qb6 ?_; (refine (qmT a0 _ (by have := HS.1; omega) HG1.1).mono ?_); rintro e w2 ⟨rfl, hb⟩; refine ⟨_, rfl, ?_⟩; have BQ2 := ak_ (qap BQ1.1 hb); have HB2 := ak_ (qaa HB1.1 hb); have HG2 := ak_ (qfu.below HG1.1 hb); clear hb BQ1 HB1 HG1; rw [← HBF.1, ← HNB.1]) | (refine gl_ 18 Tryz.func122 #[.string nb] rfl qb6 ?_; (refine (qgb nb _ (by have := HS.1; have := HNL.1; omega) HG2.1).mono ?_); rintro e w4 ⟨n, ev, rfl, hc_, hb⟩; refine ⟨_, rfl, ?_⟩; have BQ4 := ak_ (qap BQ2.1 hb); have HB4 := ak_ (qaa HB2.1 hb); obtain ⟨te, pe, rfl⟩ : ∃ te pe, ev = .iface te pe := (by rcases hc_ with ⟨h1_, -⟩ | ⟨-, h2_⟩; exact absurd h1_ (HE.1 n); exact h2_); clear hc_; clear hb BQ2 HB2 HG2) | ((with_reducible refine qam (N := 9) rfl ?_); refine bx_ 9 rfl (cs := #[.string (⟨#[]⟩ : ByteArray), .int .i64 0]) (t := 99) qa1 ?_; intro g9 hg w9 hbox hb; have B9_ := ak_ (show ((w9.setCell ⟨g9, 0, none⟩ (.string bf)).setCell ⟨g9, 1, none⟩ (.int .i64 n)).heap[g9]? = _ from qa9 (cs' := #[.string bf, .int .i64 n]) (qa9 (cs' := #[.string bf, .int .i64 0]) hbox 0 (.string bf) rfl) 1 (.int .i64 n) rfl); have HB9 := ak_ (show Below w4.heap.size w4 ((w9.setCell ⟨g9, 0, none⟩ (.string bf)).setCell ⟨g9, 1, none⟩ (.int .i64 n)) from qat (qat hb (Nat.le_of_eq hg.symm)) (Nat.le_of_eq hg.symm)); have BQ9 := ak_ (qap BQ4.1 HB9.1); have hz0 : w9.cell? ⟨g9, 0, none⟩ = some (.string (⟨#[]⟩ : ByteArray)) := (qba hbox 0).trans rfl; have hz1 : w9.cell? ⟨g9, 1, none⟩ = some (.int .i64 0) := (qba hbox 1).trans rfl; have hf0 := qae hbox 0; have hf1 := qae hbox 1; have hne : gQ ≠ g9 := (by rw [hg]; exact Nat.ne_of_lt (qd2 BQ4.1)); have hne' : ¬ g9 = gQ := fun e_ => hne e_.symm; have qrk : w9.cell? ⟨gQ, 0, none⟩ = some (.string (⟨#[]⟩ : ByteArray)) := (qba (qap BQ4.1 hb) 0).trans rfl; have qrl : w9.cell? ⟨gQ, 1, none⟩ = some (.int .i64 0) := (qba (qap BQ4.1 hb) 1).trans rfl; have qri := qae (qap BQ4.1 hb) 0; have qrj := qae (qap BQ4.1 hb) 1; clear hbox hb hg))
   refine bodyPost_ret (qb8 (rs := [.cell 2 99, .tmp 3]) rfl (by simp) (.cell gQ 99 #[.string (⟨#[]⟩ : ByteArray), .int .i64 0] (0, 0) _ rfl (qa9 (cs' := #[.string (⟨#[]⟩ : ByteArray), .int .i64 0]) (qa9 (cs' := #[.string (⟨#[]⟩ : ByteArray), .int .i64 0]) BQ9.1 0 _ rfl) 1 _ rfl) Tryz.underlying99 rfl (by kernel_rfl) (.tmp .nil))) rfl ?_; exact ⟨rfl, qat (qat (qaa HB4.1 HB9.1) (by have h_ := GQ.1; omega)) (by have h_ := GQ.1; omega)⟩
  obtain ⟨v, hv⟩ := hv; rw [hv] at h; replace h : ((qcE.f bf v).bind fun t => if t = true then ((qbP.f bf v).bind fun txt => if txt.toList = a0.toList then some (bf, v, true) else some ((⟨#[]⟩ : ByteArray), 0, false)) else some ((⟨#[]⟩ : ByteArray), 0, false)) = some (r1, r2, r3) := h; have HV := ak_ hv; clear hv; replace h := Option.bind_eq_some_iff.mp h; obtain ⟨t, A0_, h⟩ := h; have A1 := ak_ A0_; clear A0_
  cases t with
  | false =>
    rw [if_neg (by decide)] at h; obtain ⟨rfl, rfl, rfl⟩ := qfI h; go_enter Tryz.func74, Tryz.ntmps74
    go_wp2_with (first | ((with_reducible refine qam (N := 2) rfl ?_); refine bx_ 2 rfl (cs := #[.string (⟨#[]⟩ : ByteArray), .int .i64 0]) (t := 99) qa1 ?_; intro gQ hg w1 hbox hb; have BQ1 := ak_ hbox; have HB1 := ak_ hb; have GQ := ak_ (show w.heap.size ≤ gQ by rw [hg]; exact Nat.le_refl _); have HG1 := ak_ (qfu.below HG.1 hb); clear hbox hb hg) | (refine gl_ 12 Tryz.func90 #[.string a0, .string ⟨#[58]⟩] rfl qb6 ?_; (refine (qmT a0 _ (by have := HS.1; omega) HG1.1).mono ?_); rintro e w2 ⟨rfl, hb⟩; refine ⟨_, rfl, ?_⟩; have BQ2 := ak_ (qap BQ1.1 hb); have HB2 := ak_ (qaa HB1.1 hb); have HG2 := ak_ (qfu.below HG1.1 hb); clear hb BQ1 HB1 HG1; rw [← HBF.1, ← HNB.1]) | (refine gl_ 18 Tryz.func122 #[.string nb] rfl qb6 ?_; (refine (qgb nb _ (by have := HS.1; have := HNL.1; omega) HG2.1).mono ?_); rintro e w4 ⟨n, ev, rfl, hc_, hb⟩; refine ⟨_, rfl, ?_⟩; have BQ4 := ak_ (qap BQ2.1 hb); have HB4 := ak_ (qaa HB2.1 hb); obtain ⟨rfl, rfl⟩ : n = v ∧ ev = .nilIface := (by rcases hc_ with ⟨h1_, h2_⟩ | ⟨h1_, -⟩; exact ⟨by rw [HV.1] at h1_; injection h1_ with h1_; exact h1_.symm, h2_⟩; exact absurd HV.1 (h1_ v)); clear hc_; clear hb BQ2 HB2 HG2) | ((with_reducible refine qam (N := 9) rfl ?_); refine bx_ 9 rfl (cs := #[.string (⟨#[]⟩ : ByteArray), .int .i64 0]) (t := 99) qa1 ?_; intro g9 hg w9 hbox hb; have B9_ := ak_ (show ((w9.setCell ⟨g9, 0, none⟩ (.string bf)).setCell ⟨g9, 1, none⟩ (.int .i64 n)).heap[g9]? = _ from qa9 (cs' := #[.string bf, .int .i64 n]) (qa9 (cs' := #[.string bf, .int .i64 0]) hbox 0 (.string bf) rfl) 1 (.int .i64 n) rfl); have HB9 := ak_ (show Below w4.heap.size w4 ((w9.setCell ⟨g9, 0, none⟩ (.string bf)).setCell ⟨g9, 1, none⟩ (.int .i64 n)) from qat (qat hb (Nat.le_of_eq hg.symm)) (Nat.le_of_eq hg.symm)); have BQ9 := ak_ (qap BQ4.1 HB9.1); have hz0 : w9.cell? ⟨g9, 0, none⟩ = some (.string (⟨#[]⟩ : ByteArray)) := (qba hbox 0).trans rfl; have hz1 : w9.cell? ⟨g9, 1, none⟩ = some (.int .i64 0) := (qba hbox 1).trans rfl; have hf0 := qae hbox 0; have hf1 := qae hbox 1; have hne : gQ ≠ g9 := (by rw [hg]; exact Nat.ne_of_lt (qd2 BQ4.1)); have hne' : ¬ g9 = gQ := fun e_ => hne e_.symm; have qrk : w9.cell? ⟨gQ, 0, none⟩ = some (.string (⟨#[]⟩ : ByteArray)) := (qba (qap BQ4.1 hb) 0).trans rfl; have qrl : w9.cell? ⟨gQ, 1, none⟩ = some (.int .i64 0) := (qba (qap BQ4.1 hb) 1).trans rfl; have qri := qae (qap BQ4.1 hb) 0; have qrj := qae (qap BQ4.1 hb) 1; clear hbox hb hg) | (refine gl_ 28 Tryz.func134 #[.agg #[.string bf, .int .i64 n]] rfl qb6 ?_; (refine (qcE.calls bf n false _ A1.1).mono ?_); rintro e w10 ⟨rfl, hb⟩; refine ⟨_, rfl, ?_⟩; have B10 := ak_ (qap B9_.1 hb); have BQ10 := ak_ (qap BQ9.1 hb); have HB10 := ak_ (qaa (qaa HB4.1 HB9.1) hb); clear hz0 hz1 hf0 hf1 qrk qrl qri qrj B9_ BQ9 HB9 hb; have hz0 := qd4 B10.1; have hz1 := qbA B10.1; obtain ⟨qrk, qrl, qri, qrj⟩ := qbl BQ10.1))
    refine bodyPost_ret (qb8 (rs := [.cell 2 99, .tmp 3]) rfl (by simp) (.cell gQ 99 #[.string (⟨#[]⟩ : ByteArray), .int .i64 0] (0, 0) _ rfl (qa9 (cs' := #[.string (⟨#[]⟩ : ByteArray), .int .i64 0]) (qa9 (cs' := #[.string (⟨#[]⟩ : ByteArray), .int .i64 0]) BQ10.1 0 _ rfl) 1 _ rfl) Tryz.underlying99 rfl (by kernel_rfl) (.tmp .nil))) rfl ?_; exact ⟨rfl, qat (qat HB10.1 (by have h_ := GQ.1; omega)) (by have h_ := GQ.1; omega)⟩
  | true =>
    rw [if_pos rfl] at h; replace h := Option.bind_eq_some_iff.mp h; obtain ⟨txt, A0_, h⟩ := h; have A2 := ak_ A0_; clear A0_; by_cases hx : txt.toList = a0.toList
    ·rw [if_pos hx] at h; obtain ⟨rfl, rfl, rfl⟩ := qfI h; have hxb : (txt.toList != a0.toList) = false := bne_eq_false_iff_eq.2 hx; have hxc : (txt.toList == a0.toList) = true := beq_iff_eq.2 hx; clear hx; go_enter Tryz.func74, Tryz.ntmps74
     go_wp2_with (first | ((with_reducible refine qam (N := 2) rfl ?_); refine bx_ 2 rfl (cs := #[.string (⟨#[]⟩ : ByteArray), .int .i64 0]) (t := 99) qa1 ?_; intro gQ hg w1 hbox hb; have BQ1 := ak_ hbox; have HB1 := ak_ hb; have GQ := ak_ (show w.heap.size ≤ gQ by rw [hg]; exact Nat.le_refl _); have HG1 := ak_ (qfu.below HG.1 hb); clear hbox hb hg) | (refine gl_ 12 Tryz.func90 #[.string a0, .string ⟨#[58]⟩] rfl qb6 ?_; (refine (qmT a0 _ (by have := HS.1; omega) HG1.1).mono ?_); rintro e w2 ⟨rfl, hb⟩; refine ⟨_, rfl, ?_⟩; have BQ2 := ak_ (qap BQ1.1 hb); have HB2 := ak_ (qaa HB1.1 hb); have HG2 := ak_ (qfu.below HG1.1 hb); clear hb BQ1 HB1 HG1; rw [← HBF.1, ← HNB.1]) | (refine gl_ 18 Tryz.func122 #[.string nb] rfl qb6 ?_; (refine (qgb nb _ (by have := HS.1; have := HNL.1; omega) HG2.1).mono ?_); rintro e w4 ⟨n, ev, rfl, hc_, hb⟩; refine ⟨_, rfl, ?_⟩; have BQ4 := ak_ (qap BQ2.1 hb); have HB4 := ak_ (qaa HB2.1 hb); obtain ⟨rfl, rfl⟩ : n = v ∧ ev = .nilIface := (by rcases hc_ with ⟨h1_, h2_⟩ | ⟨h1_, -⟩; exact ⟨by rw [HV.1] at h1_; injection h1_ with h1_; exact h1_.symm, h2_⟩; exact absurd HV.1 (h1_ v)); clear hc_; clear hb BQ2 HB2 HG2) | ((with_reducible refine qam (N := 9) rfl ?_); refine bx_ 9 rfl (cs := #[.string (⟨#[]⟩ : ByteArray), .int .i64 0]) (t := 99) qa1 ?_; intro g9 hg w9 hbox hb; have B9_ := ak_ (show ((w9.setCell ⟨g9, 0, none⟩ (.string bf)).setCell ⟨g9, 1, none⟩ (.int .i64 n)).heap[g9]? = _ from qa9 (cs' := #[.string bf, .int .i64 n]) (qa9 (cs' := #[.string bf, .int .i64 0]) hbox 0 (.string bf) rfl) 1 (.int .i64 n) rfl); have HB9 := ak_ (show Below w4.heap.size w4 ((w9.setCell ⟨g9, 0, none⟩ (.string bf)).setCell ⟨g9, 1, none⟩ (.int .i64 n)) from qat (qat hb (Nat.le_of_eq hg.symm)) (Nat.le_of_eq hg.symm)); have BQ9 := ak_ (qap BQ4.1 HB9.1); have hz0 : w9.cell? ⟨g9, 0, none⟩ = some (.string (⟨#[]⟩ : ByteArray)) := (qba hbox 0).trans rfl; have hz1 : w9.cell? ⟨g9, 1, none⟩ = some (.int .i64 0) := (qba hbox 1).trans rfl; have hf0 := qae hbox 0; have hf1 := qae hbox 1; have hne : gQ ≠ g9 := (by rw [hg]; exact Nat.ne_of_lt (qd2 BQ4.1)); have hne' : ¬ g9 = gQ := fun e_ => hne e_.symm; have qrk : w9.cell? ⟨gQ, 0, none⟩ = some (.string (⟨#[]⟩ : ByteArray)) := (qba (qap BQ4.1 hb) 0).trans rfl; have qrl : w9.cell? ⟨gQ, 1, none⟩ = some (.int .i64 0) := (qba (qap BQ4.1 hb) 1).trans rfl; have qri := qae (qap BQ4.1 hb) 0; have qrj := qae (qap BQ4.1 hb) 1; clear hbox hb hg) | (refine gl_ 28 Tryz.func134 #[.agg #[.string bf, .int .i64 n]] rfl qb6 ?_; (refine (qcE.calls bf n true _ A1.1).mono ?_); rintro e w10 ⟨rfl, hb⟩; refine ⟨_, rfl, ?_⟩; have B10 := ak_ (qap B9_.1 hb); have BQ10 := ak_ (qap BQ9.1 hb); have HB10 := ak_ (qaa (qaa HB4.1 HB9.1) hb); clear hz0 hz1 hf0 hf1 qrk qrl qri qrj B9_ BQ9 HB9 hb; have hz0 := qd4 B10.1; have hz1 := qbA B10.1; obtain ⟨qrk, qrl, qri, qrj⟩ := qbl BQ10.1) | (refine gl_ 33 Tryz.func135 #[.agg #[.string bf, .int .i64 n]] rfl qb6 ?_; (refine (qbP.calls bf n txt _ A2.1).mono ?_); rintro e w11 ⟨rfl, hb⟩; refine ⟨_, rfl, ?_⟩; have B11 := ak_ (qap B10.1 hb); have BQ11 := ak_ (qap BQ10.1 hb); have HB11 := ak_ (qaa HB10.1 hb); clear hz0 hz1 qrk qrl qri qrj hb; have hz0 := qd4 B11.1; have hz1 := qbA B11.1; obtain ⟨qrk, qrl, qri, qrj⟩ := qbl BQ11.1))
     refine bodyPost_ret (qb8 (rs := [.cell 2 99, .tmp 3]) rfl (by simp) (.cell gQ 99 #[.string bf, .int .i64 n] (0, 0) _ rfl (qa9 (cs' := #[.string bf, .int .i64 n]) (qa9 (cs' := #[.string bf, .int .i64 0]) BQ11.1 0 _ rfl) 1 _ rfl) Tryz.underlying99 rfl (by kernel_rfl) (.tmp .nil))) rfl ?_; exact ⟨rfl, qat (qat HB11.1 (by have h_ := GQ.1; omega)) (by have h_ := GQ.1; omega)⟩
    rw [if_neg hx] at h; obtain ⟨rfl, rfl, rfl⟩ := qfI h; have hxb : (txt.toList != a0.toList) = true := bne_iff_ne.2 hx; have hxc : (txt.toList == a0.toList) = false := beq_eq_false_iff_ne.2 hx; clear hx; go_enter Tryz.func74, Tryz.ntmps74
    go_wp2_with (first | ((with_reducible refine qam (N := 2) rfl ?_); refine bx_ 2 rfl (cs := #[.string (⟨#[]⟩ : ByteArray), .int .i64 0]) (t := 99) qa1 ?_; intro gQ hg w1 hbox hb; have BQ1 := ak_ hbox; have HB1 := ak_ hb; have GQ := ak_ (show w.heap.size ≤ gQ by rw [hg]; exact Nat.le_refl _); have HG1 := ak_ (qfu.below HG.1 hb); clear hbox hb hg) | (refine gl_ 12 Tryz.func90 #[.string a0, .string ⟨#[58]⟩] rfl qb6 ?_; (refine (qmT a0 _ (by have := HS.1; omega) HG1.1).mono ?_); rintro e w2 ⟨rfl, hb⟩; refine ⟨_, rfl, ?_⟩; have BQ2 := ak_ (qap BQ1.1 hb); have HB2 := ak_ (qaa HB1.1 hb); have HG2 := ak_ (qfu.below HG1.1 hb); clear hb BQ1 HB1 HG1; rw [← HBF.1, ← HNB.1]) | (refine gl_ 18 Tryz.func122 #[.string nb] rfl qb6 ?_; (refine (qgb nb _ (by have := HS.1; have := HNL.1; omega) HG2.1).mono ?_); rintro e w4 ⟨n, ev, rfl, hc_, hb⟩; refine ⟨_, rfl, ?_⟩; have BQ4 := ak_ (qap BQ2.1 hb); have HB4 := ak_ (qaa HB2.1 hb); obtain ⟨rfl, rfl⟩ : n = v ∧ ev = .nilIface := (by rcases hc_ with ⟨h1_, h2_⟩ | ⟨h1_, -⟩; exact ⟨by rw [HV.1] at h1_; injection h1_ with h1_; exact h1_.symm, h2_⟩; exact absurd HV.1 (h1_ v)); clear hc_; clear hb BQ2 HB2 HG2) | ((with_reducible refine qam (N := 9) rfl ?_); refine bx_ 9 rfl (cs := #[.string (⟨#[]⟩ : ByteArray), .int .i64 0]) (t := 99) qa1 ?_; intro g9 hg w9 hbox hb; have B9_ := ak_ (show ((w9.setCell ⟨g9, 0, none⟩ (.string bf)).setCell ⟨g9, 1, none⟩ (.int .i64 n)).heap[g9]? = _ from qa9 (cs' := #[.string bf, .int .i64 n]) (qa9 (cs' := #[.string bf, .int .i64 0]) hbox 0 (.string bf) rfl) 1 (.int .i64 n) rfl); have HB9 := ak_ (show Below w4.heap.size w4 ((w9.setCell ⟨g9, 0, none⟩ (.string bf)).setCell ⟨g9, 1, none⟩ (.int .i64 n)) from qat (qat hb (Nat.le_of_eq hg.symm)) (Nat.le_of_eq hg.symm)); have BQ9 := ak_ (qap BQ4.1 HB9.1); have hz0 : w9.cell? ⟨g9, 0, none⟩ = some (.string (⟨#[]⟩ : ByteArray)) := (qba hbox 0).trans rfl; have hz1 : w9.cell? ⟨g9, 1, none⟩ = some (.int .i64 0) := (qba hbox 1).trans rfl; have hf0 := qae hbox 0; have hf1 := qae hbox 1; have hne : gQ ≠ g9 := (by rw [hg]; exact Nat.ne_of_lt (qd2 BQ4.1)); have hne' : ¬ g9 = gQ := fun e_ => hne e_.symm; have qrk : w9.cell? ⟨gQ, 0, none⟩ = some (.string (⟨#[]⟩ : ByteArray)) := (qba (qap BQ4.1 hb) 0).trans rfl; have qrl : w9.cell? ⟨gQ, 1, none⟩ = some (.int .i64 0) := (qba (qap BQ4.1 hb) 1).trans rfl; have qri := qae (qap BQ4.1 hb) 0; have qrj := qae (qap BQ4.1 hb) 1; clear hbox hb hg) | (refine gl_ 28 Tryz.func134 #[.agg #[.string bf, .int .i64 n]] rfl qb6 ?_; (refine (qcE.calls bf n true _ A1.1).mono ?_); rintro e w10 ⟨rfl, hb⟩; refine ⟨_, rfl, ?_⟩; have B10 := ak_ (qap B9_.1 hb); have BQ10 := ak_ (qap BQ9.1 hb); have HB10 := ak_ (qaa (qaa HB4.1 HB9.1) hb); clear hz0 hz1 hf0 hf1 qrk qrl qri qrj B9_ BQ9 HB9 hb; have hz0 := qd4 B10.1; have hz1 := qbA B10.1; obtain ⟨qrk, qrl, qri, qrj⟩ := qbl BQ10.1) | (refine gl_ 33 Tryz.func135 #[.agg #[.string bf, .int .i64 n]] rfl qb6 ?_; (refine (qbP.calls bf n txt _ A2.1).mono ?_); rintro e w11 ⟨rfl, hb⟩; refine ⟨_, rfl, ?_⟩; have B11 := ak_ (qap B10.1 hb); have BQ11 := ak_ (qap BQ10.1 hb); have HB11 := ak_ (qaa HB10.1 hb); clear hz0 hz1 qrk qrl qri qrj hb; have hz0 := qd4 B11.1; have hz1 := qbA B11.1; obtain ⟨qrk, qrl, qri, qrj⟩ := qbl BQ11.1))
    refine bodyPost_ret (qb8 (rs := [.cell 2 99, .tmp 3]) rfl (by simp) (.cell gQ 99 #[.string (⟨#[]⟩ : ByteArray), .int .i64 0] (0, 0) _ rfl (qa9 (cs' := #[.string (⟨#[]⟩ : ByteArray), .int .i64 0]) (qa9 (cs' := #[.string (⟨#[]⟩ : ByteArray), .int .i64 0]) BQ11.1 0 _ rfl) 1 _ rfl) Tryz.underlying99 rfl (by kernel_rfl) (.tmp .nil))) rfl ?_; exact ⟨rfl, qat (qat HB11.1 (by have h_ := GQ.1; omega)) (by have h_ := GQ.1; omega)⟩
def qpM : Go.Shelf.Ren := ⟨fun | 146 => 68 | 221 => 121 | 268 => 180 | 138 => 181 | 143 => 67 | 195 => 217 | 197 => 218 | 218 => 219 | 219 => 120 | 260 => 248 | 217 => 176 | 225 => 177 | 224 => 178 | 267 => 179 | 266 => 215 | 314 => 216 | n => n, fun | 9 => 9 | 31 => 43 | 3 => 3 | 4 => 4 | 0 => 0 | 105 => 182 | 21 => 21 | 5 => 5 | 46 => 165 | 119 => 221 | 139 => 224 | 138 => 223 | 146 => 180 | 51 => 179 | n => n, fun | 1 => 0 | 3 => 4 | 4 => 5 | n => n⟩
theorem lays146 : Go.Proofs.Lays.n146 Tryz.prog qpM := {
  mixed := by kernel_rfl
  f138 := cs_ Tryz.func181
  f143 := cs_ Tryz.func67
  f146 := cs_ Tryz.func68
  f195 := cs_ Tryz.func217
  f197 := cs_ Tryz.func218
  f217 := cs_ Tryz.func176
  f218 := cs_ Tryz.func219
  f219 := cs_ Tryz.func120
  f221 := cs_ Tryz.func121
  f224 := cs_ Tryz.func178
  f225 := cs_ Tryz.func177
  f260 := cs_ Tryz.func248
  f266 := cs_ Tryz.func215
  f267 := cs_ Tryz.func179
  f268 := cs_ Tryz.func180
  f314 := cs_ Tryz.func216
  t0 := Tryz.underlying0
  a0 := Tryz.isAgg0
  z0 := Tryz.sizeOf0
  v0 := Tryz.zeroValue0
  t3 := Tryz.underlying3
  a3 := Tryz.isAgg3
  z3 := Tryz.sizeOf3
  v3 := Tryz.zeroValue3
  t4 := Tryz.underlying4
  a4 := Tryz.isAgg4
  z4 := Tryz.sizeOf4
  v4 := Tryz.zeroValue4
  t5 := Tryz.underlying5
  a5 := Tryz.isAgg5
  z5 := Tryz.sizeOf5
  v5 := Tryz.zeroValue5
  t9 := Tryz.underlying9
  a9 := Tryz.isAgg9
  z9 := Tryz.sizeOf9
  v9 := Tryz.zeroValue9
  t21 := Tryz.underlying21
  a21 := Tryz.isAgg21
  z21 := Tryz.sizeOf21
  v21 := Tryz.zeroValue21
  t31 := Tryz.underlying43
  a31 := Tryz.isAgg43
  z31 := Tryz.sizeOf43
  v31 := Tryz.zeroValue43
  t46 := Tryz.underlying165
  a46 := Tryz.isAgg165
  z46 := Tryz.sizeOf165
  v46 := Tryz.zeroValue165
  t51 := Tryz.underlying179
  a51 := Tryz.isAgg179
  z51 := Tryz.sizeOf179
  v51 := Tryz.zeroValue179
  t105 := Tryz.underlying182
  a105 := Tryz.isAgg182
  z105 := Tryz.sizeOf182
  v105 := Tryz.zeroValue182
  t119 := Tryz.underlying221
  a119 := Tryz.isAgg221
  z119 := Tryz.sizeOf221
  t138 := Tryz.underlying223
  a138 := Tryz.isAgg223
  z138 := Tryz.sizeOf223
  v138 := Tryz.zeroValue223
  t139 := Tryz.underlying224
  a139 := Tryz.isAgg224
  z139 := Tryz.sizeOf224
  v139 := Tryz.zeroValue224
  t146 := Tryz.underlying180
  a146 := Tryz.isAgg180
  z146 := Tryz.sizeOf180
  v146 := Tryz.zeroValue180
  g1 := by kernel_rfl
  g3 := by kernel_rfl
  g4 := by kernel_rfl }
def qbc (w : World) : Prop := qfu w ∧ Lib.TabIs Tryz.prog w "internal/strconv.uint64pow10" .u64 Lib.pow10Tab
theorem qbc.below {w w' : World} (h : qbc w) (hb : Below w.heap.size w w') : qbc w' := by
  refine ⟨h.1.below hb, ?_⟩; have h2 := h.2; unfold Lib.TabIs World.var? at h2 ⊢
  cases hg : Tryz.prog.globalNamed "internal/strconv.uint64pow10" with
  | none => rw [hg] at h2; cases h2
  | some g =>
    rw [hg] at h2; simp only [Option.bind_some] at h2 ⊢
    have hlt : g < w.heap.size := by
      rcases Nat.lt_or_ge g w.heap.size with h' | h'
      ·exact h'
      rw [Array.getElem?_eq_none h'] at h2; cases h2
    rw [hb.block g hlt]; exact h2
theorem qq6 (xs : List ByteArray) (w : World) (hl : xs.length ≤ 9223372036854775807) :
    Kd.R Kd.string 9 (w.alloc (.cells (xs.map Value.string).toArray 9)) w.heap.size (fun _ => True) (.slice (some ⟨w.heap.size, 0, none⟩) xs.length xs.length) xs :=
  Kd.R_of_own (qry (enc := Value.string) w w.heap.size 9 xs (Nat.le_refl _) hl) (fun _ _ => trivial)
theorem qdh (s : ByteArray) (sep : ByteArray) (w : World) (hs : s.size < 4294967281) (h1 : sep.size = 1) (hG : qbc w) :
    Calls Tryz.prog 68 #[.string s, .string sep] w fun e w' => ∃ v_, e = .returned v_ ∧ Kd.R Kd.string 9 w' w.heap.size (fun _ => True) v_ (Lib.splitB sep 0 (Lib.countB s sep) s) ∧ Below w.heap.size w w' := by
  obtain ⟨⟨⟨m, hm⟩, -⟩, -⟩ := hG; refine (Any.strings_Split lays146 (by kernel_rfl) s sep m w hs hm (by omega)).mono ?_; rintro e w' ⟨rfl, rfl⟩; have hle := Lib.countB_le sep (by omega) s.size s (Nat.le_refl _); have hlen := Lib.splitB_all sep (by omega) 0 _ s rfl; have h := qq6 (Lib.splitB sep 0 (Lib.countB s sep) s) w (by omega); rw [hlen] at h; exact ⟨_, rfl, h, qal (Below.refl _ _) _⟩
def qbm.f (a0 : Int) : Option ByteArray := if -9223372036854775808 ≤ a0 ∧ a0 ≤ 9223372036854775807 then some ⟨(Lib.itoa a0).toArray⟩ else none
theorem qbm.calls (a0 : Int) (r : ByteArray) (w : World) (h : qbm.f a0 = some r) (hG : qbc w) :
    Calls Tryz.prog 87 #[.int .i64 a0] w fun e w' => e = .returned (.string r) ∧ Below w.heap.size w w' := by
  unfold qbm.f at h; by_cases hc : -9223372036854775808 ≤ a0 ∧ a0 ≤ 9223372036854775807; rotate_left
  ·rw [if_neg hc] at h; exact absurd h (by simp)
  rw [if_pos hc] at h; obtain rfl := Option.some.inj h; refine (Any.strconv_Itoa qtF a0 hc.1 hc.2 w hG.2).mono ?_; rintro e w' ⟨rfl, k, os, rfl⟩; exact ⟨rfl, ⟨rfl, rfl, rfl, by simp [Go.Sort.grow], fun i hi => by simp only [Go.Sort.grow]; rw [Array.getElem?_append_left (by exact hi)]; rfl⟩⟩
inductive Cmd
  | cMirror
  | cTidy
  | cShow
  | cLeft
  | cCount
  | cPeriod
  | cSpokes
  | cSteps
  | cDrop
  | cMost
  | cMove
  | cPrimes
  | cRank
  | cFactors
  | cPi
  | cDivisors
  | cTotient
  | cPattern
  | cRules
  | cAdd
  | cAnswer
def Cmd.bytes : Cmd → List UInt8
  | .cMirror => [109, 105, 114, 114, 111, 114]
  | .cTidy => [116, 105, 100, 121]
  | .cShow => [115, 104, 111, 119]
  | .cLeft => [108, 101, 102, 116]
  | .cCount => [99, 111, 117, 110, 116]
  | .cPeriod => [112, 101, 114, 105, 111, 100]
  | .cSpokes => [115, 112, 111, 107, 101, 115]
  | .cSteps => [115, 116, 101, 112, 115]
  | .cDrop => [100, 114, 111, 112]
  | .cMost => [109, 111, 115, 116]
  | .cMove => [109, 111, 118, 101]
  | .cPrimes => [112, 114, 105, 109, 101, 115]
  | .cRank => [114, 97, 110, 107]
  | .cFactors => [102, 97, 99, 116, 111, 114, 115]
  | .cPi => [112, 105]
  | .cDivisors => [100, 105, 118, 105, 115, 111, 114, 115]
  | .cTotient => [116, 111, 116, 105, 101, 110, 116]
  | .cPattern => [112, 97, 116, 116, 101, 114, 110]
  | .cRules => [114, 117, 108, 101, 115]
  | .cAdd => [97, 100, 100]
  | .cAnswer => [97, 110, 115, 119, 101, 114]
def Cmd.word (c : Cmd) : ByteArray := ⟨c.bytes.toArray⟩
def Cmd.kind : Cmd → List UInt8
  | .cMirror => []
  | .cTidy => []
  | .cShow => []
  | .cLeft => []
  | .cCount => []
  | .cPeriod => []
  | .cSpokes => []
  | .cSteps => []
  | .cDrop => [110]
  | .cMost => [110]
  | .cMove => [110]
  | .cPrimes => [110]
  | .cRank => [110]
  | .cFactors => [110]
  | .cPi => [110]
  | .cDivisors => [110]
  | .cTotient => [110]
  | .cPattern => [110]
  | .cRules => [114]
  | .cAdd => [114]
  | .cAnswer => [115]
def Cmd.all : List Cmd := [.cMirror, .cTidy, .cShow, .cLeft, .cCount, .cPeriod, .cSpokes, .cSteps, .cDrop, .cMost, .cMove, .cPrimes, .cRank, .cFactors, .cPi, .cDivisors, .cTotient, .cPattern, .cRules, .cAdd, .cAnswer]
theorem Cmd.mem (c : Cmd) : c ∈ Cmd.all := by cases c <;> simp [Cmd.all]
def qhO (x : ByteArray) : Option Cmd := Cmd.all.find? fun c => c.bytes == x.data.toList
theorem word_eq (c : Cmd) (x : ByteArray) (h : c.bytes = x.data.toList) : x = c.word := by
  unfold Cmd.word; rw [h]
theorem qh2 {x : ByteArray} {c : Cmd} (h : qhO x = some c) : x = c.word := word_eq c x (beq_iff_eq.1 (List.find?_some (p := fun c : Cmd => c.bytes == x.data.toList) h))
theorem qlZ {x : ByteArray} (h : qhO x = none) (c : Cmd) : (x.toList == c.bytes) = false := by
  have := List.find?_eq_none.1 h c (Cmd.mem c); rw [Lib.toList_data]
  exact beq_eq_false_iff_ne.2 fun e => this (beq_iff_eq.2 e.symm)
def qbH.f (x : ByteArray) : Option (ByteArray × Bool) := match qhO x with
  | some c => some (⟨c.kind.toArray⟩, true)
  | none => some (⟨#[]⟩, false)
theorem qbH.calls (x : ByteArray) (r1 : ByteArray) (r2 : Bool) (w : World) (h : qbH.f x = some (r1, r2)) :
    Calls Tryz.prog 69 #[.string x] w fun e w' => e = .returned (.tuple #[.string r1, .bool r2]) ∧ Below w.heap.size w w' := by
  unfold qbH.f at h
  cases hc : qhO x with
  | some c =>
    rw [hc] at h; obtain ⟨rfl, rfl⟩ := qdQ h; obtain rfl := qh2 hc; clear hc
    cases c <;> (simp only [Cmd.word, Cmd.bytes, Cmd.kind]; go_enter Tryz.func69, Tryz.ntmps69; go_wp2; go_ret2; exact ⟨rfl, Below.refl _ _⟩)
  | none =>
    rw [hc] at h; obtain ⟨rfl, rfl⟩ := qdQ h; have HN := qlZ hc; clear hc; have n0 : (x.toList == ([109, 105, 114, 114, 111, 114] : List UInt8)) = false := HN .cMirror; have n1 : (x.toList == ([116, 105, 100, 121] : List UInt8)) = false := HN .cTidy; have n2 : (x.toList == ([115, 104, 111, 119] : List UInt8)) = false := HN .cShow; have n3 : (x.toList == ([108, 101, 102, 116] : List UInt8)) = false := HN .cLeft; have n4 : (x.toList == ([99, 111, 117, 110, 116] : List UInt8)) = false := HN .cCount; have n5 : (x.toList == ([112, 101, 114, 105, 111, 100] : List UInt8)) = false := HN .cPeriod; have n6 : (x.toList == ([115, 112, 111, 107, 101, 115] : List UInt8)) = false := HN .cSpokes; have n7 : (x.toList == ([115, 116, 101, 112, 115] : List UInt8)) = false := HN .cSteps; have n8 : (x.toList == ([100, 114, 111, 112] : List UInt8)) = false := HN .cDrop; have n9 : (x.toList == ([109, 111, 115, 116] : List UInt8)) = false := HN .cMost; have n10 : (x.toList == ([109, 111, 118, 101] : List UInt8)) = false := HN .cMove; have n11 : (x.toList == ([112, 114, 105, 109, 101, 115] : List UInt8)) = false := HN .cPrimes; have n12 : (x.toList == ([114, 97, 110, 107] : List UInt8)) = false := HN .cRank; have n13 : (x.toList == ([102, 97, 99, 116, 111, 114, 115] : List UInt8)) = false := HN .cFactors; have n14 : (x.toList == ([112, 105] : List UInt8)) = false := HN .cPi; have n15 : (x.toList == ([100, 105, 118, 105, 115, 111, 114, 115] : List UInt8)) = false := HN .cDivisors; have n16 : (x.toList == ([116, 111, 116, 105, 101, 110, 116] : List UInt8)) = false := HN .cTotient; have n17 : (x.toList == ([112, 97, 116, 116, 101, 114, 110] : List UInt8)) = false := HN .cPattern; have n18 : (x.toList == ([114, 117, 108, 101, 115] : List UInt8)) = false := HN .cRules; have n19 : (x.toList == ([97, 100, 100] : List UInt8)) = false := HN .cAdd; have n20 : (x.toList == ([97, 110, 115, 119, 101, 114] : List UInt8)) = false := HN .cAnswer; clear HN; go_enter Tryz.func69, Tryz.ntmps69; go_wp2
    go_ret2
    exact ⟨rfl, Below.refl _ _⟩
theorem qir (p : qac → Bool) : ∀ (l : List qac) (i : Int), 0 ≤ i → decide (0 ≤ qei p l i) = l.any p
  | [], _, _ => by simp [qei]
  | x :: l, i, hi => by
    rw [qei, List.any_cons]
    cases hx : p x with
    | true => simp [hi]
    | false => simpa using qir p l (i + 1) (by omega)
set_option maxHeartbeats 2000000 in
theorem qsq (p : qac → Bool) (g : Nat) (lb : Array Value) (eg : ∀ args w, (callFunc g args).run Tryz.prog w = .ok (.enter g args) w)
    (A0 : Option Addr) (c0 : Nat) (l0 : List qac) (w : World) (hp : PredR g lb p l0 w) (hr0 : Kd.C qaG w A0 l0.length l0) :
    Calls Tryz.prog 84 #[.slice A0 l0.length c0, .func (.func g) #[] lb] w fun e w' => e = .returned (.bool (l0.any p)) ∧ Below w.heap.size w w' := by
  rw [← qir p l0 0 (by omega)]; have hcall := qoe p g lb eg A0 c0 l0 w hp hr0; go_enter Tryz.func84, Tryz.ntmps84
  go_wp2_with (go_at_call 145; refine hcall.mono ?_; rintro e w' ⟨rfl, hb'⟩)
  go_ret
  exact ⟨rfl, hb'⟩
def qfi.f (qbK : Int) (qbY : Int) : Option (Bool) := if qbK ≥ 2 then (if qbK ≤ 60 then (if qbY ≥ 0 then (some (decide (qbY < qbK))) else (some false)) else (some false)) else (some false)
theorem qfi.calls (qbK : Int) (qbY : Int) (r : Bool) (w : World) (h : qfi.f qbK qbY = some r) :
  Calls Tryz.prog 86 #[.agg #[.int .i64 qbK, .int .i64 qbY]] w fun e w' => e = .returned (.bool r) ∧ Below w.heap.size w w' := by
 have qme := Tryz.underlying85; have HB := br_ w; have H : (if qbK ≥ 2 then (if qbK ≤ 60 then (if qbY ≥ 0 then (some (decide (qbY < qbK))) else (some false)) else (some false)) else (some false)) = some r := h; clear h; by_cases c2 : qbK ≥ 2; rotate_left
 ·rw [if_neg c2] at H; have qfB : decide (2 ≤ qbK) = false := decide_eq_false c2; clear c2; obtain rfl := sj_ H; go_enter Tryz.func86, Tryz.ntmps86
  go_wp2_with (first | ((with_reducible refine qam (N := 1) rfl ?_); refine bx_ 1 rfl (cs := #[.int .i64 qbK, .int .i64 qbY]) (t := 85) qa1 ?_; intro qbD hg w11 hbox hb; have qas := ak_ (hbox); have qdO := ak_ (HB.ge hg); have qdz := ak_ (HB.ge hg); replace HB := HB.mw hb; clear hb hbox hg; obtain ⟨qmX, qmY, qmZ, qm0⟩ := qbl qas.1))
  go_ret
  exact ⟨qca, qcw⟩
 rw [if_pos c2] at H; have qfB : decide (2 ≤ qbK) = true := decide_eq_true c2; clear c2; by_cases c3 : qbK ≤ 60; rotate_left
 ·rw [if_neg c3] at H; have qfr := decide_eq_false c3; clear c3; obtain rfl := sj_ H; go_enter Tryz.func86, Tryz.ntmps86
  go_wp2_with (first | ((with_reducible refine qam (N := 1) rfl ?_); refine bx_ 1 rfl (cs := #[.int .i64 qbK, .int .i64 qbY]) (t := 85) qa1 ?_; intro qbD hg w9 hbox hb; have qas := ak_ (hbox); have qdO := ak_ (HB.ge hg); have qdz := ak_ (HB.ge hg); replace HB := HB.mw hb; clear hb hbox hg; obtain ⟨qkT, qkU, qkY, qkZ⟩ := qbl qas.1))
  go_ret
  exact ⟨qca, qcw⟩
 rw [if_pos c3] at H; have qfr := decide_eq_true c3; clear c3; by_cases c4 : qbY ≥ 0
 ·rw [if_pos c4] at H; have qfw : decide (0 ≤ qbY) = true := decide_eq_true c4; clear c4; obtain rfl := sj_ H; go_enter Tryz.func86, Tryz.ntmps86
  go_wp2_with (first | ((with_reducible refine qam (N := 1) rfl ?_); refine bx_ 1 rfl (cs := #[.int .i64 qbK, .int .i64 qbY]) (t := 85) qa1 ?_; intro qbD hg w5 hbox hb; have qas := ak_ (hbox); have qdO := ak_ (HB.ge hg); have qdz := ak_ (HB.ge hg); replace HB := HB.mw hb; clear hb hbox hg; obtain ⟨qkV, qkW, qk0, qk1⟩ := qbl qas.1))
  go_ret
  exact ⟨qca, qcw⟩
 rw [if_neg c4] at H; have qfw : decide (0 ≤ qbY) = false := decide_eq_false c4; clear c4; obtain rfl := sj_ H; go_enter Tryz.func86, Tryz.ntmps86
 go_wp2_with (first | ((with_reducible refine qam (N := 1) rfl ?_); refine bx_ 1 rfl (cs := #[.int .i64 qbK, .int .i64 qbY]) (t := 85) qa1 ?_; intro qbD hg w7 hbox hb; have qas := ak_ (hbox); have qdO := ak_ (HB.ge hg); have qdz := ak_ (HB.ge hg); replace HB := HB.mw hb; clear hb hbox hg; obtain ⟨qjN, qjO, qjS, qjT⟩ := qbl qas.1))
 go_ret
 exact ⟨qca, qcw⟩
def qe2.f (qbK : Int) (qbY : Int) : Option (Bool) := (qfi.f qbK qbY).bind fun qaQ => (some (!qaQ))
theorem qe2.calls (qbK : Int) (qbY : Int) (r : Bool) (w : World) (h : qe2.f qbK qbY = some r) :
  Calls Tryz.prog 85 #[.agg #[.int .i64 qbK, .int .i64 qbY]] w fun e w' => e = .returned (.bool r) ∧ Below w.heap.size w w' := by
 have qme := Tryz.underlying85; have HB := br_ w; have H : ((qfi.f qbK qbY).bind fun qaQ => (some (!qaQ))) = some r := h; clear h; obtain ⟨qaQ, A2, H⟩ := qaB H; (try dsimp only at H); obtain rfl := sj_ H; go_enter Tryz.func85, Tryz.ntmps85
 go_wp2_with (first | ((with_reducible refine qam (N := 1) rfl ?_); refine bx_ 1 rfl (cs := #[.int .i64 qbK, .int .i64 qbY]) (t := 85) qa1 ?_; intro qbD hg w3 hbox hb; have qas := ak_ (hbox); have qdO := ak_ (HB.ge hg); have qdz := ak_ (HB.ge hg); replace HB := HB.mw hb; clear hb hbox hg; obtain ⟨hcz4_0, hcz4_1, hfz4_0, hfz4_1⟩ := qbl qas.1) | (refine gl_ 4 Tryz.func86 #[.agg #[.int .i64 qbK, .int .i64 qbY]] rfl qbJ ?_; (with_reducible refine (qfi.calls qbK qbY qaQ _ A2.1).mono ?_); rintro e w5 ⟨rfl, hb⟩; refine ⟨_, rfl, ?_⟩; replace qas := qas.mw hb; replace HB := ak_ (qaa qcw hb); (try clear hb)))
 go_ret
 exact ⟨qca, qcw⟩
def qbF (x : qac) : Bool := decide (2 ≤ x.f0) && (decide (x.f0 ≤ 60) && (decide (0 ≤ x.f1) && decide (x.f1 < x.f0)))
theorem qtB (x : qac) : qfi.f x.f0 x.f1 = some (qbF x) := by
  unfold qfi.f qbF; simp only [ge_iff_le]; by_cases h1 : 2 ≤ x.f0
  ·by_cases h2 : x.f0 ≤ 60
   ·by_cases h3 : 0 ≤ x.f1 <;> simp [h1, h2, h3]
   simp [h1, h2]
  simp [h1]
theorem qlW : ∀ l : List qac, l.all qbF = !(l.any fun x => !qbF x)
  | [] => rfl
  | x :: l => by rw [List.all_cons, List.any_cons, qlW l]; cases qbF x <;> simp
theorem qmJ (x : qac) : qe2.f x.f0 x.f1 = some (!qbF x) := by
  unfold qe2.f; rw [qtB]
  cases qbF x <;> simp
def qbb.f (l0 : List (qac)) : Option (Bool) := some (decide (l0.length ≤ 12) && l0.all qbF)
set_option maxHeartbeats 2000000 in
theorem qbb.calls (A0 : Option Addr) (c0 : Nat) (l0 : List (qac)) (r : Bool) (w : World) (hr0 : Kd.C qaG w A0 l0.length l0) (hc0 : l0.length ≤ c0) (h : qbb.f l0 = some r) :
    Calls Tryz.prog 53 #[.slice A0 l0.length c0] w fun e w' => e = .returned (.bool r) ∧ Below w.heap.size w w' := by
  obtain rfl := Option.some.inj h; clear h
  have hcall := fun (W : World) (hb : Below w.heap.size w W) => qsq (fun x => !qbF x) 85 #[] (enters_of Tryz.func85 (by kernel_rfl) rfl) A0 c0 l0 W
    (fun W' x _ hb' => (qe2.calls x.f0 x.f1 _ W' (qmJ x)).mono fun e w' ⟨he, hb2⟩ => ⟨he, hb'.trans (hb2.mono hb'.size)⟩) (Kd.qd0 hr0 hb)
  have HC := ak_ hcall; have hb0 := Below.refl w.heap.size w; clear hcall hr0; by_cases c2 : l0.length ≤ 12
  ·have d1 := decide_eq_true c2; have d2 : decide ((l0.length : Int) ≤ 12) = true := decide_eq_true (by omega); rw [d1, Bool.true_and, qlW]; clear c2; go_enter Tryz.func53, Tryz.ntmps53
   go_wp2_with (go_at_call 84; refine (HC.1 _ hb0).mono ?_; rintro e w' ⟨rfl, hb'⟩)
   go_ret
   exact ⟨rfl, hb'⟩
  have d1 := decide_eq_false c2; have d2 : decide ((l0.length : Int) ≤ 12) = false := decide_eq_false (by omega); rw [d1, Bool.false_and]; go_enter Tryz.func53, Tryz.ntmps53; go_wp2
  go_ret
  exact ⟨rfl, hb0⟩
theorem qip (s : ByteArray) (c : UInt8) (w : World) (hs : s.size < 4294967281) (hG : qfu w) :
    Calls Tryz.prog 90 #[.string s, .string ⟨#[c]⟩] w fun e w' => e = .returned (.tuple #[.string ⟨(Lib.cut s.data.toList [c]).1.toArray⟩, .string ⟨(Lib.cut s.data.toList [c]).2.1.toArray⟩, .bool (Lib.cut s.data.toList [c]).2.2]) ∧ Below w.heap.size w w' := by
  obtain ⟨⟨m, hm⟩, -⟩ := hG; refine (Any.strings_Cut qtE s ⟨#[c]⟩ m w hs hm).mono ?_; rintro e w' ⟨rfl, n, rfl⟩; exact ⟨rfl, qaf (Below.refl _ _) _⟩
theorem qhK (s : ByteArray) (v : Int) (w : World) (hs : s.size ≤ 281474976710656) (hv : Lib.atoiAll s.data.toList = .ok v) (hG : qfu w) :
    Calls Tryz.prog 122 #[.string s] w fun e w' => e = .returned (.tuple #[.int .i64 v, .nilIface]) ∧ Below w.heap.size w w' := by
  refine (qgb s w hs hG).mono ?_; rintro e w' ⟨n, ev, rfl, ⟨h1, rfl⟩ | ⟨h1, -⟩, hb⟩
  ·rw [hv] at h1; injection h1 with h1; subst h1; exact ⟨rfl, hb⟩
  exact absurd hv (h1 v)
theorem qkJ (s : ByteArray) (w : World) (hs : s.size ≤ 281474976710656) (hv : ∀ v, Lib.atoiAll s.data.toList ≠ .ok v) (hG : qfu w) :
    Calls Tryz.prog 122 #[.string s] w fun e w' => ∃ (n : Int) (te : TypeId) (pe : Value), e = .returned (.tuple #[.int .i64 n, .iface te pe]) ∧ Below w.heap.size w w' := by
  refine (qgb s w hs hG).mono ?_; rintro e w' ⟨n, ev, rfl, ⟨h1, -⟩ | ⟨-, te, pe, rfl⟩, hb⟩
  ·exact absurd h1 (hv n)
  exact ⟨n, te, pe, rfl, hb⟩
theorem toList_data (a : ByteArray) : a.toList = a.data.toList := Lib.toList_data a
theorem qne (a : ByteArray) : a.size = a.data.toList.length := by simp
theorem toList_mk (l : List UInt8) : (⟨l.toArray⟩ : ByteArray).toList = l := by rw [toList_data]
def numOf (s : ByteArray) : Option Int := match Lib.atoiAll s.data.toList with
  | .ok v => if 0 ≤ v ∧ v ≤ 999999 ∧ Lib.itoa v = s.data.toList then some v else none
  | _ => none
theorem qih (s : ByteArray) (w : World) (hs : s.size ≤ 281474976710656) (hG : qbc w) :
    Calls Tryz.prog 72 #[.string s] w fun e w' => ∃ (n : Int) (b : Bool), e = .returned (.tuple #[.int .i64 n, .bool b]) ∧ ((b = true ∧ numOf s = some n) ∨ (b = false ∧ numOf s = none)) ∧ Below w.heap.size w w' := by
  have HG := ak_ hG; have HS := ak_ hs; have HB := br_ w; clear hG hs; by_cases hv : ∃ v, Lib.atoiAll s.data.toList = .ok v; rotate_left
  ·have he : ∀ v, Lib.atoiAll s.data.toList ≠ .ok v := fun v h_ => hv ⟨v, h_⟩
   have hn : numOf s = none := by
     unfold numOf
     cases hc : Lib.atoiAll s.data.toList with
     | ok v => exact absurd hc (he v)
     | _ => rfl
   have HV := ak_ he; have HN := ak_ hn; clear he hv hn; go_enter Tryz.func72, Tryz.ntmps72
   go_wp2_with (first | (refine gl_ 8 Tryz.func122 #[.string s] rfl qb6 ?_; (refine (qkJ s _ HS.1 HV.1 (qbc.below HG.1 qao).1).mono ?_); rintro e w2 ⟨n, te, pe, rfl, hb⟩; refine ⟨_, rfl, ?_⟩; replace HB := ak_ (qaa qao hb); clear hb))
   go_ret2
   exact ⟨n, _, rfl, .inr ⟨rfl, HN.1⟩, qao⟩
  obtain ⟨v, hv⟩ := hv
  have hn : numOf s = if 0 ≤ v ∧ v ≤ 999999 ∧ Lib.itoa v = s.data.toList then some v else none := by unfold numOf; rw [hv]
  have HV := ak_ hv; clear hv; by_cases c1 : 0 ≤ v; rotate_left
  ·have c1b := decide_eq_false c1; rw [if_neg (fun h_ => c1 h_.1)] at hn; have HN := ak_ hn; clear hn c1; go_enter Tryz.func72, Tryz.ntmps72
   go_wp2_with (first | (refine gl_ 8 Tryz.func122 #[.string s] rfl qb6 ?_; (refine (qhK s v _ HS.1 HV.1 (qbc.below HG.1 qao).1).mono ?_); rintro e w2 ⟨rfl, hb⟩; refine ⟨_, rfl, ?_⟩; replace HB := ak_ (qaa qao hb); clear hb))
   go_ret2
   exact ⟨v, _, rfl, .inr ⟨rfl, HN.1⟩, qao⟩
  have c1b := decide_eq_true c1; by_cases c2 : v ≤ 999999; rotate_left
  ·have c2b := decide_eq_false c2; rw [if_neg (fun h_ => c2 h_.2.1)] at hn; have HN := ak_ hn; clear hn c2; go_enter Tryz.func72, Tryz.ntmps72
   go_wp2_with (first | (refine gl_ 8 Tryz.func122 #[.string s] rfl qb6 ?_; (refine (qhK s v _ HS.1 HV.1 (qbc.below HG.1 qao).1).mono ?_); rintro e w2 ⟨rfl, hb⟩; refine ⟨_, rfl, ?_⟩; replace HB := ak_ (qaa qao hb); clear hb))
   go_ret2
   exact ⟨v, _, rfl, .inr ⟨rfl, HN.1⟩, qao⟩
  have c2b := decide_eq_true c2; by_cases c3 : Lib.itoa v = s.data.toList
  ·rw [if_pos ⟨c1, c2, c3⟩] at hn; have HN := ak_ hn; clear hn
   obtain ⟨tx, htx⟩ : ∃ x : ByteArray, x = ⟨(Lib.itoa v).toArray⟩ := ⟨_, rfl⟩
   have HT := ak_ (show qbm.f v = some tx from by unfold qbm.f; rw [if_pos (by omega), htx])
   have hxd : tx.toList = Lib.itoa v := by rw [htx]; exact toList_mk _
   have hxc : (tx.toList == s.toList) = true := beq_iff_eq.2 (by rw [hxd, c3, toList_data]); clear c3 htx hxd; go_enter Tryz.func72, Tryz.ntmps72
   go_wp2_with (first | (refine gl_ 8 Tryz.func122 #[.string s] rfl qb6 ?_; (refine (qhK s v _ HS.1 HV.1 (qbc.below HG.1 qao).1).mono ?_); rintro e w2 ⟨rfl, hb⟩; refine ⟨_, rfl, ?_⟩; replace HB := ak_ (qaa qao hb); clear hb) | (refine gl_ 24 Tryz.func87 #[.int .i64 v] rfl qb6 ?_; (refine (qbm.calls v tx _ HT.1 (qbc.below HG.1 qao)).mono ?_); rintro e w3 ⟨rfl, hb⟩; refine ⟨_, rfl, ?_⟩; replace HB := ak_ (qaa qao hb); clear hb))
   go_ret2
   exact ⟨v, _, rfl, .inl ⟨rfl, HN.1⟩, qao⟩
  rw [if_neg (fun h_ => c3 h_.2.2)] at hn; have HN := ak_ hn; clear hn
  obtain ⟨tx, htx⟩ : ∃ x : ByteArray, x = ⟨(Lib.itoa v).toArray⟩ := ⟨_, rfl⟩
  have HT := ak_ (show qbm.f v = some tx from by unfold qbm.f; rw [if_pos (by omega), htx])
  have hxd : tx.toList = Lib.itoa v := by rw [htx]; exact toList_mk _
  have hxc : (tx.toList == s.toList) = false := beq_eq_false_iff_ne.2 (fun h_ => c3 (by rw [← hxd, h_, toList_data])); clear c3 htx hxd; go_enter Tryz.func72, Tryz.ntmps72
  go_wp2_with (first | (refine gl_ 8 Tryz.func122 #[.string s] rfl qb6 ?_; (refine (qhK s v _ HS.1 HV.1 (qbc.below HG.1 qao).1).mono ?_); rintro e w2 ⟨rfl, hb⟩; refine ⟨_, rfl, ?_⟩; replace HB := ak_ (qaa qao hb); clear hb) | (refine gl_ 24 Tryz.func87 #[.int .i64 v] rfl qb6 ?_; (refine (qbm.calls v tx _ HT.1 (qbc.below HG.1 qao)).mono ?_); rintro e w3 ⟨rfl, hb⟩; refine ⟨_, rfl, ?_⟩; replace HB := ak_ (qaa qao hb); clear hb))
  go_ret2
  exact ⟨v, _, rfl, .inr ⟨rfl, HN.1⟩, qao⟩
def qga (x : ByteArray) : Option qac := match Lib.atoiAll (Lib.cut x.data.toList [58]).1, Lib.atoiAll (Lib.cut x.data.toList [58]).2.1 with
  | .ok a, .ok b => some ⟨a, b⟩
  | _, _ => none
def qdR : List ByteArray → Option (List qac)
  | [] => some []
  | x :: l => (qga x).bind fun r => (qdR l).bind fun t => some (r :: t)
theorem qil : ∀ (l : List ByteArray) (x : ByteArray) (a : List qac) (r : qac), qdR l = some a → qga x = some r → qdR (l ++ [x]) = some (a ++ [r])
  | [], x, a, r, h, hx => by obtain rfl := Option.some.inj h; simp [qdR, hx]
  | y :: l, x, a, r, h, hx => by
    obtain ⟨b, hb, h⟩ := Option.bind_eq_some_iff.1 h; obtain ⟨c, hc, h⟩ := Option.bind_eq_some_iff.1 h; obtain rfl := Option.some.inj h
    simp [qdR, hb, qil l x c r hc hx]
theorem qik : ∀ (l : List ByteArray) (i : Nat) (x : ByteArray), l[i]? = some x → qga x = none → qdR l = none
  | y :: l, 0, x, h, hx => by obtain rfl : y = x := by simpa using h
                              simp [qdR, hx]
  | y :: l, i + 1, x, h, hx => by
    have := qik l i x (by simpa using h) hx; unfold qdR; rw [this]
    cases qga y <;> rfl
theorem qhu : ∀ (l : List ByteArray) (a : List qac), qdR l = some a → a.length = l.length
  | [], a, h => by obtain rfl := Option.some.inj h; rfl
  | y :: l, a, h => by
    obtain ⟨b, hb, h⟩ := Option.bind_eq_some_iff.1 h; obtain ⟨c, hc, h⟩ := Option.bind_eq_some_iff.1 h; obtain rfl := Option.some.inj h
    simp [qhu l c hc]
theorem qjz (sep : ByteArray) : ∀ (k : Nat) (s x : ByteArray), x ∈ Lib.splitB sep 0 k s → x.size ≤ s.size
  | 0, s, x, h => by rw [Lib.splitB_zero, List.mem_singleton] at h; rw [h]; exact Nat.le_refl _
  | k + 1, s, x, h => by
    unfold Lib.splitB at h; split at h
    ·rw [List.mem_singleton] at h; rw [h]; exact Nat.le_refl _
    rcases List.mem_cons.1 h with h | h
    ·rw [h, ByteArray.size_extract]; omega
    have := qjz sep k _ x h; rw [ByteArray.size_extract] at this; omega
def qgQ (c : UInt8) (s : ByteArray) : List ByteArray := Lib.splitB ⟨#[c]⟩ 0 (Lib.countB s ⟨#[c]⟩) s
theorem qlR (c : UInt8) (s : ByteArray) : (qgQ c s).length ≤ s.size + 1 := by
  unfold qgQ; rw [Lib.splitB_all ⟨#[c]⟩ (Nat.le_refl 1) 0 _ s rfl]; have := Lib.countB_le ⟨#[c]⟩ (Nat.le_refl 1) s.size s (Nat.le_refl _); omega
def qaV.l0 (k : Nat) (s : ByteArray) (l : List qac) : Option (List qac × Bool) := (qbb.f l).bind fun t => if t = true then ((qaH.f k l).bind fun txt => if txt.toList = s.toList then some (l, true) else some ([], false)) else some ([], false)
def qaV.f (k : Nat) (s : ByteArray) : Option (List qac × Bool) := if s.size ≤ 1048576 then (if s.toList = [45] then qaV.l0 k s [] else (match qdR (qgQ 44 s) with
  | none => some ([], false)
  | some l => qaV.l0 k s l)) else none
theorem cut_len1 (s : List UInt8) (sep : List UInt8) : (Lib.cut s sep).1.length ≤ s.length := by
  unfold Lib.cut; split
  ·simp only [List.length_take]; omega
  simp
theorem qaV.calls (k : Nat) (s : ByteArray) (r1 : List qac) (r2 : Bool) (w : World) (h : qaV.f k s = some (r1, r2)) (hG : qbc w) :
    Calls Tryz.prog 70 #[.string s] w fun e w' => ∃ v0_ : Value, e = .returned (.tuple #[v0_, .bool r2]) ∧ Kd.R qaG 85 w' w.heap.size (fun _ => True) v0_ r1 ∧ Below w.heap.size w w' := by
  have hu50 := Tryz.underlying85; have HG := ak_ hG; have HB := br_ w; clear hG; unfold qaV.f at h; by_cases hs : s.size ≤ 1048576; rotate_left
  ·rw [if_neg hs] at h; exact absurd h (by simp)
  rw [if_pos hs] at h; have HS := ak_ hs; by_cases hd : s.toList = [45]
  ·rw [if_pos hd] at h; have hdb : (s.toList != [45]) = false := bne_eq_false_iff_eq.2 hd; have hdc : (s.toList == [45]) = true := beq_iff_eq.2 hd; clear hd hs
   obtain ⟨l, hl⟩ : ∃ l : List qac, l = [] := ⟨_, rfl⟩
   rw [← hl] at h; have HL := ak_ hl; clear hl; have H : (qaV.l0 k s l) = some (r1, r2) := h; unfold qaV.l0 at H; clear h; obtain ⟨t, A1, H⟩ := qaB H
   cases t with
   | false =>
     rw [if_neg (by decide)] at H; obtain ⟨rfl, rfl⟩ := qdQ H; go_enter Tryz.func70, Tryz.ntmps70
     go_wp2_with (first | ((with_reducible refine qam (N := 14) rfl ?_); refine li_ qaG 85 14 rfl (xs := ([] : List qac)) qa1 ?_; intro vl14 w1 ho hb; have HO4 := ak_ (Kd.qaw ho (qab qao)); replace HB := HB.mw hb; clear hb ho; rw [← HL.1] at HO4; obtain ⟨Ar, cr, er⟩ := Kd.qaI HO4.1; subst er) | (refine gl_ 54 Tryz.func53 #[.slice Ar l.length cr] rfl qb6 ?_; (refine (qbb.calls _ _ l false _ k45_ (Kd.qan HO4.1).2.1 A1.1).mono ?_); rintro e wa ⟨rfl, hb⟩; refine ⟨_, rfl, ?_⟩; replace HB := ak_ (qaa qao hb); replace HO4 := HO4.mw hb; clear hb))
     go_ret2
     exact ⟨_, rfl, Kd.qf2 _ _ _ _ _, qao⟩
   | true =>
     rw [if_pos rfl] at H; obtain ⟨txt, A2, H⟩ := qaB H; by_cases hx : txt.toList = s.toList
     ·rw [if_pos hx] at H; obtain ⟨rfl, rfl⟩ := qdQ H; have hxb : (txt.toList != s.toList) = false := bne_eq_false_iff_eq.2 hx; have hxc : (txt.toList == s.toList) = true := beq_iff_eq.2 hx; clear hx; go_enter Tryz.func70, Tryz.ntmps70
      go_wp2_with (first | ((with_reducible refine qam (N := 14) rfl ?_); refine li_ qaG 85 14 rfl (xs := ([] : List qac)) qa1 ?_; intro vl14 w1 ho hb; have HO4 := ak_ (Kd.qaw ho (qab qao)); replace HB := HB.mw hb; clear hb ho; rw [← HL.1] at HO4; obtain ⟨Ar, cr, er⟩ := Kd.qaI HO4.1; subst er) | (refine gl_ 54 Tryz.func53 #[.slice Ar l.length cr] rfl qb6 ?_; (refine (qbb.calls _ _ l true _ k45_ (Kd.qan HO4.1).2.1 A1.1).mono ?_); rintro e wa ⟨rfl, hb⟩; refine ⟨_, rfl, ?_⟩; replace HB := ak_ (qaa qao hb); replace HO4 := HO4.mw hb; clear hb) | (refine gl_ 58 Tryz.func54 #[.slice Ar l.length cr] rfl qb6 ?_; (refine (qaH.calls k _ _ l txt _ k45_ (Kd.qan HO4.1).2.1 A2.1).mono ?_); rintro e wb ⟨rfl, hb⟩; refine ⟨_, rfl, ?_⟩; replace HB := ak_ (qaa qao hb); replace HO4 := HO4.mw hb; clear hb))
      go_ret2
      exact ⟨_, rfl, (by apply_rules only [HO4.1, Kd.qaq, Kd.qar, Kd.qax]), qao⟩
     rw [if_neg hx] at H; obtain ⟨rfl, rfl⟩ := qdQ H; have hxb : (txt.toList != s.toList) = true := bne_iff_ne.2 hx; have hxc : (txt.toList == s.toList) = false := beq_eq_false_iff_ne.2 hx; clear hx; go_enter Tryz.func70, Tryz.ntmps70
     go_wp2_with (first | ((with_reducible refine qam (N := 14) rfl ?_); refine li_ qaG 85 14 rfl (xs := ([] : List qac)) qa1 ?_; intro vl14 w1 ho hb; have HO4 := ak_ (Kd.qaw ho (qab qao)); replace HB := HB.mw hb; clear hb ho; rw [← HL.1] at HO4; obtain ⟨Ar, cr, er⟩ := Kd.qaI HO4.1; subst er) | (refine gl_ 54 Tryz.func53 #[.slice Ar l.length cr] rfl qb6 ?_; (refine (qbb.calls _ _ l true _ k45_ (Kd.qan HO4.1).2.1 A1.1).mono ?_); rintro e wa ⟨rfl, hb⟩; refine ⟨_, rfl, ?_⟩; replace HB := ak_ (qaa qao hb); replace HO4 := HO4.mw hb; clear hb) | (refine gl_ 58 Tryz.func54 #[.slice Ar l.length cr] rfl qb6 ?_; (refine (qaH.calls k _ _ l txt _ k45_ (Kd.qan HO4.1).2.1 A2.1).mono ?_); rintro e wb ⟨rfl, hb⟩; refine ⟨_, rfl, ?_⟩; replace HB := ak_ (qaa qao hb); replace HO4 := HO4.mw hb; clear hb))
     go_ret2
     exact ⟨_, rfl, Kd.qf2 _ _ _ _ _, qao⟩
  rw [if_neg hd] at h; have hdb : (s.toList != [45]) = true := bne_iff_ne.2 hd; have hdc : (s.toList == [45]) = false := beq_eq_false_iff_ne.2 hd; have hwl := qlR 44 s
  obtain ⟨ws, hws⟩ : ∃ ws, ws = qgQ 44 s := ⟨_, rfl⟩
  rw [← hws] at h hwl; have HWL := ak_ (show ws.length ≤ 1048577 from by omega); have HWE := ak_ hws; have HWM := ak_ (show ∀ x ∈ ws, x.size ≤ 1048576 from fun x hx => by have := qjz _ _ s x (by rw [hws] at hx; exact hx); omega); have H' := ak_ h; clear hd hs h hwl hws; go_enter Tryz.func70, Tryz.ntmps70
  go_wp2_with (first | ((with_reducible refine qam (N := 14) rfl ?_); refine li_ qaG 85 14 rfl (xs := ([] : List qac)) qa1 ?_; intro vl14 w0 ho hb; have HO4 := ak_ (Kd.qaw ho (qab qao)); replace HB := HB.mw hb; clear hb ho) | (refine gl_ 18 Tryz.func68 #[.string s, .string ⟨#[44]⟩] rfl qb6 ?_; (refine (qdh s ⟨#[44]⟩ _ (by have := HS.1; omega) rfl (qbc.below HG.1 qao)).mono ?_); rintro e w1 ⟨vw, rfl, how, hb⟩; refine ⟨_, rfl, ?_⟩; have HW := ak_ (show Kd.R Kd.string 9 _ w.heap.size (fun _ => True) vw ws from qqH); replace HO4 := HO4.mw hb; replace HB := ak_ (qaa qao hb); obtain ⟨Aw, cw, ew⟩ := Kd.qaI HW.1; subst ew; clear hb how))
  go_loopg [4, 20] ws.length (fun kq v4 v20 w' => ∃ (qcP : List qac) (qgS : Int), v20 = .int .i64 qgS ∧ qai (0 ≤ qgS ∧ qgS ≤ (ws.length : Int)) ∧ qai (qdR (ws.take qgS.toNat) = some qcP) ∧ qai (ws.length - qgS.toNat ≤ kq) ∧ qai (Kd.R qaG 85 w' w.heap.size (fun _ => True) v4 qcP) ∧ qai (Kd.R Kd.string 9 w' w.heap.size (fun _ => True) (.slice Aw ws.length cw) ws) ∧ qai (Below w.heap.size w w'))
  case atStart => exact ⟨[], 0, rfl, ⟨by omega⟩, ⟨rfl⟩, ⟨by simp⟩, ⟨(by apply_rules only [HO4.1, Kd.qaq, Kd.qar, Kd.qax])⟩, ⟨(by apply_rules only [HW.1, Kd.qaq, Kd.qar, Kd.qax])⟩, ⟨qao⟩⟩
  case round =>
    obtain ⟨qcP, qgS, rfl, HX, HWR, HK, qdp, HW, HB⟩ := hrel; by_cases c1 : qgS < (ws.length : Int); rotate_left
    ·have c1b := decide_eq_false c1; have hE := HWR.1; rw [List.take_of_length_le (by have := HX.1; omega)] at hE; have H := H'.1; rw [hE] at H; replace H : (qaV.l0 k s qcP) = some (r1, r2) := H; unfold qaV.l0 at H; clear c1 hE; have HO4 := qdp; clear qdp
     obtain ⟨l, hl⟩ : ∃ l, l = qcP := ⟨_, rfl⟩
     rw [← hl] at H HO4; clear hl; obtain ⟨Ar, cr, er⟩ := Kd.qaI HO4.1; subst er; obtain ⟨t, A1, H⟩ := qaB H
     cases t with
     | false =>
       rw [if_neg (by decide)] at H; obtain ⟨rfl, rfl⟩ := qdQ H
       go_wp2_with (first | (refine gl_ 54 Tryz.func53 #[.slice Ar l.length cr] rfl qb6 ?_; (refine (qbb.calls _ _ l false _ k45_ (Kd.qan HO4.1).2.1 A1.1).mono ?_); rintro e wa ⟨rfl, hb⟩; refine ⟨_, rfl, ?_⟩; replace HB := ak_ (qaa qao hb); replace HO4 := HO4.mw hb; clear hb))
       go_ret2
       exact ⟨_, rfl, Kd.qf2 _ _ _ _ _, qao⟩
     | true =>
       rw [if_pos rfl] at H; obtain ⟨txt, A2, H⟩ := qaB H; by_cases hx : txt.toList = s.toList
       ·rw [if_pos hx] at H; obtain ⟨rfl, rfl⟩ := qdQ H; have hxb : (txt.toList != s.toList) = false := bne_eq_false_iff_eq.2 hx; have hxc : (txt.toList == s.toList) = true := beq_iff_eq.2 hx; clear hx
        go_wp2_with (first | (refine gl_ 54 Tryz.func53 #[.slice Ar l.length cr] rfl qb6 ?_; (refine (qbb.calls _ _ l true _ k45_ (Kd.qan HO4.1).2.1 A1.1).mono ?_); rintro e wa ⟨rfl, hb⟩; refine ⟨_, rfl, ?_⟩; replace HB := ak_ (qaa qao hb); replace HO4 := HO4.mw hb; clear hb) | (refine gl_ 58 Tryz.func54 #[.slice Ar l.length cr] rfl qb6 ?_; (refine (qaH.calls k _ _ l txt _ k45_ (Kd.qan HO4.1).2.1 A2.1).mono ?_); rintro e wb ⟨rfl, hb⟩; refine ⟨_, rfl, ?_⟩; replace HB := ak_ (qaa qao hb); replace HO4 := HO4.mw hb; clear hb))
        go_ret2
        exact ⟨_, rfl, (by apply_rules only [HO4.1, Kd.qaq, Kd.qar, Kd.qax]), qao⟩
       rw [if_neg hx] at H; obtain ⟨rfl, rfl⟩ := qdQ H; have hxb : (txt.toList != s.toList) = true := bne_iff_ne.2 hx; have hxc : (txt.toList == s.toList) = false := beq_eq_false_iff_ne.2 hx; clear hx
       go_wp2_with (first | (refine gl_ 54 Tryz.func53 #[.slice Ar l.length cr] rfl qb6 ?_; (refine (qbb.calls _ _ l true _ k45_ (Kd.qan HO4.1).2.1 A1.1).mono ?_); rintro e wa ⟨rfl, hb⟩; refine ⟨_, rfl, ?_⟩; replace HB := ak_ (qaa qao hb); replace HO4 := HO4.mw hb; clear hb) | (refine gl_ 58 Tryz.func54 #[.slice Ar l.length cr] rfl qb6 ?_; (refine (qaH.calls k _ _ l txt _ k45_ (Kd.qan HO4.1).2.1 A2.1).mono ?_); rintro e wb ⟨rfl, hb⟩; refine ⟨_, rfl, ?_⟩; replace HB := ak_ (qaa qao hb); replace HO4 := HO4.mw hb; clear hb))
       go_ret2
       exact ⟨_, rfl, Kd.qf2 _ _ _ _ _, qao⟩
    have c1b := decide_eq_true c1; have qeC : 0 ≤ qgS := HX.1.1
    have hp : qgS.toNat < ws.length := by omega
    obtain ⟨qfL, qg7, qbk⟩ := Kd.qgX (Kd.qan HW.1).2.2 qgS qeC c1
    cases qg7
    obtain ⟨x, hx⟩ : ∃ x, x = qgE ByteArray.empty ws qgS := ⟨_, rfl⟩
    rw [← hx] at qbk
    have hxi : ws[qgS.toNat]? = some x := by rw [hx, qgE, List.getElem?_eq_getElem hp]; simp [List.getD, hp]
    have HXS := ak_ (HWM.1 x (List.mem_of_getElem? hxi)); have hl1 := cut_len1 x.data.toList [58]; have hl2 := qpf x.data.toList [58]
    obtain ⟨bf, hbf⟩ : ∃ x_ : ByteArray, x_ = ⟨(Lib.cut x.data.toList [58]).1.toArray⟩ := ⟨_, rfl⟩
    obtain ⟨nb, hnb⟩ : ∃ x_ : ByteArray, x_ = ⟨(Lib.cut x.data.toList [58]).2.1.toArray⟩ := ⟨_, rfl⟩
    have hbd : bf.data.toList = (Lib.cut x.data.toList [58]).1 := by rw [hbf]
    have hnd : nb.data.toList = (Lib.cut x.data.toList [58]).2.1 := by rw [hnb]
    have HbfS := ak_ (show bf.size ≤ 1048576 from by have h_ := HXS.1; rw [qne] at h_ ⊢; rw [hbd]; omega); have HnbS := ak_ (show nb.size ≤ 1048576 from by have h_ := HXS.1; rw [qne] at h_ ⊢; rw [hnd]; omega); have HBF := ak_ hbf; have HNB := ak_ hnb
    have hwr : qga x = match Lib.atoiAll bf.data.toList, Lib.atoiAll nb.data.toList with
      | .ok a, .ok b => some ⟨a, b⟩
      | _, _ => none := by unfold qga; rw [hbd, hnd]
    have qeC := eq_true qeC; have qeJ := eq_true c1; have HXI := ak_ hxi; clear hbf hnb hbd hnd hl1 hl2 hx c1 hxi
    have hbad : qga x = none → r1 = [] ∧ r2 = false := fun hn => by
      have h_ := H'.1; rw [qik ws _ x HXI.1 hn] at h_; simp only [Option.some.injEq, Prod.mk.injEq] at h_; exact ⟨h_.1.symm, h_.2.symm⟩
    by_cases ha : ∃ a, Lib.atoiAll bf.data.toList = .ok a; rotate_left
    ·have ha2 : ∀ v, Lib.atoiAll bf.data.toList ≠ .ok v := fun v h_ => ha ⟨v, h_⟩
     obtain ⟨rfl, rfl⟩ := hbad (by rw [hwr]; cases hc : Lib.atoiAll bf.data.toList with | ok v => exact absurd hc (ha2 v) | _ => rfl); have HbfV := ak_ ha2; by_cases hb : ∃ b, Lib.atoiAll nb.data.toList = .ok b
     ·obtain ⟨b, hb⟩ := hb; have HnbV := ak_ hb; clear ha hb ha2 hwr hp
      go_wp2_with (first | (refine gl_ 26 Tryz.func90 #[.string x, .string ⟨#[58]⟩] rfl qb6 ?_; (refine (qip x 58 _ (by have := HXS.1; omega) (qbc.below HG.1 qao).1).mono ?_); rintro e w2 ⟨rfl, hb⟩; refine ⟨_, rfl, ?_⟩; replace HB := ak_ (qaa qao hb); replace qdp := qdp.mw hb; replace HW := HW.mw hb; clear hb; rw [← HBF.1, ← HNB.1]) | (refine gl_ 32 Tryz.func122 #[.string bf] rfl qb6 ?_; (refine (qkJ bf _ (by have := HbfS.1; omega) HbfV.1 (qbc.below HG.1 qao).1).mono ?_); rintro e w32 ⟨n32, te32, pe32, rfl, hb⟩; refine ⟨_, rfl, ?_⟩; replace HB := ak_ (qaa qao hb); replace qdp := qdp.mw hb; replace HW := HW.mw hb; clear hb) | (refine gl_ 37 Tryz.func122 #[.string nb] rfl qb6 ?_; (refine (qhK nb b _ (by have := HnbS.1; omega) HnbV.1 (qbc.below HG.1 qao).1).mono ?_); rintro e w37 ⟨rfl, hb⟩; refine ⟨_, rfl, ?_⟩; replace HB := ak_ (qaa qao hb); replace qdp := qdp.mw hb; replace HW := HW.mw hb; clear hb))
      go_ret2
      exact ⟨_, rfl, Kd.qf2 _ _ _ _ _, qao⟩
     have hb2 : ∀ v, Lib.atoiAll nb.data.toList ≠ .ok v := fun v h_ => hb ⟨v, h_⟩
     have HnbV := ak_ hb2; clear ha hb hb2 ha2 hwr hp
     go_wp2_with (first | (refine gl_ 26 Tryz.func90 #[.string x, .string ⟨#[58]⟩] rfl qb6 ?_; (refine (qip x 58 _ (by have := HXS.1; omega) (qbc.below HG.1 qao).1).mono ?_); rintro e w2 ⟨rfl, hb⟩; refine ⟨_, rfl, ?_⟩; replace HB := ak_ (qaa qao hb); replace qdp := qdp.mw hb; replace HW := HW.mw hb; clear hb; rw [← HBF.1, ← HNB.1]) | (refine gl_ 32 Tryz.func122 #[.string bf] rfl qb6 ?_; (refine (qkJ bf _ (by have := HbfS.1; omega) HbfV.1 (qbc.below HG.1 qao).1).mono ?_); rintro e w32 ⟨n32, te32, pe32, rfl, hb⟩; refine ⟨_, rfl, ?_⟩; replace HB := ak_ (qaa qao hb); replace qdp := qdp.mw hb; replace HW := HW.mw hb; clear hb) | (refine gl_ 37 Tryz.func122 #[.string nb] rfl qb6 ?_; (refine (qkJ nb _ (by have := HnbS.1; omega) HnbV.1 (qbc.below HG.1 qao).1).mono ?_); rintro e w37 ⟨n37, te37, pe37, rfl, hb⟩; refine ⟨_, rfl, ?_⟩; replace HB := ak_ (qaa qao hb); replace qdp := qdp.mw hb; replace HW := HW.mw hb; clear hb))
     go_ret2
     exact ⟨_, rfl, Kd.qf2 _ _ _ _ _, qao⟩
    obtain ⟨a, ha⟩ := ha; by_cases hb : ∃ b, Lib.atoiAll nb.data.toList = .ok b; rotate_left
    ·have hb2 : ∀ v, Lib.atoiAll nb.data.toList ≠ .ok v := fun v h_ => hb ⟨v, h_⟩
     obtain ⟨rfl, rfl⟩ := hbad (by rw [hwr, ha]; cases hc : Lib.atoiAll nb.data.toList with | ok v => exact absurd hc (hb2 v) | _ => rfl); have HbfV := ak_ ha; have HnbV := ak_ hb2; clear ha hb hb2 hwr hp
     go_wp2_with (first | (refine gl_ 26 Tryz.func90 #[.string x, .string ⟨#[58]⟩] rfl qb6 ?_; (refine (qip x 58 _ (by have := HXS.1; omega) (qbc.below HG.1 qao).1).mono ?_); rintro e w2 ⟨rfl, hb⟩; refine ⟨_, rfl, ?_⟩; replace HB := ak_ (qaa qao hb); replace qdp := qdp.mw hb; replace HW := HW.mw hb; clear hb; rw [← HBF.1, ← HNB.1]) | (refine gl_ 32 Tryz.func122 #[.string bf] rfl qb6 ?_; (refine (qhK bf a _ (by have := HbfS.1; omega) HbfV.1 (qbc.below HG.1 qao).1).mono ?_); rintro e w32 ⟨rfl, hb⟩; refine ⟨_, rfl, ?_⟩; replace HB := ak_ (qaa qao hb); replace qdp := qdp.mw hb; replace HW := HW.mw hb; clear hb) | (refine gl_ 37 Tryz.func122 #[.string nb] rfl qb6 ?_; (refine (qkJ nb _ (by have := HnbS.1; omega) HnbV.1 (qbc.below HG.1 qao).1).mono ?_); rintro e w37 ⟨n37, te37, pe37, rfl, hb⟩; refine ⟨_, rfl, ?_⟩; replace HB := ak_ (qaa qao hb); replace qdp := qdp.mw hb; replace HW := HW.mw hb; clear hb))
     go_ret2
     exact ⟨_, rfl, Kd.qf2 _ _ _ _ _, qao⟩
    obtain ⟨b, hb⟩ := hb; rw [ha, hb] at hwr; have HbfV := ak_ ha; have HnbV := ak_ hb; have hlx := qhu _ _ HWR.1; rw [List.length_take, Nat.min_eq_left (Nat.le_of_lt hp)] at hlx; have HLn := ak_ (show qcP.length < 8796093022208 from by have := HWL.1; omega)
    have HWR2 := ak_ (show qdR (ws.take (wrap64 (qgS + 1)).toNat) = some (qcP ++ [⟨a, b⟩]) by
      have e_ : (wrap64 (qgS + 1)).toNat = qgS.toNat + 1 := by have := HX.1; have := HWL.1; unfold wrap64; omega
      rw [e_, List.take_succ_eq_append_getElem hp]; refine qil _ _ _ _ HWR.1 ?_; have := HXI.1; rw [List.getElem?_eq_getElem hp] at this; rw [Option.some.inj this]
      exact hwr)
    have HX2 := ak_ (show 0 ≤ wrap64 (qgS + 1) ∧ wrap64 (qgS + 1) ≤ (ws.length : Int) ∧ ws.length - (wrap64 (qgS + 1)).toNat ≤ ws.length - qgS.toNat - 1 from by have := HX.1; have := HWL.1; unfold wrap64; omega); have HPx := ak_ hp; clear ha hb hwr hbad hlx hp
    go_wp2_with (first | (refine gl_ 26 Tryz.func90 #[.string x, .string ⟨#[58]⟩] rfl qb6 ?_; (refine (qip x 58 _ (by have := HXS.1; omega) (qbc.below HG.1 qao).1).mono ?_); rintro e w2 ⟨rfl, hb⟩; refine ⟨_, rfl, ?_⟩; replace HB := ak_ (qaa qao hb); replace qdp := qdp.mw hb; replace HW := HW.mw hb; clear hb; rw [← HBF.1, ← HNB.1]) | (refine gl_ 32 Tryz.func122 #[.string bf] rfl qb6 ?_; (refine (qhK bf a _ (by have := HbfS.1; omega) HbfV.1 (qbc.below HG.1 qao).1).mono ?_); rintro e w32 ⟨rfl, hb⟩; refine ⟨_, rfl, ?_⟩; replace HB := ak_ (qaa qao hb); replace qdp := qdp.mw hb; replace HW := HW.mw hb; clear hb) | (refine gl_ 37 Tryz.func122 #[.string nb] rfl qb6 ?_; (refine (qhK nb b _ (by have := HnbS.1; omega) HnbV.1 (qbc.below HG.1 qao).1).mono ?_); rintro e w37 ⟨rfl, hb⟩; refine ⟨_, rfl, ?_⟩; replace HB := ak_ (qaa qao hb); replace qdp := qdp.mw hb; replace HW := HW.mw hb; clear hb) | ((with_reducible refine qa5 (b := .append) (xs := #[.tmp 46, .tmp 50]) rfl ?_); at_builtin; refine Kd.qc8 qaG (w0 := w) w.heap.size rfl (.tmp 46) (.tmp 50) 26 85 (.agg #[(.int .i64 0), (.int .i64 0)]) 16 rfl Tryz.underlying26 qcX rfl (by decide) (by omega) u4 qcP (⟨a, b⟩ : qac) [.int .i64 a, .int .i64 b] (fun _ => True) (fun _ => False) rfl rfl ?aP (fun _ hk => hk.elim) ?aF ?aO ?aB ?aS ?aL ?_; (case aP => exact qc7 _ _ _ (⟨a, b⟩ : qac)); (case aB => exact qao); (case aF => exact (fun _ _ => trivial)); (case aO => exact qkq); (case aS => exact (qab qao)); (case aL => have := HLn.1; omega); intro v51 w51 ho hb hg hat; replace HW := ak_ (Kd.qkF (by apply_rules only [HW.1, Kd.qaq, Kd.qar, Kd.qax]) (Kd.qin qkq) (by decide) hg); replace HB := ak_ (hb); have HO51 := ak_ (ho); clear qdp; clear ho hb hg hat))
    go_roundg (ws.length - qgS.toNat - 1)
    case measure => have := HK.1; have := HPx.1; omega
    case rel => exact ⟨qcP ++ [⟨a, b⟩], wrap64 (qgS + 1), by first | rfl | simp, ⟨⟨HX2.1.1, HX2.1.2.1⟩⟩, HWR2, ⟨HX2.1.2.2⟩, ⟨(by apply_rules only [HO51.1, Kd.qaq, Kd.qar, Kd.qax])⟩, ⟨(by apply_rules only [HW.1, Kd.qaq, Kd.qar, Kd.qax])⟩, ⟨qao⟩⟩
def qfR (w : World) (base g : Nat) (rs : List qac) (mo : Int) : Prop := ∃ A c, w.heap[g]? = some (.cells #[.slice A rs.length c, .int .i64 mo] 28 (0, 0)) ∧ Kd.R qaG 85 w base (fun _ => True) (.slice A rs.length c) rs
def qcA (w w' : World) (g : Nat) : Prop := qeM w w' g none ∧ w'.os = w.os ∧ w'.tape = w.tape ∧ w'.output = w.output
theorem ho_ {w : World} {g : Nat} {t : TypeId} {cs cs' : Array Value} (h : w.heap[g]? = some (.cells cs t (0, 0))) (e : cs = cs') : w.heap[g]? = some (.cells cs' t (0, 0)) := e ▸ h
theorem qcA.qbR {w w1 : World} (h : Below w.heap.size w w1) (g : Nat) : qcA w w1 g := ⟨qeM.qbR h g none, h.os, h.tape, h.output⟩
theorem qcA.set_ {w w1 : World} {g : Nat} (h : qcA w w1 g) (j : Nat) (u : Value) : qcA w (w1.setCell ⟨g, j, none⟩ u) g := ⟨qeM.set_ h.1 j u, h.2.1, h.2.2.1, h.2.2.2⟩
theorem qcA.trans {w w1 w2 : World} {g : Nat} (h : qcA w w1 g) (k : qcA w1 w2 g) : qcA w w2 g := ⟨qeM.trans h.1 k.1 (.inl rfl), k.2.1.trans h.2.1, k.2.2.1.trans h.2.2.1, k.2.2.2.trans h.2.2.2⟩
theorem qcA.below {B : Nat} {w w1 w2 : World} {g : Nat} (h : Below B w w1) (k : qcA w1 w2 g) (hg : B ≤ g) (hs : B ≤ w1.heap.size) : Below B w w2 :=
  h.trans ⟨k.2.1, k.2.2.1, k.2.2.2, k.1.1, fun i hi => k.1.2 i (by omega) (by omega) (by simp)⟩
def qfg (k : Nat) (rs xs : List qac) (ok : Bool) : Option (List qac × ByteArray) := if ok = true then ((qbb.f xs).bind fun t => if t = true then ((qaH.f k xs).bind fun s => some (xs, s)) else some (rs, (⟨#[110, 111]⟩ : ByteArray))) else some (rs, (⟨#[110, 111]⟩ : ByteArray))
theorem qeZ (k base g : Nat) (A : Option Addr) (c : Nat) (xs : List qac) (ok : Bool) (rs : List qac) (mo : Int) (rs' : List qac) (txt : ByteArray) (w : World) (hD : qfR w base g rs mo) (hR : Kd.R qaG 85 w base (fun _ => True) (.slice A xs.length c) xs) (h : qfg k rs xs ok = some (rs', txt)) :
    Calls Tryz.prog 71 #[.pointer (some ⟨g, 0, none⟩), .slice A xs.length c, .bool ok] w fun e w' => e = .returned (.string txt) ∧ qfR w' base g rs' mo ∧ qcA w w' g := by
  obtain ⟨A0, c0, hC, hO⟩ := hD; have HC := ak_ hC; have HO := ak_ hO; have HX := ak_ hR; have HB := br_ w; obtain ⟨qrm, qrn, qrg, qrh⟩ := qbl HC.1; clear hC hO hR; unfold qfg at h
  cases ok with
  | false =>
    rw [if_neg (by decide)] at h; obtain ⟨rfl, rfl⟩ := qdQ h; go_enter Tryz.func71, Tryz.ntmps71; go_wp2
    go_ret
    exact ⟨rfl, ⟨A0, c0, qrt, k94_⟩, (qcA.qbR qao g)⟩
  | true =>
    rw [if_pos rfl] at h; obtain ⟨t, A1, h⟩ := qaB h
    cases t with
    | false =>
      rw [if_neg (by decide)] at h; obtain ⟨rfl, rfl⟩ := qdQ h; go_enter Tryz.func71, Tryz.ntmps71
      go_wp2_with (first | (refine gl_ 11 Tryz.func53 #[.slice A xs.length c] rfl qb6 ?_; (refine (qbb.calls _ _ xs false _ qrr (Kd.qan HX.1).2.1 A1.1).mono ?_); rintro e wa ⟨rfl, hb⟩; refine ⟨_, rfl, ?_⟩; replace HC := HC.mw hb; replace HO := HO.mw hb; replace HX := HX.mw hb; replace HB := ak_ (qaa qao hb); obtain ⟨hzwa_0, hzwa_1, hfwa_0, hfwa_1⟩ := qbl HC.1; clear hb))
      go_ret
      exact ⟨rfl, ⟨A0, c0, qrt, k94_⟩, (qcA.qbR qao g)⟩
    | true =>
      rw [if_pos rfl] at h; obtain ⟨s, A2, h⟩ := qaB h; obtain ⟨rfl, rfl⟩ := qdQ h; go_enter Tryz.func71, Tryz.ntmps71
      go_wp2_with (first | (refine gl_ 11 Tryz.func53 #[.slice A xs.length c] rfl qb6 ?_; (refine (qbb.calls _ _ xs true _ qrr (Kd.qan HX.1).2.1 A1.1).mono ?_); rintro e wa ⟨rfl, hb⟩; refine ⟨_, rfl, ?_⟩; replace HC := HC.mw hb; replace HO := HO.mw hb; replace HX := HX.mw hb; replace HB := ak_ (qaa qao hb); obtain ⟨hzwa_0, hzwa_1, hfwa_0, hfwa_1⟩ := qbl HC.1; clear hb) | (refine gl_ 19 Tryz.func54 #[.slice A xs.length c] rfl qb6 ?_; (refine (qaH.calls k _ _ xs s _ k23_ (Kd.qan HX.1).2.1 A2.1).mono ?_); rintro e wb ⟨rfl, hb⟩; refine ⟨_, rfl, ?_⟩; have HB2 := ak_ hb; clear hb))
      go_ret
      exact ⟨rfl, ⟨A, c, qap (qa9 qrt 0 _ rfl) HB2.1, Kd.qbs (Kd.qg2 qnq qrt (by decide) 0 _) HB2.1⟩, (qcA.set_ (qcA.qbR qao g) 0 _).trans (qcA.qbR HB2.1 g)⟩
theorem R_cut {w : World} {base g c : Nat} {ok : Nat → Prop} {xs : List qac} (h : Kd.R qaG 85 w base ok (.slice (some ⟨g, 0, none⟩) xs.length c) xs) (i : Nat) (hi : i < xs.length) :
    ∃ news : List Value, news.length = (xs.length - (i + 1)) * 2 ∧ (∀ j u, news[j]? = some u → w.cell? ⟨g, (i + 1) * 2 + j, none⟩ = some u) ∧ (∀ u ∈ news, u.oneCell' = true) ∧
      (∀ W : World, W.heap[g]? = w.heap[g]? → Kd.R qaG 85 (W.setCells g (i * 2) news) base ok (.slice (some ⟨g, 0, none⟩) (xs.length - 1) c) (xs.eraseIdx i)) := by
  obtain ⟨h0, inner, hown, hr⟩ := h; have hsz : qaG.sz = 2 := rfl; rw [hsz] at hown hr; have hil : inner.length = xs.length * 2 := hown.1
  rcases hown.2 with ⟨hv, _⟩ | ⟨g', cap, cur, hv, hb, hh, hnc, hcm, hcs, ht⟩
  ·cases hv
  obtain ⟨e1, -, rfl⟩ := Value.slice.inj hv
  obtain rfl : g = g' := by injection e1 with e1; injection e1
  have hcl : cur.toList.length = c * 2 := by rw [Array.length_toList, hcs]
  refine ⟨inner.drop ((i + 1) * 2), by rw [List.length_drop, hil]; omega, fun j u hj => ?_, fun u hu => ?_, fun W hW => ?_⟩
  ·rw [← ht, List.getElem?_drop, List.getElem?_take] at hj; split at hj
   ·rw [cell_of_row w g _ cur _ (0, 0) hh]
    simpa using hj
   cases hj
  ·have hu2 := List.mem_of_mem_drop hu; obtain ⟨q, hq⟩ := List.getElem?_of_mem hu2; have hq2 := (List.getElem?_eq_some_iff.1 hq).1
   obtain ⟨p, hp⟩ : ∃ p, xs[q / 2]? = some p := ⟨xs[q / 2]'(by omega), List.getElem?_eq_getElem (by omega)⟩
   have hR := hr.2 (q / 2) p hp; refine qaG.K_one (qaG.K_of_M hR) u ?_; rw [List.mem_iff_getElem?]; refine ⟨q % 2, ?_⟩; rw [List.getElem?_take, if_pos (by omega), List.getElem?_drop, show q / 2 * 2 + q % 2 = q by omega]; exact hq
  obtain ⟨cur', h1, h2, h3⟩ := qhW (inner.drop ((i + 1) * 2)) (i * 2) W cur (hW.trans hh) (by rw [List.length_drop, hil, hcs]; omega)
  have he : (xs.eraseIdx i).length = xs.length - 1 := by rw [List.length_eraseIdx, if_pos hi]
  have hin : inner.take (i * 2) ++ inner.drop ((i + 1) * 2) = cur'.toList.take ((xs.length - 1) * 2) := by
    have l1 : (cur.toList.take (i * 2)).length = i * 2 := by rw [List.length_take, hcl]; omega
    have l2 : (inner.drop ((i + 1) * 2)).length = xs.length * 2 - (i + 1) * 2 := by rw [List.length_drop, hil]
    have e3 : inner.take (i * 2) = cur.toList.take (i * 2) := by rw [← ht, List.take_take, Nat.min_eq_left (by omega)]
    rw [h3, e3]; exact (List.take_left' (by rw [List.length_append, l1, l2]; omega)).symm
  refine ⟨fun k hk => h0 k hk, inner.take (i * 2) ++ inner.drop ((i + 1) * 2), ⟨by rw [he, List.length_append, List.length_take, List.length_drop, hil]; show _ = _ * 2; omega, .inr ⟨g, c, cur', by rw [he], hb, h1, by rw [he]; omega, hcm, by rw [h2, hcs]; rfl, by rw [he, hin]; rfl⟩⟩, ?_⟩; refine ⟨by rw [he, List.length_append, List.length_take, List.length_drop, hil, hsz]; omega, fun j p hp => ?_⟩; rw [hsz]; rw [List.getElem?_eraseIdx] at hp; split at hp
  ·rename_i hji
   have := hr.2 j p hp; rw [List.drop_append_of_le_length (by rw [List.length_take, hil]; omega), List.take_append_of_le_length (by rw [List.length_drop, List.length_take, hil]; omega), List.drop_take, List.take_take, Nat.min_eq_left (by omega)]; exact this
  rename_i hji
  have := hr.2 (j + 1) p hp
  have l3 : (inner.take (i * 2)).length = i * 2 := by rw [List.length_take, hil]; omega
  have e5 : (inner.take (i * 2) ++ inner.drop ((i + 1) * 2)).drop (j * 2) = inner.drop ((j + 1) * 2) := by
    rw [List.drop_append, l3, List.drop_of_length_le (l := inner.take (i * 2)) (by rw [l3]; omega), List.nil_append, List.drop_drop, show (i + 1) * 2 + (j * 2 - i * 2) = (j + 1) * 2 by omega]
  rw [e5]; exact this
theorem R_room {α : Type} {d : Kd α} {e base g n c : Nat} {ok : Nat → Prop} {w : World} {xs : List α} (h : d.R e w base ok (.slice (some ⟨g, 0, none⟩) n c) xs) (o : Nat) (ho : o < c * d.sz) : (w.cell? ⟨g, o, none⟩).isSome = true ∧ w.frozen? ⟨g, o, none⟩ = false := by
  obtain ⟨h0, inner, hown, hr⟩ := h
  rcases hown.2 with ⟨hv, _⟩ | ⟨g', cap, cur, hv, hb, hh, hnc, hcm, hcs, ht⟩
  ·cases hv
  obtain ⟨e1, -, rfl⟩ := Value.slice.inj hv
  obtain rfl : g = g' := by injection e1 with e1; injection e1
  refine ⟨?_, qae hh o⟩; rw [cell_of_row w g _ cur _ (0, 0) hh, Array.getElem?_eq_getElem (by omega)]; rfl
theorem qnQ (A : Option Addr) (c base : Nat) (ok : Nat → Prop) (xs : List qac) (i : Nat) (w : World) (hbase : base ≤ w.heap.size) (hR : Kd.R qaG 85 w base ok (.slice A xs.length c) xs) (hi : i < xs.length) :
    Calls Tryz.prog 123 #[.slice A xs.length c, .int .i64 i, .int .i64 ((i : Int) + 1)] w fun e w' => e = .returned (.slice A (xs.length - 1) c) ∧ Kd.R qaG 85 w' base ok (.slice A (xs.length - 1) c) (xs.eraseIdx i) ∧ w.grownBy w' (Value.slice A xs.length c).ownBlock := by
  obtain ⟨G, c', eG, hGb, hGl, -⟩ := Kd.qe8 hR (by omega); obtain ⟨rfl, -, rfl⟩ := Value.slice.inj eG; clear eG; obtain ⟨news, hn1, hn2, hn3, hn4⟩ := R_cut hR i hi; have hm : xs.length ≤ 9223372036854775807 := Kd.C_max (Kd.qan hR).2.2; have hnc : xs.length ≤ c := (Kd.qan hR).2.1
  have hcm : c ≤ 9223372036854775807 := by
    obtain ⟨_, inner, hown, _⟩ := hR
    rcases hown.2 with ⟨hv, _⟩ | ⟨g', cap, cur, hv, hb, hh, hnc, hcm, hcs, ht⟩
    ·cases hv
    obtain ⟨-, -, rfl⟩ := Value.slice.inj hv
    simpa [maxLen] using hcm
  obtain ⟨i0_, qoK, _, hsz_, _⟩ := info_parts qcX
  have e1 : ((i : Int) + 1).toNat = i + 1 := by omega
  obtain ⟨A2, hA2, hsrc⟩ : ∃ A2 : Addr, (if c = i + 1 then (some ⟨G, 0, none⟩ : Option Addr) else some ⟨G, (i + 1) * 2, none⟩) = some A2 ∧ qai (∀ j u, news[j]? = some u → w.drew.cell? (A2.add j) = some u) := by
    by_cases h : c = i + 1
    ·refine ⟨⟨G, 0, none⟩, by simp [h], ⟨fun j u hu => ?_⟩⟩
     have h0 : news.length = 0 := by rw [hn1]; omega
     rw [List.length_eq_zero_iff.1 h0] at hu
     simp at hu
    refine ⟨⟨G, (i + 1) * 2, none⟩, by simp [h], ⟨fun j u hu => ?_⟩⟩; rw [qo4]; exact hn2 j u hu
  have hcutA : ∀ W : World, (Instr.slice 26 (.slice (some ⟨G, 0, none⟩) xs.length c) none (some (.int .i64 (i : Int))) none).run Tryz.prog W = .ok (.slice (some ⟨G, 0, none⟩) i c) W := by
    intro W; have h := qkN (P := Tryz.prog) 26 85 .i64 Tryz.underlying26 qoK (some ⟨G, 0, none⟩) xs.length c (i : Int) (by omega) (by omega) hnc W; rw [h, Int.toNat_natCast]
  have hcutB : ∀ W : World, (Instr.slice 26 (.slice (some ⟨G, 0, none⟩) xs.length c) (some (.int .i64 ((i : Int) + 1))) none none).run Tryz.prog W = .ok (.slice (some A2) (xs.length - (i + 1)) (c - (i + 1))) W := by
    intro W; have h := qkn (P := Tryz.prog) 26 85 .i64 Tryz.underlying26 qoK 2 hsz_ (some ⟨G, 0, none⟩) xs.length c ((i : Int) + 1) (by omega) (by omega) W; rw [h, e1, ← hA2]; simp only [Option.map_some, qo4, Nat.zero_add]
  have hcutC : ∀ W : World, (Instr.slice 26 (.slice (some ⟨G, 0, none⟩) xs.length c) (some (.int .i64 (i : Int))) (some (.int .i64 ((i : Int) + 1))) (some (.int .i64 (xs.length : Int)))).run Tryz.prog W = .ok (sliced (some ⟨G, 0, none⟩) i (i + 1) xs.length 2) W := by
    intro W
    have hel : Tryz.prog.elem 26 = 85 := by simp [Program.elem, Tryz.underlying26]
    have hu : Tryz.prog.underlying 26 = some (.slice (Tryz.prog.elem 26)) := by rw [hel]; exact Tryz.underlying26
    rw [run_slice_lhm W 26 (some ⟨G, 0, none⟩) xs.length c hu .i64 .i64 .i64 i ((i : Int) + 1) xs.length (by omega) (by omega) (by omega) (by omega), hel, e1]
    simp [sizeOf, typeInfo, qoK, hsz_, Result.andThen]
  obtain ⟨W1, hW1⟩ : ∃ W1, W1 = w.drew.setCells G (0 + i * 2) news := ⟨_, rfl⟩
  have hR1 : Kd.R qaG 85 W1 base ok (.slice (some ⟨G, 0, none⟩) (xs.length - 1) c) (xs.eraseIdx i) := by rw [hW1, Nat.zero_add]; exact hn4 w.drew rfl
  have hG1 : w.grownBy W1 (some G) := by rw [hW1]; exact (qej (qah (Below.refl w.heap.size w)) (some G)).trans (qie w.drew G (0 + i * 2) news)
  have hroom := R_room hR; have qtm := R_room hR1
  obtain ⟨L, hL⟩ : ∃ L, L = i + (xs.length - (i + 1)) := ⟨_, rfl⟩
  have hcutD : ∀ W : World, (Instr.slice 26 (.slice (some ⟨G, 0, none⟩) L c) (some (.int .i64 (L : Int))) (some (.int .i64 (xs.length : Int))) none).run Tryz.prog W = .ok (.slice (some ⟨G, L * 2, none⟩) 1 (c - L)) W := by
    intro W
    have hel : Tryz.prog.elem 26 = 85 := by simp [Program.elem, Tryz.underlying26]
    have hu : Tryz.prog.underlying 26 = some (.slice (Tryz.prog.elem 26)) := by rw [hel]; exact Tryz.underlying26
    rw [run_slice_lh W 26 (some ⟨G, 0, none⟩) L c hu .i64 .i64 L xs.length (by omega) (by omega) (by omega), hel]; simp only [sizeOf, typeInfo, qoK, hsz_, Result.andThen, sliced, Int.toNat_natCast]
    simp [sizeOf, typeInfo, qoK, hsz_, Result.andThen, show ¬ c = L by omega, show xs.length - L = 1 by omega, qo4]
  have hclr : ∀ ty, (Builtin.clear_ #[26] ty #[.slice (some ⟨G, L * 2, none⟩) 1 (c - L)]).run Tryz.prog W1 = .ok (.tuple #[]) (W1.setCells G (L * 2) (Builtin.zeroCells (Value.agg #[.int .i64 0, .int .i64 0]).cells 1).toList) := fun ty =>
    qpe (n := 1) W1 26 85 ty (.agg #[.int .i64 0, .int .i64 0]) Tryz.underlying26 (zero_run qcX) (by
      intro u hu
      simp [Builtin.zeroCells, Value.cells] at hu
      obtain ⟨k_, hk_, rfl⟩ := hu
      rcases Nat.mod_two_eq_zero_or_one k_ with h_ | h_ <;> simp [h_] <;> rfl) G (L * 2) (c - L) (by omega) (by decide)
      (fun j_ hj_ => (qtm (L * 2 + j_) (by show L * 2 + j_ < c * 2; have hj2_ : j_ < 1 * 2 := hj_; omega)).1)
      (fun j_ hj_ => (qtm (L * 2 + j_) (by show L * 2 + j_ < c * 2; have hj2_ : j_ < 1 * 2 := hj_; omega)).2)
  obtain ⟨zs_, hzs_⟩ : ∃ z_, z_ = (Builtin.zeroCells (Value.agg #[.int .i64 0, .int .i64 0]).cells 1).toList := ⟨_, rfl⟩
  rw [← hzs_] at hclr
  obtain ⟨vC, hvC⟩ : ∃ v, v = sliced (some ⟨G, 0, none⟩) i (i + 1) xs.length 2 := ⟨_, rfl⟩
  rw [← hvC] at hcutC; have hne : ((i : Int) == (i : Int) + 1) = false := beq_eq_false_iff_ne.2 (by omega); have HN1 := ak_ hn1; have HN3 := ak_ hn3; have HL := ak_ hL; have HW1 := ak_ hW1; have HR1 := ak_ hR1; have HG1 := ak_ hG1; have HRM := ak_ hroom; have HI := ak_ qoK; have HSZ := ak_ hsz_
  have hrm : i + (xs.length - (i + 1)) ≤ c := by omega
  have HLn := ak_ (show L = xs.length - 1 by omega); clear hn1 hn2 hn3 hn4 hL hW1 hR1 hG1 hroom qtm qoK hsz_ hzs_ hvC hR hA2 hcm hm; go_enter Tryz.func123, Tryz.ntmps123
  go_wp2_with fail
  go_region_law (refine step_append_room rfl (.tmp 22) (.tmp 25) 26 rfl 85 i0_ 2 Tryz.underlying26 HI.1 HSZ.1 G 0 i c (by simp [Act.eval, Act.put]) A2 (xs.length - (i + 1)) (c - (i + 1)) news (by simp [Act.eval, Act.put]) HN1.1 hsrc.1 HN3.1 hrm (fun j hj => by have h_ := HRM.1 (0 + i * 2 + j) (by show _ < c * 2; have := HN1.1; omega); exact h_) ?_; rw [← HL.1, ← HW1.1])
  go_wp2
  go_ret
  refine ⟨by rw [HLn.1]; rfl, ?_, HG1.1.trans (qie W1 G (L * 2) zs_)⟩
  have he : (xs.eraseIdx i).length = xs.length - 1 := by rw [List.length_eraseIdx, if_pos hi]
  exact R_clear HR1.1 (L * 2) zs_ (by rw [he, HLn.1]; exact Nat.le_refl _)
def qcC.f (l0 : List qac) (a1 a2 : Int) : Option (List qac) := if 0 ≤ a1 ∧ a1 < (l0.length : Int) ∧ a2 = a1 + 1 then some (l0.eraseIdx a1.toNat) else none
theorem qcC.own (A : Option Addr) (c base : Nat) (l0 : List qac) (a1 a2 : Int) (r : List qac) (w : World) (hbase : base ≤ w.heap.size) (hR : Kd.R qaG 85 w base (fun _ => True) (.slice A l0.length c) l0) (h : qcC.f l0 a1 a2 = some r) :
    Calls Tryz.prog 123 #[.slice A l0.length c, .int .i64 a1, .int .i64 a2] w fun e w' => ∃ v0_, e = .returned v0_ ∧ Kd.R qaG 85 w' base (fun _ => True) v0_ r ∧ w.grownBy w' (Value.slice A l0.length c).ownBlock := by
  unfold qcC.f at h; by_cases hc : 0 ≤ a1 ∧ a1 < (l0.length : Int) ∧ a2 = a1 + 1; rotate_left
  ·rw [if_neg hc] at h; exact absurd h (by simp)
  rw [if_pos hc] at h; obtain rfl := Option.some.inj h; obtain ⟨h0, h1, rfl⟩ := hc
  obtain ⟨i, rfl⟩ : ∃ i : Nat, a1 = (i : Int) := ⟨a1.toNat, by omega⟩
  rw [Int.toNat_natCast]; refine (qnQ A c base _ l0 i w hbase hR (by omega)).mono ?_; rintro e w' ⟨rfl, hR2, hg⟩; exact ⟨_, rfl, hR2, hg⟩
def qez.f (a0 : Int) : Option (Bool) := if a0 ≥ (-600) then (some (decide (a0 ≤ 600))) else (some false)
theorem qez.calls (a0 : Int) (r : Bool) (w : World) (h : qez.f a0 = some r) :
  Calls Tryz.prog 184 #[.int .i64 a0] w fun e w' => e = .returned (.bool r) ∧ qcY w w' := by
 have H : (if a0 ≥ (-600) then (some (decide (a0 ≤ 600))) else (some false)) = some r := h; clear h; by_cases c2 : a0 ≥ (-600)
 ·rw [if_pos c2] at H; have qfB : decide ((-600) ≤ a0) = true := decide_eq_true c2; clear c2; obtain rfl := sj_ H; go_enter Tryz.func184, Tryz.ntmps184; go_wp2
  go_ret
  exact ⟨qay, qc3⟩
 rw [if_neg c2] at H; have qfB : decide ((-600) ≤ a0) = false := decide_eq_false c2; clear c2; obtain rfl := sj_ H; go_enter Tryz.func184, Tryz.ntmps184; go_wp2
 go_ret
 exact ⟨qay, qc3⟩
def qfA.f (a0 : Int) (a1 : Int) : Option (Int) := if a1 = 0 then (none) else (some (Int.tmod (wrap64 ((Int.tmod a0 a1) + a1)) a1))
theorem qfA.calls (a0 : Int) (a1 : Int) (r : Int) (w : World) (h : qfA.f a0 a1 = some r) :
  Calls Tryz.prog 185 #[.int .i64 a0, .int .i64 a1] w fun e w' => e = .returned (.int .i64 r) ∧ qcY w w' := by
 have H : (if a1 = 0 then (none) else (some (Int.tmod (wrap64 ((Int.tmod a0 a1) + a1)) a1))) = some r := h; clear h; by_cases c3 : a1 = 0
 ·rw [if_pos c3] at H; exact absurd H (by simp)
 rw [if_neg c3] at H; have qfr : (a1 == 0) = false := beq_eq_false_iff_ne.mpr c3; have qlH : (a1 != 0) = true := bne_iff_ne.mpr c3; obtain rfl := sj_ H; go_enter Tryz.func185, Tryz.ntmps185; go_wp2
 go_ret
 exact ⟨qay, qc3⟩
mutual
def qaF.j0 : Nat → List (qac) → Int → Bool → Option ((List (qac)) × Bool)
 | 0, _, _, _ => none
 | k + 1, x0, x1, x16 => if x16 = true then (some (([] : List (qac)), false)) else (qaF.l0 k x1 (([] : List (qac))) x0 (x0.length : Int) 0)
def qaF.l0 : Nat → Int → List (qac) → List (qac) → Int → Int → Option ((List (qac)) × Bool)
 | 0, _, _, _, _, _ => none
 | k + 1, x1, x6, x18, x19, x20 => if x20 < x19 then (if 0 ≤ x20 then (if x20 < (x18.length : Int) then ((qfA.f (wrap64 (((qad x18 x20).f1) + x1)) ((qad x18 x20).f0)).bind fun qrS => (if x6.length < 8796093022208 then (qaF.l0 k x1 (x6 ++ [(⟨(qad x18 x20).f0, qrS⟩ : qac)]) x18 x19 (wrap64 (x20 + 1))) else (none))) else (none)) else (none)) else (some (x6, true))
end
def qaF.f (k : Nat) (l0 : List (qac)) (a1 : Int) : Option ((List (qac)) × Bool) := (qbb.f l0).bind fun qav => (if qav = true then ((qez.f a1).bind fun qaQ => (qaF.j0 k l0 a1 (!qaQ))) else (qaF.j0 k l0 a1 true))
def qaF.T7 : Bool × List (List Nat × List Nat) := (true, [([], []), ([], []), ([1], [1]), ([], []), ([3], [3]), ([], []), ([4, 5], [4, 5]), ([], []), ([7], [7]), ([6, 8], [6, 8]), ([2, 9], [2, 9]), ([10], [10]), ([0, 11, 9], [0, 11]), ([12, 12, 0, 1, 2, 3, 4, 5, 6, 7, 8, 9, 10, 11, 12], [0, 12])])
def qaF.B7 : List Nat := [0, 0, 2, 0, 8, 0, 56, 0, 128, 504, 1022, 2046, 4095, 8191]
theorem qaF.tab7 : qhC .any (opsOf Tryz.f124 7) = qaF.T7 := by kernel_rfl
theorem qaF.qmL : qeG qaF.T7.2 qaF.B7 = true := by kernel_rfl
theorem qaF.calls (k : Nat) (A0 : Option Addr) (c0 : Nat) (l0 : List (qac)) (a1 : Int) (r1 : List (qac)) (r2 : Bool) (w : World) (hr0 : Kd.C qaG w A0 l0.length l0) (hc0 : l0.length ≤ c0) (h : qaF.f k l0 a1 = some (r1, r2)) :
  Calls Tryz.prog 124 #[.slice A0 l0.length c0, .int .i64 a1] w fun e w' => ∃ v0_ : Value, e = .returned (.tuple #[v0_, .bool r2]) ∧ Kd.R qaG 85 w' w.heap.size (fun _ => True) v0_ r1 ∧ Below w.heap.size w w' := by
 have qme := Tryz.underlying85; have HR0 := ak_ hr0; have HC0 := ak_ hc0; clear hr0 hc0; have HB := br_ w; have H : ((qbb.f l0).bind fun qav => (if qav = true then ((qez.f a1).bind fun qaQ => (qaF.j0 k l0 a1 (!qaQ))) else (qaF.j0 k l0 a1 true))) = some (r1, r2) := h; clear h; have HC3 := ak_ H; clear H; go_enter Tryz.func124, Tryz.ntmps124
 go_upto_region 1 with (fail)
 go_cut [16] (fun v16 wc => ∃ (kq : Nat) (qnn : Bool), v16 = .bool qnn ∧ qai (qaF.j0 kq l0 a1 qnn = some (r1, r2)) ∧ qai (kq ≤ k) ∧ qai (Below w.heap.size w wc))
 case first =>
  have H := HC3.1; clear HC3; obtain ⟨qav, A4, H⟩ := qaB H; (try dsimp only at H); by_cases c5 : qav = true
  ·subst c5; rw [if_pos rfl] at H; obtain ⟨qaQ, A6, H⟩ := qaB H; (try dsimp only at H); have H' := ak_ H; clear H
   go_wp2_with (first | (refine gl_ 10 Tryz.func53 #[.slice A0 l0.length c0] rfl qbJ ?_; (with_reducible refine (qbb.calls _ _ l0 true _ ?qaz ?qaA A4.1).mono ?_); (case qaz => exact qhr); (case qaA => exact qb9); rintro e w7 ⟨rfl, hb⟩; refine ⟨_, rfl, ?_⟩; replace HB := HB.mw hb; (try clear hb)) | (go_at_call 184; (with_reducible refine (qez.calls a1 qaQ _ A6.1).mono ?_); rintro e w' ⟨rfl, ⟨nd, rfl⟩⟩))
   go_meet
   case rel => exact ⟨_, (!qaQ), qay, H', ⟨qiC⟩, ⟨qao⟩⟩
  replace c5 := Bool.eq_false_iff.mpr c5; subst c5; rw [if_neg ff_] at H; have H' := ak_ H; clear H
  go_wp2_with (first | (refine gl_ 10 Tryz.func53 #[.slice A0 l0.length c0] rfl qbJ ?_; (with_reducible refine (qbb.calls _ _ l0 false _ ?qaz ?qaA A4.1).mono ?_); (case qaz => exact qhr); (case qaA => exact qb9); rintro e w8 ⟨rfl, hb⟩; refine ⟨_, rfl, ?_⟩; replace HB := HB.mw hb; (try clear hb)))
  go_meet
  case rel => exact ⟨_, (true), qay, H', ⟨qiC⟩, ⟨qao⟩⟩
 case rest =>
  clear HC3; obtain ⟨kq, qnn, rfl, HA, HJ2, HB⟩ := hcut
  cases kq with
  | zero => exact absurd HA.1 (by simp [qaF.j0])
  | succ kj2 =>
   have H := HA.1; clear HA; simp only [qaF.j0] at H; by_cases c9 : qnn = true
   ·subst c9; rw [if_pos rfl] at H; obtain ⟨rfl, rfl⟩ := qdQ H; go_wp2
    go_ret2
    exact ⟨_, qca, qhg, qao⟩
   replace c9 := Bool.eq_false_iff.mpr c9; subst c9; rw [if_neg ff_] at H
   obtain ⟨qiN, hy_⟩ : ∃ y_ : List (qac), y_ = (([] : List (qac))) := ⟨_, rfl⟩
   replace H : (qaF.l0 kj2 a1 qiN l0 (l0.length : Int) 0) = some (r1, r2) := qfb; have qj8 := ak_ hy_; clear hy_; have H' := ak_ H; clear H
   go_wp2_with (first | ((with_reducible refine qam (N := 17) rfl ?_); refine Kd.qhH qaG _ 85 ?hg (N := 17) ?hd (xs := ([] : List (qac))) (inner := []) (ok := fun _ => True) (okp := fun _ => True) ?hr ?hp (fun _ hk => hk) trivial (Below.refl _ _) (Nat.le_refl _) (by simp) ?_; (case hd => rfl); (case hg => rfl); (case hr => exact qa1); (case hp => exact (qep.none _ _)); intro qrJ w10 qti hb hg_ hnew_; clear hg_ hnew_; (first | rw [← qj8.1] at qti | (simp only [Int.reduceToNat] at qti; rw [← qj8.1] at qti)); have qes := ak_ (Kd.qaw qti (qab qao)); replace HB := HB.mw hb; clear hb qti))
   go_loopg [6, 20] kj2 (fun kq v6 v20 w' => ∃ (qhD : List (qac)) (qeV : Int), v20 = .int .i64 qeV ∧ qai (qaF.l0 kq a1 qhD l0 (l0.length : Int) qeV = some (r1, r2)) ∧ qai (kq ≤ kj2) ∧ qai (Kd.R qaG 85 w' w.heap.size (fun _ => True) v6 qhD) ∧ qai (Below w.heap.size w w'))
   case atStart => exact ⟨(qiN), (0), qay, H', ⟨Nat.le_refl _⟩, ⟨by apply_rules only [qes.1, Kd.qaq, Kd.qar, Kd.qax]⟩, ⟨qao⟩⟩
   case round =>
    clear H'; (try clear c9); obtain ⟨qhD, qeV, rfl, HA, HK2, qfH, HB⟩ := hrel
    cases gk with
    | zero => exact absurd HA.1 (by simp [qaF.l0])
    | succ k2 =>
     have H := HA.1; clear HA; simp only [qaF.l0] at H; by_cases c12 : qeV < (l0.length : Int); rotate_left
     ·rw [if_neg c12] at H; have qhN := decide_eq_false c12; clear c12; obtain ⟨rfl, rfl⟩ := qdQ H; go_wp2
      go_ret2
      exact ⟨_, qca, by (with_reducible repeat (first | apply Kd.qaq | apply Kd.qar | apply Kd.qax)); exact qfH.1, qao⟩
     rw [if_pos c12] at H; have qhN := decide_eq_true c12; clear c12; obtain ⟨c13, H⟩ := qct H; have qmP := decide_eq_true c13; clear c13; obtain ⟨c14, H⟩ := qct H; have qpa := decide_eq_true c14; clear c14; obtain ⟨qrS, A15, H⟩ := qaB H; (try dsimp only at H); obtain ⟨c16, H⟩ := qct H; have LMc16 := ak_ c16; clear c16
     obtain ⟨y109, hy_⟩ : ∃ y_ : List (qac), y_ = (qhD ++ [(⟨(qad l0 qeV).f0, qrS⟩ : qac)]) := ⟨_, rfl⟩
     replace H : (qaF.l0 k2 a1 y109 l0 (l0.length : Int) (wrap64 (qeV + 1))) = some (r1, r2) := qfb; have Ny109 := ak_ hy_; clear hy_; have H' := ak_ H; clear H; have qfW : 0 ≤ (qeV : Int) := of_decide_eq_true qaL; have qfX : qeV < (l0.length : Int) := of_decide_eq_true qaL; obtain ⟨qg4, qke, qcu, qiB⟩ := qc6 HR0.1 qeV qfW qfX
     cases qke
     replace qcu := (HB.1.cell (World.block_lt_of_cell? w _ qcu)).trans qcu; replace qiB := (HB.1.cell (World.block_lt_of_cell? w _ qiB)).trans qiB; replace qfW := eq_true qfW; replace qfX := eq_true qfX
     try go_wp2_with (first | ((with_reducible refine qam (N := 8) rfl ?_); refine bx_ 8 rfl (cs := #[.int .i64 0, .int .i64 0]) (t := 85) qa1 ?_; intro qeO hg w17 hbox hb; replace qfH := ak_ (Kd.qbs (Kd.qh0 qpL qeO (Nat.le_of_eq hg.symm)) hb); have qft := ak_ (hbox); have GW107 := ak_ (HB.ge hg); have qoO := ak_ (HB.ge hg); replace HB := HB.mw hb; clear hb hbox hg; obtain ⟨qpr, qps, qpx, qpy⟩ := qbl qft.1))
     have n0_ : qai (Kd.R qaG 85 ((w17.setCell ⟨qeO, 0, none⟩ (.int .i64 ((qad l0 qeV).f0))).setCell ⟨qeO, 1, none⟩ (.int .i64 ((qad l0 qeV).f1))) w.heap.size (fun k_ => k_ ≠ qeO) u6 qhD) := ⟨by (with_reducible repeat (first | apply Kd.qaq | apply Kd.qar | apply Kd.qax)); exact Kd.qa2 (Kd.qco (p := ⟨qeO, 1, none⟩) (Kd.qco (p := ⟨qeO, 0, none⟩) (Kd.qa2 qfH.1 (fun k_ hk => (⟨hk, hk.2⟩ : _ ∧ k_ ≠ qeO))) (fun _ hk => hk.2) (.int .i64 ((qad l0 qeV).f0))) (fun _ hk => hk.2) (.int .i64 ((qad l0 qeV).f1))) (fun _ hk => hk.1.2)⟩
     have n1_ : qai (((w17.setCell ⟨qeO, 0, none⟩ (.int .i64 ((qad l0 qeV).f0))).setCell ⟨qeO, 1, none⟩ (.int .i64 ((qad l0 qeV).f1))).heap[qeO]? = some (.cells #[.int .i64 ((qad l0 qeV).f0), .int .i64 ((qad l0 qeV).f1)] 85 (0, 0))) := ⟨by (with_reducible repeat (first | refine qaj ?_ _ | refine qak ?_ | refine qag ?_ _)); refine qa9 (cs := #[.int .i64 ((qad l0 qeV).f0), .int .i64 0]) ?_ 1 _ rfl; (with_reducible repeat (first | refine qaj ?_ _ | refine qak ?_ | refine qag ?_ _)); refine qa9 (cs := #[.int .i64 0, .int .i64 0]) ?_ 0 _ rfl; apply_rules only [qft.1, qaj, qak, qag]⟩
     have n2_ : qai (Below w.heap.size w ((w17.setCell ⟨qeO, 0, none⟩ (.int .i64 ((qad l0 qeV).f0))).setCell ⟨qeO, 1, none⟩ (.int .i64 ((qad l0 qeV).f1)))) := ⟨by apply_rules only [HB.1, qal, qaf, qah, qat, qoO.1]⟩
     (try clear qfH); (try clear qft); (try clear HB)
     generalize ((w17.setCell ⟨qeO, 0, none⟩ (.int .i64 ((qad l0 qeV).f0))).setCell ⟨qeO, 1, none⟩ (.int .i64 ((qad l0 qeV).f1))) = w19 at n0_ n1_ n2_ ⊢
     have qfH := n0_; have qft := n1_; have HB := n2_; clear n0_ n1_ n2_; replace qfH := ak_ (Kd.qax qfH.1); replace qft := ak_ (qak qft.1); replace HB := ak_ (qah HB.1); refine qeS (n := 14) (S := fun w' => w'.cell? ⟨qeO, 0, none⟩ = some (.int .i64 ((qad l0 qeV).f0)) ∧ w'.cell? ⟨qeO, 1, none⟩ = some (.int .i64 ((qad l0 qeV).f1))) (ds := []) (rA_ [0, 14]) (by kernel_rfl) rfl rfl ⟨qd4 qft.1, qbA qft.1⟩ (fun hHeld => ?_); refine qc0 qaF.tab7 qaF.qmL (fun HT_ HW_ => ?_)
     generalize w19.drew = w20 at qfH qft HB hHeld ⊢
     refine pu_ 0 24 [1, 13] ?_; refine pu_ 1 25 [2, 12] ?_; refine pu_ 3 27 [2, 1, 1, 10] ?_; refine pu_ 5 29 [2, 1, 1, 1, 1, 8] ?_; refine pu_ 7 31 [2, 1, 1, 1, 1, 1, 1, 6] ?_; refine qii 2 26 [4, 1, 1, 1, 1, 6] ?_; refine qii 4 28 [6, 1, 1, 6] ?_; refine pu_ 6 30 [8, 6] ?_; refine qii 8 32 [9, 5] ?_; refine qfC (i := 9) (N := some 33) (rA_ [10, 4]) rfl rfl (qcJ HT_.out (by kernel_rfl)) (by decide) (fun K hK => ?_); refine qfN Tryz.func185 (by kernel_rfl) rfl #[.int .i64 (wrap64 (((qad l0 qeV).f1) + a1)), .int .i64 ((qad l0 qeV).f0)] (by rfl) rfl rfl qbJ ?_
     with_reducible refine (qfA.calls (wrap64 (((qad l0 qeV).f1) + a1)) ((qad l0 qeV).f0) qrS _ A15.1).mono ?_
     rintro e w' ⟨rfl, ⟨nd, rfl⟩⟩; refine ⟨_, rfl, ?_⟩; refine hK.out _ _ ⟨qd4 qft.1, qbA qft.1⟩ (fun hHeld => ?_); clear hK K; refine nm_ 33 ?_; refine pu_ 10 34 [11, 3] ?_; refine qfC (i := 11) (N := some 35) (rA_ [12, 2]) rfl rfl (qcJ HT_.out (by kernel_rfl)) (by decide) (fun K hK => ?_); refine qi9 (w1 := ?_) (v := ?_) (by rfl) rfl ?_ ?_; rotate_left 2
     ·go_simp; constructor
      ·rfl
      rfl
     refine hK.out _ _ ⟨(qba (qag qft.1 _) 0).trans rfl, (qba (qag qft.1 _) 1).trans rfl⟩ (fun hHeld => ?_); clear hK K; refine nm_ 35 ?_; refine qfC (i := 12) (N := some 36) (rA_ [13, 1]) rfl rfl (qcJ HT_.out (by kernel_rfl)) (by decide) (fun K hK => ?_); refine Kd.qe4 qaG (w0 := w) w.heap.size (by rfl) (.tmp 24) (.tmp 35) 26 85 (.agg #[(.int .i64 0), (.int .i64 0)]) 16 rfl Tryz.underlying26 qfV rfl (by decide) (by omega) u6 qhD (⟨(qad l0 qeV).f0, qrS⟩ : qac) [.int .i64 ((qad l0 qeV).f0), .int .i64 qrS] (fun k_ => k_ ≠ qeO) (fun _ => False) rfl rfl ?aP (fun _ hk => hk.elim) ?aF ?aO ?aB ?aS ?aL ?_
     (case aP => exact qc7 _ _ _ (⟨(qad l0 qeV).f0, qrS⟩ : qac))
     (case aB => exact (by apply_rules only [HB.1, qal, qaf, qah, qat, qoO.1]))
     (case aF => exact (fun k_ hk => Kd.qnY (g := qeO) (o := .cells #[.int .i64 ((qad l0 qeV).f0), .int .i64 ((qad l0 qeV).f1)] 85 (0, 0)) (by apply_rules only [qft.1, qaj, qak, qag]) k_ hk))
     (case aO => exact qpL)
     (case aS => exact (qab (by apply_rules only [HB.1, qal, qaf, qah, qat, qoO.1])))
     (case aL => have := LMc16.1; omega)
     intro v110 w21 ho hb hg hat; rw [← Ny109.1] at ho; replace qft := ak_ (qd9 (g := qeO) (o := .cells #[.int .i64 ((qad l0 qeV).f0), .int .i64 ((qad l0 qeV).f1)] 85 (0, 0)) (by apply_rules only [qft.1, qaj, qak, qag]) hg (Kd.qnA qfH.1 (fun _ hk => hk))); replace HB := ak_ (hb); have HO111 := ak_ (ho); clear qfH; clear ho hb hg hat; refine hK.out _ _ ⟨qd4 qft.1, qbA qft.1⟩ (fun hHeld => ?_); clear hK K; refine nm_ 36 ?_; refine pu_ 13 6 [14] ?_; refine qf5 (qeh HT_.out (by kernel_rfl)) ?_
     try go_wp2
     go_roundg k2
     case measure => have := HJ2.1; have := HK2.1; omega
     case rel => exact ⟨(y109), (wrap64 (qeV + 1)), qay, H', ⟨by have := HJ2.1; have := HK2.1; omega⟩, ⟨by (with_reducible repeat (first | apply Kd.qaq | apply Kd.qar | apply Kd.qax)); exact Kd.qa2 HO111.1 (fun _ hk => trivial)⟩, ⟨by apply_rules only [HB.1, qal, qaf, qah, qat, qoO.1]⟩⟩
def qbd.l0 : Nat → Int → Int → Option (Int)
 | 0, _, _ => none
 | k + 1, x0, x3 => if (wrap64 (x3 * x3)) ≤ x0 then (if x3 = 0 then (none) else (if (Int.tmod x0 x3) = 0 then (some x3) else (qbd.l0 k x0 (wrap64 (x3 + 1))))) else (some x0)
def qbd.f (k : Nat) (a0 : Int) : Option (Int) := qbd.l0 k a0 2
theorem qbd.calls (k : Nat) (a0 : Int) (r : Int) (w : World) (h : qbd.f k a0 = some r) :
  Calls Tryz.prog 225 #[.int .i64 a0] w fun e w' => e = .returned (.int .i64 r) ∧ qcY w w' := by
 have H : (qbd.l0 k a0 2) = some r := h; clear h; have H' := ak_ H; clear H; go_enter Tryz.func225, Tryz.ntmps225; go_wp2
 go_loopg [3] k (fun kq v3 w' => ∃ (qbx : Int), v3 = .int .i64 qbx ∧ qai (qbd.l0 kq a0 qbx = some r) ∧ qai (kq ≤ k) ∧ qcY w w')
 case atStart => exact ⟨(2), qay, H', ⟨Nat.le_refl _⟩, qc3⟩
 case round =>
  clear H'; obtain ⟨qbx, rfl, HA, HK1, ⟨m1, rfl⟩⟩ := hrel
  cases gk with
  | zero => exact absurd HA.1 (by simp [qbd.l0])
  | succ k1 =>
   have H := HA.1; clear HA; simp only [qbd.l0] at H; by_cases c2 : (wrap64 (qbx * qbx)) ≤ a0; rotate_left
   ·rw [if_neg c2] at H; have qfB := decide_eq_false c2; clear c2; obtain rfl := sj_ H; go_wp2
    go_ret
    exact ⟨qay, qc3⟩
   rw [if_pos c2] at H; have qfB := decide_eq_true c2; clear c2; by_cases c3 : qbx = 0
   ·rw [if_pos c3] at H; exact absurd H (by simp)
   rw [if_neg c3] at H; have qfr : (qbx == 0) = false := beq_eq_false_iff_ne.mpr c3; have qlH : (qbx != 0) = true := bne_iff_ne.mpr c3; by_cases c4 : (Int.tmod a0 qbx) = 0
   ·rw [if_pos c4] at H; have qfw : ((Int.tmod a0 qbx) == 0) = true := beq_iff_eq.mpr c4; have qlY : ((Int.tmod a0 qbx) != 0) = false := bne_eq_false_iff_eq.mpr c4; clear c4; obtain rfl := sj_ H; go_wp2
    go_ret
    exact ⟨qay, qc3⟩
   rw [if_neg c4] at H; have qfw : ((Int.tmod a0 qbx) == 0) = false := beq_eq_false_iff_ne.mpr c4; have qlY : ((Int.tmod a0 qbx) != 0) = true := bne_iff_ne.mpr c4; have H' := ak_ H; clear H; go_wp2
   go_roundg k1
   case measure => have := HK1.1; omega
   case rel => exact ⟨(wrap64 (qbx + 1)), qay, H', ⟨qc9⟩, qc3⟩
def qdj.f (k : Nat) (a0 : Int) : Option (Bool) := if a0 ≥ 2 then ((qbd.f k a0).bind fun qav => (some (qav == a0))) else (some false)
theorem qdj.calls (k : Nat) (a0 : Int) (r : Bool) (w : World) (h : qdj.f k a0 = some r) :
  Calls Tryz.prog 226 #[.int .i64 a0] w fun e w' => e = .returned (.bool r) ∧ qcY w w' := by
 have H : (if a0 ≥ 2 then ((qbd.f k a0).bind fun qav => (some (qav == a0))) else (some false)) = some r := h; clear h; by_cases c2 : a0 ≥ 2
 ·rw [if_pos c2] at H; have qfB : decide (2 ≤ a0) = true := decide_eq_true c2; clear c2; obtain ⟨qav, A3, H⟩ := qaB H; (try dsimp only at H); obtain rfl := sj_ H; go_enter Tryz.func226, Tryz.ntmps226
  go_wp2_with (first | (go_at_call 225; (with_reducible refine (qbd.calls k a0 qav _ A3.1).mono ?_); rintro e w' ⟨rfl, ⟨nd, rfl⟩⟩))
  go_ret
  exact ⟨qay, qc3⟩
 rw [if_neg c2] at H; have qfB : decide (2 ≤ a0) = false := decide_eq_false c2; clear c2; obtain rfl := sj_ H; go_enter Tryz.func226, Tryz.ntmps226; go_wp2
 go_ret
 exact ⟨qay, qc3⟩
def qaR.l0 : Nat → Int → List Int → Int → Option (List Int)
 | 0, _, _, _ => none
 | k + 1, x1, x5, x6 => if x6 ≤ x1 then ((qdj.f k x6).bind fun qcq => (if qcq = true then (if x5.length < 17592186044416 then (qaR.l0 k x1 (x5 ++ [x6]) (wrap64 (x6 + 1))) else (none)) else (qaR.l0 k x1 x5 (wrap64 (x6 + 1))))) else (some x5)
def qaR.f (k : Nat) (a0 : Int) (a1 : Int) : Option (List Int) := qaR.l0 k a1 (([] : List Int)) a0
theorem qaR.calls (k : Nat) (a0 : Int) (a1 : Int) (r : List Int) (w : World) (h : qaR.f k a0 a1 = some r) :
  Calls Tryz.prog 191 #[.int .i64 a0, .int .i64 a1] w fun e w' => ∃ v0_ : Value, e = .returned (v0_) ∧ Kd.R (Kd.int .i64) 3 w' w.heap.size (fun _ => True) v0_ r ∧ Below w.heap.size w w' := by
 have HB := br_ w; have H : (qaR.l0 k a1 (([] : List Int)) a0) = some r := h; clear h
 obtain ⟨qeW, hy_⟩ : ∃ y_ : List Int, y_ = (([] : List Int)) := ⟨_, rfl⟩
 replace H : (qaR.l0 k a1 qeW a0) = some r := qfb; have qet := ak_ hy_; clear hy_; have H' := ak_ H; clear H; go_enter Tryz.func191, Tryz.ntmps191
 go_wp2_with (first | ((with_reducible refine qam (N := 7) rfl ?_); refine li_ (Kd.int .i64) 3 7 rfl (xs := ([] : List Int)) qa1 ?_; intro qjd w3 ho4 hb; (first | rw [← qet.1] at ho4 | (simp only [Int.reduceToNat] at ho4; rw [← qet.1] at ho4)); have qcI := ak_ (Kd.qaw ho4 (qab qao)); replace HB := HB.mw hb; clear hb ho4))
 go_loopg [5, 6] k (fun kq v5 v6 w' => ∃ (qbC : List Int) (qdq : Int), v6 = .int .i64 qdq ∧ qai (qaR.l0 kq a1 qbC qdq = some r) ∧ qai (kq ≤ k) ∧ qai (Kd.R (Kd.int .i64) 3 w' w.heap.size (fun _ => True) v5 qbC) ∧ qai (Below w.heap.size w w'))
 case atStart => exact ⟨(qeW), (a0), qay, H', ⟨Nat.le_refl _⟩, ⟨qoL⟩, ⟨qao⟩⟩
 case round =>
  clear H'; obtain ⟨qbC, qdq, rfl, HA, HK1, qgT, HB⟩ := hrel
  cases gk with
  | zero => exact absurd HA.1 (by simp [qaR.l0])
  | succ k1 =>
   have H := HA.1; clear HA; simp only [qaR.l0] at H; by_cases c5 : qdq ≤ a1; rotate_left
   ·rw [if_neg c5] at H; have qgL := decide_eq_false c5; clear c5; obtain rfl := sj_ H; go_wp2
    go_ret
    exact ⟨_, qca, k65_, qao⟩
   rw [if_pos c5] at H; have qgL := decide_eq_true c5; clear c5; obtain ⟨qcq, A6, H⟩ := qaB H; (try dsimp only at H); by_cases c7 : qcq = true; rotate_left
   ·replace c7 := Bool.eq_false_iff.mpr c7; subst c7; rw [if_neg ff_] at H; have H' := ak_ H; clear H
    go_wp2_with (first | (refine gl_ 15 Tryz.func226 #[.int .i64 qdq] rfl qbJ ?_; (with_reducible refine (qdj.calls k1 qdq false _ A6.1).mono ?_); rintro e w' ⟨rfl, ⟨nd, rfl⟩⟩; refine ⟨_, rfl, ?_⟩))
    go_roundg k1
    case measure => have := HK1.1; omega
    case rel => exact ⟨(qbC), (wrap64 (qdq + 1)), qay, H', ⟨qc9⟩, ⟨qoM⟩, ⟨qao⟩⟩
   subst c7; rw [if_pos rfl] at H; obtain ⟨c8, H⟩ := qct H; have LMc8 := ak_ c8; clear c8
   obtain ⟨qic, hy_⟩ : ∃ y_ : List Int, y_ = (qbC ++ [qdq]) := ⟨_, rfl⟩
   replace H : (qaR.l0 k1 a1 qic (wrap64 (qdq + 1))) = some r := qfb; have qhG := ak_ hy_; clear hy_; have H' := ak_ H; clear H
   go_wp2_with (first | (refine gl_ 15 Tryz.func226 #[.int .i64 qdq] rfl qbJ ?_; (with_reducible refine (qdj.calls k1 qdq true _ A6.1).mono ?_); rintro e w' ⟨rfl, ⟨nd, rfl⟩⟩; refine ⟨_, rfl, ?_⟩) | ((with_reducible refine qa5 (b := .append) (xs := #[.tmp 16, .tmp 18]) rfl ?_); at_builtin; refine Kd.qc8 (Kd.int .i64) (w0 := w) w.heap.size rfl (.tmp 16) (.tmp 18) 48 3 (.int .i64 0) 8 rfl Tryz.underlying48 info3 rfl (by decide) (by omega) u5 qbC qdq [.int .i64 qdq] (fun _ => True) (fun _ => False) rfl rfl ?aP (fun _ hk => hk.elim) ?aF ?aO ?aB ?aS ?aL ?_; (case aP => exact rfl); (case aB => exact qao); (case aF => exact (fun _ _ => trivial)); (case aO => exact qoM); (case aS => exact (qab qao)); (case aL => have := LMc8.1; omega); intro qrK w9 ho hb hg hat; rw [← qhG.1] at ho; replace HB := ak_ (hb); have qfa := ak_ (ho); clear qgT; clear ho hb hg hat))
   go_roundg k1
   case measure => have := HK1.1; omega
   case rel => exact ⟨(qic), (wrap64 (qdq + 1)), qay, H', ⟨qc9⟩, ⟨by apply_rules only [qfa.1, Kd.qaq, Kd.qar, Kd.qax]⟩, ⟨qao⟩⟩
def qbv.l0 : Nat → List (qac) → List Int → Int → Int → Option ((List (qac)))
 | 0, _, _, _, _ => none
 | k + 1, x3, x9, x10, x11 => if x11 < x10 then (if 0 ≤ x11 then (if x11 < (x9.length : Int) then (if x3.length < 8796093022208 then (qbv.l0 k (x3 ++ [(⟨rd x9 x11, 0⟩ : qac)]) x9 x10 (wrap64 (x11 + 1))) else (none)) else (none)) else (none)) else (some x3)
def qbv.f (k : Nat) (a0 : Int) : Option ((List (qac))) := (qaR.f k 0 37).bind fun qcq => (if 0 ≤ a0 then (if a0 ≤ (qcq.length : Int) then ((some (qcq.take (a0 : Int).toNat : List Int)).bind fun qfZ => (qbv.l0 k (([] : List (qac))) qfZ (qfZ.length : Int) 0)) else (none)) else (none))
theorem qbv.calls (k : Nat) (a0 : Int) (r : List (qac)) (w : World) (h : qbv.f k a0 = some r) :
  Calls Tryz.prog 186 #[.int .i64 a0] w fun e w' => ∃ v0_ : Value, e = .returned (v0_) ∧ Kd.R qaG 85 w' w.heap.size (fun _ => True) v0_ r ∧ Below w.heap.size w w' := by
 have qme := Tryz.underlying85; have HB := br_ w; have H : ((qaR.f k 0 37).bind fun qcq => (if 0 ≤ a0 then (if a0 ≤ (qcq.length : Int) then ((some (qcq.take (a0 : Int).toNat : List Int)).bind fun qfZ => (qbv.l0 k (([] : List (qac))) qfZ (qfZ.length : Int) 0)) else (none)) else (none))) = some r := h; clear h
 obtain ⟨qeW, hy_⟩ : ∃ y_ : List (qac), y_ = (([] : List (qac))) := ⟨_, rfl⟩
 replace H : ((qaR.f k 0 37).bind fun qcq => (if 0 ≤ a0 then (if a0 ≤ (qcq.length : Int) then ((some (qcq.take (a0 : Int).toNat : List Int)).bind fun qfZ => (qbv.l0 k qeW qfZ (qfZ.length : Int) 0)) else (none)) else (none))) = some r := qfb; have qet := ak_ hy_; clear hy_; obtain ⟨qcq, A2, H⟩ := qaB H; (try dsimp only at H); obtain ⟨c3, H⟩ := qct H; have qfr := eq_true c3; have qlH := decide_eq_true c3; clear c3; obtain ⟨c4, H⟩ := qct H; have qfw := eq_true c4; have qlY := decide_eq_true c4; clear c4
 obtain ⟨qfZ, hy_⟩ : ∃ y_ : List Int, y_ = (qcq.take (a0 : Int).toNat) := ⟨_, rfl⟩
 replace H : (qbv.l0 k qeW qfZ (qfZ.length : Int) 0) = some r := qfb; have qj9 := ak_ hy_; clear hy_; have H' := ak_ H; clear H; go_enter Tryz.func186, Tryz.ntmps186
 go_wp2_with (first | ((with_reducible refine qam (N := 6) rfl ?_); refine Kd.qhH qaG _ 85 ?hg (N := 6) ?hd (xs := ([] : List (qac))) (inner := []) (ok := fun _ => True) (okp := fun _ => True) ?hr ?hp (fun _ hk => hk) trivial (Below.refl _ _) (Nat.le_refl _) (by simp) ?_; (case hd => rfl); (case hg => rfl); (case hr => exact qa1); (case hp => exact (qep.none _ _)); intro qjd w5 ho6 hb hg_ hnew_; clear hg_ hnew_; (first | rw [← qet.1] at ho6 | (simp only [Int.reduceToNat] at ho6; rw [← qet.1] at ho6)); have qcI := ak_ (Kd.qaw ho6 (qab qao)); replace HB := HB.mw hb; clear hb ho6) | (refine gl_ 7 Tryz.func191 #[.int .i64 0, .int .i64 37] rfl qbJ ?_; (with_reducible refine (qaR.calls k 0 37 qcq _ A2.1).mono ?_); rintro e w7 ⟨v105, rfl, ho0, hb⟩; refine ⟨_, rfl, ?_⟩; replace qcI := qcI.mw hb; have qff := ak_ (Kd.qaw ho0 (qab qao)); replace HB := HB.mw hb; (try clear hb ho0); obtain ⟨Ao9, co9, eo9⟩ := Kd.qaI qff.1; subst eo9; have q8 : (a0 : Int) ≤ ((qcq.length : Int) : Int) := of_decide_eq_true qaL; obtain ⟨i08, hi08, _, hsz8, _⟩ := info_parts info3; have hroom8 : qcq.length ≤ co9 := (Kd.qan qff.1).2.1; have hC8 : Kd.C (Kd.int .i64) _ Ao9 qcq.length qcq := (Kd.qan qff.1).2.2; have hcut8 := qkN (P := Tryz.prog) 48 3 .i64 Tryz.underlying48 hi08 Ao9 qcq.length co9 a0 (of_decide_eq_true qaL) q8 hroom8; have hr8 := Kd.qns (m := (a0 : Int).toNat) hC8 (by omega); have hy8 : qfZ.length = (a0 : Int).toNat := (by rw [qj9.1, List.length_take]; omega); rw [← qj9.1] at hr8; rw [← hy8] at hcut8; have HR110 := ak_ hr8; have HC110 := ak_ (show qfZ.length ≤ co9 from by omega); clear hr8 hC8 hroom8 hi08 hsz8; have KY8 := ak_ hy8; clear hy8; have KL8 := ak_ (show (a0 : Int).toNat ≤ qcq.length from by omega); replace q8 := eq_true q8))
 go_loopg [3, 11] k (fun kq v3 v11 w' => ∃ (qbx : List (qac)) (qcv : Int), v11 = .int .i64 qcv ∧ qai (qbv.l0 kq qbx qfZ (qfZ.length : Int) qcv = some r) ∧ qai (kq ≤ k) ∧ qai (Kd.R qaG 85 w' w.heap.size (fun _ => True) v3 qbx) ∧ qai (Kd.R (Kd.int .i64) 3 w' w.heap.size (fun _ => True) (.slice Ao9 qcq.length co9) qcq) ∧ qai (Below w.heap.size w w'))
 case atStart => exact ⟨(qeW), (0), qay, H', ⟨Nat.le_refl _⟩, ⟨qoL⟩, ⟨k84_⟩, ⟨qao⟩⟩
 case round =>
  clear H'
  skip
  obtain ⟨qbx, qcv, rfl, HA, HK1, qdu, HOQ_, HB⟩ := hrel
  cases gk with
  | zero => exact absurd HA.1 (by simp [qbv.l0])
  | succ k1 =>
   have H := HA.1; clear HA; simp only [qbv.l0] at H; by_cases c10 : qcv < (qfZ.length : Int); rotate_left
   ·rw [if_neg c10] at H; have qgY := decide_eq_false c10; clear c10; obtain rfl := sj_ H; go_wp2
    go_ret
    exact ⟨_, qca, k64_, qao⟩
   rw [if_pos c10] at H; have qgY := decide_eq_true c10; clear c10; obtain ⟨c11, H⟩ := qct H; have qgK := decide_eq_true c11; clear c11; obtain ⟨c12, H⟩ := qct H; have qhN := decide_eq_true c12; clear c12; obtain ⟨c13, H⟩ := qct H; have LMc13 := ak_ c13; clear c13
   obtain ⟨y112, hy_⟩ : ∃ y_ : List (qac), y_ = (qbx ++ [(⟨rd qfZ qcv, 0⟩ : qac)]) := ⟨_, rfl⟩
   replace H : (qbv.l0 k1 y112 qfZ (qfZ.length : Int) (wrap64 (qcv + 1))) = some r := qfb; have Ny112 := ak_ hy_; clear hy_; have H' := ak_ H; clear H; have p111 : 0 ≤ (qcv : Int) := of_decide_eq_true qaL; have q111 : qcv < (qfZ.length : Int) := of_decide_eq_true qaL; obtain ⟨ad111, e111, hx111_0⟩ := Kd.qew (show Kd.C (Kd.int .i64) _ Ao9 qfZ.length qfZ from by have h_ := Kd.qns (m := (a0 : Int).toNat) (Kd.qan HOQ_.1).2.2 KL8.1; rw [← qj9.1] at h_; exact h_) qcv p111 q111
   cases e111
   replace p111 := eq_true p111; replace q111 := eq_true q111
   go_wp2_with (first | ((with_reducible refine qa5 (b := .append) (xs := #[.tmp 15, .tmp 18]) rfl ?_); at_builtin; refine Kd.qc8 qaG (w0 := w) w.heap.size rfl (.tmp 15) (.tmp 18) 26 85 (.agg #[(.int .i64 0), (.int .i64 0)]) 16 rfl Tryz.underlying26 qfV rfl (by decide) (by omega) u3 qbx (⟨rd qfZ qcv, 0⟩ : qac) [.int .i64 (rd qfZ qcv), .int .i64 0] (fun _ => True) (fun _ => False) rfl rfl ?aP (fun _ hk => hk.elim) ?aF ?aO ?aB ?aS ?aL ?_; (case aP => exact qc7 _ _ _ (⟨rd qfZ qcv, 0⟩ : qac)); (case aB => exact qao); (case aF => exact (fun _ _ => trivial)); (case aO => exact qib); (case aS => exact (qab qao)); (case aL => have := LMc13.1; omega); intro v113 w14 ho hb hg hat; rw [← Ny112.1] at ho; have n0_ := ak_ (hb); have n1_ := ak_ (ho); have n2_ := ak_ (Kd.qkF (by apply_rules only [HOQ_.1, Kd.qaq, Kd.qar, Kd.qax]) (Kd.qin qib) (by decide) hg); clear HOQ_; have HOQ_ := n2_; clear n2_; clear HB; clear qdu; have HB := n0_; have HO114 := n1_; clear n0_ n1_; clear ho hb hg hat))
   go_roundg k1
   case measure => have := HK1.1; omega
   case rel => exact ⟨(y112), (wrap64 (qcv + 1)), qay, H', ⟨qc9⟩, ⟨by apply_rules only [HO114.1, Kd.qaq, Kd.qar, Kd.qax]⟩, ⟨by apply_rules only [HOQ_.1, Kd.qaq, Kd.qar, Kd.qax]⟩, ⟨qao⟩⟩
def qcD.f (k : Nat) (a0 : Int) : Option ((List (qac)) × Bool) := if a0 < 0 then (some (([] : List (qac)), false)) else (if a0 > 12 then (some (([] : List (qac)), false)) else ((qbv.f k a0).bind fun qav => (some (qav, true))))
theorem qcD.calls (k : Nat) (a0 : Int) (r1 : List (qac)) (r2 : Bool) (w : World) (h : qcD.f k a0 = some (r1, r2)) :
  Calls Tryz.prog 125 #[.int .i64 a0] w fun e w' => ∃ v0_ : Value, e = .returned (.tuple #[v0_, .bool r2]) ∧ Kd.R qaG 85 w' w.heap.size (fun _ => True) v0_ r1 ∧ Below w.heap.size w w' := by
 have HB := br_ w; have H : (if a0 < 0 then (some (([] : List (qac)), false)) else (if a0 > 12 then (some (([] : List (qac)), false)) else ((qbv.f k a0).bind fun qav => (some (qav, true))))) = some (r1, r2) := h; clear h; by_cases c2 : a0 < 0
 ·rw [if_pos c2] at H; have qfB := decide_eq_true c2; clear c2; obtain ⟨rfl, rfl⟩ := qdQ H; go_enter Tryz.func125, Tryz.ntmps125; go_wp2
  go_ret2
  exact ⟨_, qca, qhg, qao⟩
 rw [if_neg c2] at H; have qfB := decide_eq_false c2; clear c2; by_cases c3 : a0 > 12
 ·rw [if_pos c3] at H; have qfr : decide (12 < a0) = true := decide_eq_true c3; clear c3; obtain ⟨rfl, rfl⟩ := qdQ H; go_enter Tryz.func125, Tryz.ntmps125; go_wp2
  go_ret2
  exact ⟨_, qca, qhg, qao⟩
 rw [if_neg c3] at H; have qfr : decide (12 < a0) = false := decide_eq_false c3; clear c3; obtain ⟨qav, A4, H⟩ := qaB H; (try dsimp only at H); obtain ⟨rfl, rfl⟩ := qdQ H; go_enter Tryz.func125, Tryz.ntmps125
 go_wp2_with (first | (refine gl_ 11 Tryz.func186 #[.int .i64 a0] rfl qbJ ?_; (with_reducible refine (qbv.calls k a0 qav _ A4.1).mono ?_); rintro e w5 ⟨qjd, rfl, ho0, hb⟩; refine ⟨_, rfl, ?_⟩; have qcI := ak_ (Kd.qaw ho0 (qab qao)); replace HB := HB.mw hb; (try clear hb ho0)))
 go_ret2
 exact ⟨_, qca, by (with_reducible repeat (first | apply Kd.qaq | apply Kd.qar | apply Kd.qax)); exact qcI.1, qao⟩
end
end Go.Proofs.YtjeoabbnalamcaaGreatDoor.P
