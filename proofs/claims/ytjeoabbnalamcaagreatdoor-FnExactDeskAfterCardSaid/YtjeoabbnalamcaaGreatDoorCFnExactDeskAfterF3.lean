/- What functions of the program answer. Proved in this text: its theorems. Conditions: as each theorem states them. -/
import Derived.Test.YtjeoabbnalamcaaGreatDoorCFnExactDeskAfterP
import Derived.Test.YtjeoabbnalamcaaGreatDoorCFnExactDeskAfterF2
import Derived.Test.YtjeoabbnalamcaaGreatDoorCFnExactDeskAfterF0
namespace Go.Proofs.YtjeoabbnalamcaaGreatDoor.P
open Go.RowKit Go.Proofs.YtjeoabbnalamcaaGreatDoorW.qaZ Go.Proofs.YtjeoabbnalamcaaGreatDoorW.PrintLast Go.Proofs.YtjeoabbnalamcaaGreatDoorW.PrintMore
set_option linter.unusedVariables false
set_option linter.unusedSimpArgs false
set_option maxHeartbeats 8000000
set_option maxRecDepth 100000
section
attribute [local go_sem] qhj qhl qiE qiF qgt qgu qhk qhm
mutual
def qaK.l0 : Nat → ByteArray → List (qac) → Int → Int → Int → Option ((List (qac)) × Bool)
 | 0, _, _, _, _, _ => none
 | k + 1, x0, x4, x5, x6, x7 => if x7 ≤ (x0.size : Int) then (if x7 = (x0.size : Int) then (qaK.j1 k x0 x4 x5 x6 x7 true) else (if 0 ≤ x7 then (if x7 < (x0.size : Int) then (qaK.j1 k x0 x4 x5 x6 x7 ((bt x0 x7) == 44)) else (none)) else (none))) else ((qaP.f k x4).bind fun qav => (if qav = true then ((qbp.f k x4).bind fun qaQ => (some (x4, (qaQ.toList == x0.toList)))) else (some (x4, false))))
def qaK.j1 : Nat → ByteArray → List (qac) → Int → Int → Int → Bool → Option ((List (qac)) × Bool)
 | 0, _, _, _, _, _, _ => none
 | k + 1, x0, x4, x5, x6, x7, x19 => if x19 = true then (if x4.length < 8796093022208 then (qaK.l0 k x0 (x4 ++ [(⟨x6, x5⟩ : qac)]) 0 0 (wrap64 (x7 + 1))) else (none)) else (if 0 ≤ x7 then (if x7 < (x0.size : Int) then (if (bt x0 x7) = 58 then (qaK.l0 k x0 x4 0 x5 (wrap64 (x7 + 1))) else (if (bt x0 x7) ≥ 48 then (if (bt x0 x7) ≤ 57 then ((qfp.f 1000 (wrap64 ((wrap64 (10 * x5)) + (((bt x0 x7) - 48) % 256)))).bind fun qg0 => (qaK.l0 k x0 x4 qg0 x6 (wrap64 (x7 + 1)))) else (qaK.l0 k x0 x4 x5 x6 (wrap64 (x7 + 1)))) else (qaK.l0 k x0 x4 x5 x6 (wrap64 (x7 + 1))))) else (none)) else (none))
end
def qaK.f (k : Nat) (a0 : ByteArray) : Option ((List (qac)) × Bool) := if a0.toList = ([45] : List UInt8) then (some (([] : List (qac)), true)) else (if (a0.size : Int) > 72 then (some (([] : List (qac)), false)) else (qaK.l0 k a0 ([] : List (qac)) 0 0 0))
theorem qaK.calls (k : Nat) (a0 : ByteArray) (r1 : List (qac)) (r2 : Bool) (w : World) (h : qaK.f k a0 = some (r1, r2)) :
  Calls Tryz.prog 151 #[.string a0] w fun e w' => ∃ v0_ : Value, e = .returned (.tuple #[v0_, .bool r2]) ∧ Kd.R qaG 85 w' w.heap.size (fun _ => True) v0_ r1 ∧ Below w.heap.size w w' := by
 have qme := Tryz.underlying85; have HB := br_ w; have H : (if a0.toList = ([45] : List UInt8) then (some (([] : List (qac)), true)) else (if (a0.size : Int) > 72 then (some (([] : List (qac)), false)) else (qaK.l0 k a0 ([] : List (qac)) 0 0 0))) = some (r1, r2) := h; clear h; by_cases c2 : a0.toList = ([45] : List UInt8)
 ·rw [if_pos c2] at H; have qfB : (a0.toList == ([45] : List UInt8)) = true := beq_iff_eq.mpr c2; have qnI : (a0.toList != ([45] : List UInt8)) = false := bne_eq_false_iff_eq.mpr c2; clear c2; obtain ⟨rfl, rfl⟩ := qdQ H; go_enter Tryz.func151, Tryz.ntmps151; go_wp2
  go_ret2
  exact ⟨_, qca, qhg, qao⟩
 rw [if_neg c2] at H; have qfB : (a0.toList == ([45] : List UInt8)) = false := beq_eq_false_iff_ne.mpr c2; have qnI : (a0.toList != ([45] : List UInt8)) = true := bne_iff_ne.mpr c2; by_cases c3 : (a0.size : Int) > 72
 ·rw [if_pos c3] at H; have qfr : decide (72 < (a0.size : Int)) = true := decide_eq_true c3; have qlH : decide (72 < a0.size) = true := decide_eq_true (by omega); clear c3; obtain ⟨rfl, rfl⟩ := qdQ H; go_enter Tryz.func151, Tryz.ntmps151; go_wp2
  go_ret2
  exact ⟨_, qca, qhg, qao⟩
 rw [if_neg c3] at H; have qfr : decide (72 < (a0.size : Int)) = false := decide_eq_false c3; have qlH : decide (72 < a0.size) = false := decide_eq_false (by omega); clear c3; have H' := ak_ H; clear H; go_enter Tryz.func151, Tryz.ntmps151; go_wp2
 go_loopg [4, 5, 6, 7] k (fun kq v4 v5 v6 v7 w' => ∃ (qcP : List (qac)) (qbC : Int) (qdq : Int) (qdE : Int), v5 = .int .i64 qbC ∧ v6 = .int .i64 qdq ∧ v7 = .int .i64 qdE ∧ qai (qaK.l0 kq a0 qcP qbC qdq qdE = some (r1, r2)) ∧ qai (kq ≤ k) ∧ qai (Kd.R qaG 85 w' w.heap.size (fun _ => True) v4 qcP) ∧ qai (Below w.heap.size w w'))
 case atStart => exact ⟨(([] : List (qac))), (0), (0), (0), qay, qay, qay, H', ⟨Nat.le_refl _⟩, ⟨qhg⟩, ⟨qao⟩⟩
 case round =>
  clear H'; (try clear c2); (try clear qfB); (try clear qnI); (try clear c3); (try clear qfr); (try clear qlH); obtain ⟨qcP, qbC, qdq, qdE, rfl, rfl, rfl, HA, HK1, qdp, HB⟩ := hrel
  cases gk with
  | zero => exact absurd HA.1 (by simp [qaK.l0])
  | succ k1 =>
   have H := HA.1; clear HA; simp only [qaK.l0] at H; by_cases c4 : qdE ≤ (a0.size : Int); rotate_left
   ·rw [if_neg c4] at H; have qfw := decide_eq_false c4; clear c4; obtain ⟨qav, A23, H⟩ := qaB H; (try dsimp only at H); by_cases c24 : qav = true
    ·subst c24; rw [if_pos rfl] at H; obtain ⟨qaQ, A25, H⟩ := qaB H; (try dsimp only at H); obtain ⟨rfl, rfl⟩ := qdQ H; obtain ⟨Ao26, co26, eo26⟩ := Kd.qaI qdp.1; subst eo26
     go_wp2_with (first | (refine gl_ 64 Tryz.func60 #[.slice Ao26 qcP.length co26] rfl qbJ ?_; (with_reducible refine (qaP.calls k1 _ _ qcP true _ ?qaz ?qaA A23.1).mono ?_); (case qaz => exact k42_); (case qaA => exact (Kd.qan qdp.1).2.1); rintro e w27 ⟨rfl, hb⟩; refine ⟨_, rfl, ?_⟩; replace qdp := qdp.mw hb; replace HB := HB.mw hb; (try clear hb)) | (go_at_call 207; (with_reducible refine (qbp.calls k1 _ _ qcP qaQ _ ?qaz ?qaA A25.1).mono ?_); (case qaz => exact k42_); (case qaA => exact (Kd.qan qdp.1).2.1); rintro e w28 ⟨rfl, hb⟩; replace qdp := qdp.mw hb; replace HB := HB.mw hb; (try clear hb)))
     go_ret2
     exact ⟨_, qca, by (with_reducible repeat (first | apply Kd.qaq | apply Kd.qar | apply Kd.qax)); exact qdp.1, qao⟩
    replace c24 := Bool.eq_false_iff.mpr c24; subst c24; rw [if_neg ff_] at H; obtain ⟨rfl, rfl⟩ := qdQ H; obtain ⟨Ao29, co29, eo29⟩ := Kd.qaI qdp.1; subst eo29
    go_wp2_with (first | (refine gl_ 64 Tryz.func60 #[.slice Ao29 qcP.length co29] rfl qbJ ?_; (with_reducible refine (qaP.calls k1 _ _ qcP false _ ?qaz ?qaA A23.1).mono ?_); (case qaz => exact k42_); (case qaA => exact (Kd.qan qdp.1).2.1); rintro e w30 ⟨rfl, hb⟩; refine ⟨_, rfl, ?_⟩; replace qdp := qdp.mw hb; replace HB := HB.mw hb; (try clear hb)))
    go_ret2
    exact ⟨_, qca, by (with_reducible repeat (first | apply Kd.qaq | apply Kd.qar | apply Kd.qax)); exact qdp.1, qao⟩
   rw [if_pos c4] at H; have qfw := decide_eq_true c4; clear c4; have HC5 := ak_ H; clear H
   go_upto_region 10 with (fail)
   go_cut [19] (fun v19 wc => ∃ (kq : Nat) (x19_4 : Bool), v19 = .bool x19_4 ∧ qai (qaK.j1 kq a0 qcP qbC qdq qdE x19_4 = some (r1, r2)) ∧ qai (kq ≤ k1) ∧ qai (Kd.R qaG 85 wc w.heap.size (fun _ => True) u4 qcP) ∧ qai (Below w.heap.size w wc))
   case first =>
    have H := HC5.1; clear HC5; by_cases c6 : qdE = (a0.size : Int)
    ·rw [if_pos c6] at H; have qgc : (qdE == (a0.size : Int)) = true := beq_iff_eq.mpr c6; have qnJ : (qdE != (a0.size : Int)) = false := bne_eq_false_iff_eq.mpr c6; clear c6; (first | rw [qgc] | rw [qnJ] | (simp only [qec, qey]; rw [qgc]) | skip); have H' := ak_ H; clear H; go_wp2; go_meet
     case rel => exact ⟨_, (true), qay, H', ⟨by have := HK1.1; first | omega | exact Nat.le_refl _⟩, ⟨qkq⟩, ⟨qao⟩⟩
    rw [if_neg c6] at H; have qgc : (qdE == (a0.size : Int)) = false := beq_eq_false_iff_ne.mpr c6; have qnJ : (qdE != (a0.size : Int)) = true := bne_iff_ne.mpr c6; (first | rw [qgc] | rw [qnJ] | (simp only [qec, qey]; rw [qgc]) | skip); obtain ⟨c7, H⟩ := qct H; have qhx := decide_eq_true c7; clear c7; obtain ⟨c8, H⟩ := qct H; have qpc := decide_eq_true c8; clear c8; have H' := ak_ H; clear H; have p9 : 0 ≤ (qdE : Int) := of_decide_eq_true qaL; have q9 : qdE < (a0.size : Int) := of_decide_eq_true qaL; have hx9 := qeu a0 qdE; replace p9 := eq_true p9; replace q9 := eq_true q9; go_wp2; go_meet
    case rel => exact ⟨_, (((bt a0 qdE) == 44)), qay, H', ⟨by have := HK1.1; first | omega | exact Nat.le_refl _⟩, ⟨qkq⟩, ⟨qao⟩⟩
   case rest =>
    clear HC5; (try clear c2); (try clear qfB); (try clear qnI); (try clear c3); (try clear qfr); (try clear qlH); (try clear c4); (try clear qfw); obtain ⟨kq, x19_4, rfl, HA, HJ4, qdp, HB⟩ := hcut
    cases kq with
    | zero => exact absurd HA.1 (by simp [qaK.j1])
    | succ kj4 =>
     have H := HA.1; clear HA; simp only [qaK.j1] at H; by_cases c10 : x19_4 = true
     ·subst c10; rw [if_pos rfl] at H; obtain ⟨c11, H⟩ := qct H; have qoU := ak_ c11; clear c11
      obtain ⟨qiN, hy_⟩ : ∃ y_ : List (qac), y_ = (qcP ++ [(⟨qdq, qbC⟩ : qac)]) := ⟨_, rfl⟩
      replace H : (qaK.l0 kj4 a0 qiN 0 0 (wrap64 (qdE + 1))) = some (r1, r2) := qfb; have qj8 := ak_ hy_; clear hy_; have H' := ak_ H; clear H
      go_wp2_with (first | ((with_reducible refine qa5 (b := .append) (xs := #[.tmp 30, .tmp 34]) rfl ?_); at_builtin; refine Kd.qc8 qaG (w0 := w) w.heap.size rfl (.tmp 30) (.tmp 34) 26 85 (.agg #[(.int .i64 0), (.int .i64 0)]) 16 rfl Tryz.underlying26 qfV rfl (by decide) (by omega) u4 qcP (⟨qdq, qbC⟩ : qac) [.int .i64 qdq, .int .i64 qbC] (fun _ => True) (fun _ => False) rfl rfl ?aP (fun _ hk => hk.elim) ?aF ?aO ?aB ?aS ?aL ?_; (case aP => exact qc7 _ _ _ (⟨qdq, qbC⟩ : qac)); (case aB => exact qao); (case aF => exact (fun _ _ => trivial)); (case aO => exact qkq); (case aS => exact (qab qao)); (case aL => have := qoU.1; omega); intro qrJ w12 ho hb hg hat; rw [← qj8.1] at ho; replace HB := ak_ (hb); have qes := ak_ (ho); clear qdp; clear ho hb hg hat))
      go_roundg kj4
      case measure => have := HK1.1; have := HJ4.1; omega
      case rel => exact ⟨(qiN), (0), (0), (wrap64 (qdE + 1)), qay, qay, qay, H', ⟨by have := HK1.1; have := HJ4.1; omega⟩, ⟨by apply_rules only [qes.1, Kd.qaq, Kd.qar, Kd.qax]⟩, ⟨qao⟩⟩
     replace c10 := Bool.eq_false_iff.mpr c10; subst c10; rw [if_neg ff_] at H; obtain ⟨c13, H⟩ := qct H; have qmP := decide_eq_true c13; clear c13; obtain ⟨c14, H⟩ := qct H; have qpa := decide_eq_true c14; clear c14; by_cases c16 : (bt a0 qdE) = 58
     ·rw [if_pos c16] at H; have c16b0 : ((bt a0 qdE) == 58) = true := beq_iff_eq.mpr c16; have c16b1 : ((bt a0 qdE) != 58) = false := bne_eq_false_iff_eq.mpr c16; clear c16; have H' := ak_ H; clear H; have p15 : 0 ≤ (qdE : Int) := of_decide_eq_true qaL; have q15 : qdE < (a0.size : Int) := of_decide_eq_true qaL; have hx15 := qeu a0 qdE; replace p15 := eq_true p15; replace q15 := eq_true q15; go_wp2
      go_roundg kj4
      case measure => have := HK1.1; have := HJ4.1; omega
      case rel => exact ⟨(qcP), (0), (qbC), (wrap64 (qdE + 1)), qay, qay, qay, H', ⟨by have := HK1.1; have := HJ4.1; omega⟩, ⟨qkq⟩, ⟨qao⟩⟩
     rw [if_neg c16] at H; have c16b0 : ((bt a0 qdE) == 58) = false := beq_eq_false_iff_ne.mpr c16; have c16b1 : ((bt a0 qdE) != 58) = true := bne_iff_ne.mpr c16; by_cases c18 : (bt a0 qdE) ≥ 48; rotate_left
     ·rw [if_neg c18] at H; have qra : decide (48 ≤ (bt a0 qdE)) = false := decide_eq_false c18; clear c18; have H' := ak_ H; clear H; have p15 : 0 ≤ (qdE : Int) := of_decide_eq_true qaL; have q15 : qdE < (a0.size : Int) := of_decide_eq_true qaL; have hx15 := qeu a0 qdE; replace p15 := eq_true p15; replace q15 := eq_true q15; have p17 : 0 ≤ (qdE : Int) := of_decide_eq_true qaL; have q17 : qdE < (a0.size : Int) := of_decide_eq_true qaL; have hx17 := qeu a0 qdE; replace p17 := eq_true p17; replace q17 := eq_true q17; go_wp2
      go_roundg kj4
      case measure => have := HK1.1; have := HJ4.1; omega
      case rel => exact ⟨(qcP), (qbC), (qdq), (wrap64 (qdE + 1)), qay, qay, qay, H', ⟨by have := HK1.1; have := HJ4.1; omega⟩, ⟨qkq⟩, ⟨qao⟩⟩
     rw [if_pos c18] at H; have qra : decide (48 ≤ (bt a0 qdE)) = true := decide_eq_true c18; clear c18; by_cases c20 : (bt a0 qdE) ≤ 57; rotate_left
     ·rw [if_neg c20] at H; have c20b0 := decide_eq_false c20; clear c20; have H' := ak_ H; clear H; have p15 : 0 ≤ (qdE : Int) := of_decide_eq_true qaL; have q15 : qdE < (a0.size : Int) := of_decide_eq_true qaL; have hx15 := qeu a0 qdE; replace p15 := eq_true p15; replace q15 := eq_true q15; have p17 : 0 ≤ (qdE : Int) := of_decide_eq_true qaL; have q17 : qdE < (a0.size : Int) := of_decide_eq_true qaL; have hx17 := qeu a0 qdE; replace p17 := eq_true p17; replace q17 := eq_true q17; have p19 : 0 ≤ (qdE : Int) := of_decide_eq_true qaL; have q19 : qdE < (a0.size : Int) := of_decide_eq_true qaL; have hx19 := qeu a0 qdE; replace p19 := eq_true p19; replace q19 := eq_true q19; go_wp2
      go_roundg kj4
      case measure => have := HK1.1; have := HJ4.1; omega
      case rel => exact ⟨(qcP), (qbC), (qdq), (wrap64 (qdE + 1)), qay, qay, qay, H', ⟨by have := HK1.1; have := HJ4.1; omega⟩, ⟨qkq⟩, ⟨qao⟩⟩
     rw [if_pos c20] at H; have c20b0 := decide_eq_true c20; clear c20; obtain ⟨qg0, A22, H⟩ := qaB H; (try dsimp only at H); have H' := ak_ H; clear H; have p15 : 0 ≤ (qdE : Int) := of_decide_eq_true qaL; have q15 : qdE < (a0.size : Int) := of_decide_eq_true qaL; have hx15 := qeu a0 qdE; replace p15 := eq_true p15; replace q15 := eq_true q15; have p17 : 0 ≤ (qdE : Int) := of_decide_eq_true qaL; have q17 : qdE < (a0.size : Int) := of_decide_eq_true qaL; have hx17 := qeu a0 qdE; replace p17 := eq_true p17; replace q17 := eq_true q17; have p19 : 0 ≤ (qdE : Int) := of_decide_eq_true qaL; have q19 : qdE < (a0.size : Int) := of_decide_eq_true qaL; have hx19 := qeu a0 qdE; replace p19 := eq_true p19; replace q19 := eq_true q19; have p21 : 0 ≤ (qdE : Int) := of_decide_eq_true qaL; have q21 : qdE < (a0.size : Int) := of_decide_eq_true qaL; have hx21 := qeu a0 qdE; replace p21 := eq_true p21; replace q21 := eq_true q21
     go_wp2_with (first | (refine gl_ 61 Tryz.func206 #[.int .i64 1000, .int .i64 (wrap64 ((wrap64 (10 * qbC)) + (((bt a0 qdE) - 48) % 256)))] rfl qbJ ?_; (with_reducible refine (qfp.calls 1000 (wrap64 ((wrap64 (10 * qbC)) + (((bt a0 qdE) - 48) % 256))) qg0 _ A22.1).mono ?_); rintro e w' ⟨rfl, ⟨nd, rfl⟩⟩; refine ⟨_, rfl, ?_⟩))
     go_roundg kj4
     case measure => have := HK1.1; have := HJ4.1; omega
     case rel => exact ⟨(qcP), (qg0), (qdq), (wrap64 (qdE + 1)), qay, qay, qay, H', ⟨by have := HK1.1; have := HJ4.1; omega⟩, ⟨qkq⟩, ⟨qao⟩⟩
def qbB.f (k : Nat) (a0 : ByteArray) : Option ((List (qac)) × Bool) := (qaK.f k a0).bind fun qdw => (if qdw.2 = true then (some (qdw.1, true)) else (some (([] : List (qac)), false)))
theorem qbB.calls (k : Nat) (a0 : ByteArray) (r1 : List (qac)) (r2 : Bool) (w : World) (h : qbB.f k a0 = some (r1, r2)) :
  Calls Tryz.prog 96 #[.string a0] w fun e w' => ∃ v0_ : Value, e = .returned (.tuple #[v0_, .bool r2]) ∧ Kd.R qaG 85 w' w.heap.size (fun _ => True) v0_ r1 ∧ Below w.heap.size w w' := by
 have HB := br_ w; have H : ((qaK.f k a0).bind fun qdw => (if qdw.2 = true then (some (qdw.1, true)) else (some (([] : List (qac)), false)))) = some (r1, r2) := h; clear h; obtain ⟨⟨qav, qaQ⟩, A2, H⟩ := qaB H; (try dsimp only at H); by_cases c3 : qaQ = true
 ·subst c3; rw [if_pos rfl] at H; obtain ⟨rfl, rfl⟩ := qdQ H; go_enter Tryz.func96, Tryz.ntmps96
  go_wp2_with (first | (refine gl_ 8 Tryz.func151 #[.string a0] rfl qbJ ?_; (with_reducible refine (qaK.calls k a0 qav true _ A2.1).mono ?_); rintro e w4 ⟨qht, rfl, ho0, hb⟩; refine ⟨_, rfl, ?_⟩; have qbZ := ak_ (Kd.qaw ho0 (qab qao)); replace HB := HB.mw hb; (try clear hb ho0)))
  go_ret2
  exact ⟨_, qca, k63_, qao⟩
 replace c3 := Bool.eq_false_iff.mpr c3; subst c3; rw [if_neg ff_] at H; obtain ⟨rfl, rfl⟩ := qdQ H; go_enter Tryz.func96, Tryz.ntmps96
 go_wp2_with (first | (refine gl_ 8 Tryz.func151 #[.string a0] rfl qbJ ?_; (with_reducible refine (qaK.calls k a0 qav false _ A2.1).mono ?_); rintro e w5 ⟨qht, rfl, ho0, hb⟩; refine ⟨_, rfl, ?_⟩; have qbZ := ak_ (Kd.qaw ho0 (qab qao)); replace HB := HB.mw hb; (try clear hb ho0)))
 go_ret2
 exact ⟨_, qca, qhg, qao⟩
theorem qnO (g n c : Nat) (hn : 0 < n) (hc : n ≤ c) : ∃ A2 : Addr, (∀ W : World, (Instr.slice 43 (.slice (some ⟨g, 0, none⟩) n c) (some (.int .i64 1)) none none).run Tryz.prog W = .ok (.slice (some A2) (n - 1) (c - 1)) W) ∧ (1 < n → A2 = ⟨g, 1, none⟩) := by
  obtain ⟨i0_, qoK, _, hsz_, _⟩ := info_parts qm1; have h := qkn (P := Tryz.prog) 43 9 .i64 Tryz.underlying43 qoK 1 hsz_ (some ⟨g, 0, none⟩) n c 1 (by omega) (by omega); by_cases hc1 : c = 1
  ·exact ⟨⟨g, 0, none⟩, fun W => by rw [h W, if_pos (by omega)]; rfl, fun h_ => by omega⟩
  exact ⟨⟨g, 1, none⟩, fun W => by rw [h W, if_neg (by omega)]; rfl, fun _ => rfl⟩
def qhP (k : Nat) (c : Cmd) (t : List ByteArray) : Option (Option (Cmd × List qac × ByteArray × Int)) := if t.length = c.kind.length then (match c.kind, t with
  | [], _ => some (some (c, [], ⟨#[]⟩, 0))
  | 110 :: _, y :: _ => (qaW.f k y).bind fun n => if n ≥ 0 then some (some (c, [], ⟨#[]⟩, n)) else some none
  | 114 :: _, y :: _ => (qbB.f k y).bind fun q => if q.2 = true then some (some (c, q.1, ⟨#[]⟩, 0)) else some none
  | _, y :: _ => some (some (c, [], y, 0))
  | _, [] => none) else some none
def qgv.f (k : Nat) (s : ByteArray) : Option (Option (Cmd × List qac × ByteArray × Int)) := (qbj.f k s 32).bind fun ws => if ws.length ≤ 1048577 then (match ws with
  | [] => none
  | x :: t => match qhO x with
    | none => some none
    | some c => qhP k c t) else none
theorem qhQ (k : Nat) (A0 : Option Addr) (c0 : Nat) (rs : List qac) (mo : Int) (s : ByteArray) (r : Option (Cmd × List qac × ByteArray × Int)) (w : World) (h : qgv.f k s = some r) :
    Calls Tryz.prog 62 #[.agg #[.slice A0 rs.length c0, .int .i64 mo], .string s] w fun e w' => ∃ (x : ByteArray) (A1 : Option Addr) (n1 c1 : Nat) (tx : ByteArray) (n : Int) (b : Bool), e = .returned (.tuple #[.string x, .agg #[.slice A0 rs.length c0, .int .i64 mo, .slice A1 n1 c1, .string tx, .int .i64 n], .bool b]) ∧ ((r = none ∧ b = false) ∨ (∃ c lr, r = some (c, lr, tx, n) ∧ b = true ∧ x = c.word ∧ n1 = lr.length ∧ Kd.R qaG 85 w' w.heap.size (fun _ => True) (.slice A1 lr.length c1) lr)) ∧ Below w.heap.size w w' := by
  have hu := Tryz.underlying81; have hu2 := Tryz.underlying28; have HB := br_ w; unfold qgv.f at h; obtain ⟨ws, A1, h⟩ := qaB h; by_cases hwm : ws.length ≤ 1048577; rotate_left
  · rw [if_neg hwm] at h
    exact absurd h (by simp)
  rw [if_pos hwm] at h
  cases hw0 : ws with
  | nil => rw [hw0] at h; exact absurd h (by simp)
  | cons x0 t =>
    rw [hw0] at h; dsimp only at h
    have hwr_ : wrap64 ((ws.length : Int) - 1) = (ws.length : Int) - 1 := by unfold wrap64; omega
    have hwi_ : IntKind.i64.wrap ((ws.length : Int) - 1) = (ws.length : Int) - 1 := by rw [qec]; exact hwr_
    have HWP := ak_ (show 0 < ws.length from by rw [hw0]; simp)
    have hlt0 : (0 : Int) < (ws.length : Int) := by have := HWP.1; omega
    have HX0 := ak_ (show ws[0]? = some x0 from by rw [hw0]; rfl)
    have hwl : ws.length = t.length + 1 := by rw [hw0]; rfl
    have HWL := ak_ (show ws.length - 1 = t.length from by omega); have HXT := ak_ (show ∀ y, t = [y] → ws[1]? = some y from fun y hy => by rw [hw0, hy]; rfl)
    obtain ⟨sh, hsh, hshc⟩ : ∃ sh, qe3.f x0 = some sh ∧ ((qhO x0 = none ∧ sh = ⟨#[63]⟩ ∧ r = none) ∨ ∃ c, qhO x0 = some c ∧ sh = ⟨c.kind.toArray⟩ ∧ qhP k c t = some r) := by
      unfold qe3.f
      cases hc : qhO x0 with
      | none => rw [hc] at h; exact ⟨_, rfl, .inl ⟨rfl, rfl, (Option.some.inj h).symm⟩⟩
      | some c => rw [hc] at h; exact ⟨_, rfl, .inr ⟨c, rfl, rfl, h⟩⟩
    have HSH := ak_ hsh
    have hszk : ∀ c : Cmd, (⟨c.kind.toArray⟩ : ByteArray).size = c.kind.length := fun c => by simp [ByteArray.size]
    clear h hsh hw0 hwm; by_cases hle : sh.size = t.length; rotate_left
    ·have hlb : ((sh.size : Int) != wrap64 ((ws.length : Int) - 1)) = true := by rw [hwr_]; exact bne_iff_ne.2 (by omega)
     have hlb2 : ((sh.size : Int) != (ws.length : Int) - 1) = true := bne_iff_ne.2 (by omega)
     have hlc : ((sh.size : Int) == wrap64 ((ws.length : Int) - 1)) = false := by rw [hwr_]; exact beq_eq_false_iff_ne.2 (by omega)
     have HRN := ak_ (show r = none from by
       rcases hshc with ⟨-, -, h_⟩ | ⟨c, -, e_, h_⟩
       ·exact h_
       unfold qhP at h_; rw [if_neg (fun e2_ => hle (by rw [e_, hszk, e2_]))] at h_
       exact (Option.some.inj h_).symm)
     clear hle hshc hwr_ hwi_ hwl; go_enter Tryz.func62, Tryz.ntmps62
     go_wp2_with (first | ((with_reducible refine qam (N := 2) rfl ?_); (try (refine qbN (by rfl) ?_; dsimp only)); refine qdP ?hg (N := 2) ?hd (cs := #[.slice A0 rs.length c0, .int .i64 mo]) (t := 28) ?hr ?_; (case hd => rfl); (case hg => rfl); (case hr => first | (go_simp; done) | (go_simp; rfl)); intro g2 hg w2 hbox hb; have B2 := ak_ hbox; replace HB := ak_ (qaa (by apply_rules only [HB.1, qal, qaf, qah]) hb); obtain ⟨qqx, qqn⟩ := qcx B2.1; have qqy := qbA B2.1; have qqo := qae B2.1 1; clear hb hbox hg) | ((with_reducible refine qam (N := 5) rfl ?_); (try (refine qbN (by rfl) ?_; dsimp only)); refine qdP ?hg (N := 5) ?hd (cs := #[(.slice none 0 0), (.int .i64 0), (.slice none 0 0), (.string (⟨#[]⟩ : ByteArray)), (.int .i64 0)]) (t := 81) ?hr ?_; (case hd => rfl); (case hg => rfl); (case hr => first | (go_simp; done) | (go_simp; rfl)); intro g5 hg w5 hbox hb; have B5 := ak_ hbox; have G5 := ak_ (show w.heap.size ≤ g5 from by rw [hg]; exact qab (by apply_rules only [HB.1, qal, qaf, qah])); replace B2 := B2.mw hb; replace HB := ak_ (qaa (by apply_rules only [HB.1, qal, qaf, qah]) hb); obtain ⟨haw5_0, faw5_0⟩ := qcx B2.1; have haw5_1 := qbA B2.1; have faw5_1 := qae B2.1 1; clear hb hbox hg) | ((with_reducible refine qam (N := 7) rfl ?_); (try (refine qbN (by rfl) ?_; dsimp only)); refine qdP ?hg (N := 7) ?hd (cs := #[(.slice none 0 0), (.int .i64 0), (.slice none 0 0), (.string (⟨#[]⟩ : ByteArray)), (.int .i64 0)]) (t := 81) ?hr ?_; (case hd => rfl); (case hg => rfl); (case hr => first | (go_simp; done) | (go_simp; rfl)); intro g7 hg w7 hbox hb; have B7 := ak_ hbox; have G7 := ak_ (show w.heap.size ≤ g7 from by rw [hg]; exact qab (by apply_rules only [HB.1, qal, qaf, qah])); have NE := ak_ (show g5 ≠ g7 from by rw [hg]; exact Nat.ne_of_lt (qd2 (by apply_rules only [B5.1, qaj, qak, qag]))); replace B5 := B5.mw hb; replace HB := ak_ (qaa (by apply_rules only [HB.1, qal, qaf, qah]) hb); obtain ⟨qqz, qqp⟩ := qcx B7.1; have qqA := qbA B7.1; have qqq := qae B7.1 1; have qqB := qfx B7.1; have qqr := qae B7.1 2; have qqC := qfF B7.1; have qqs := qae B7.1 3; have qqD := qfG B7.1; have qqt := qae B7.1 4; clear hb hbox hg) | ((with_reducible refine qdc (f := 39) rfl ?_); (try (refine qbN (by rfl) ?_; dsimp only)); refine qgi (some 16) rfl rfl Tryz.func39 (by kernel_rfl) rfl #[.string s, .int .u8 32] rfl (by (try simp only [List.map_toArray, List.map_cons, List.map_nil]); first | done | rfl) ?_; (refine (qbj.calls k s 32 ws _ A1.1).mono ?_); rintro e w16 ⟨vw, rfl, how, hb⟩; refine ⟨_, rfl, ?_⟩; have hW := qaa (w := w) (by with_reducible repeat (first | exact HB.1 | refine qat ?_ G7.1 | apply qal | apply qaf | apply qah)) hb; have HW := ak_ (Kd.qaw how (qab (w := w) (by with_reducible repeat (first | exact HB.1 | refine qat ?_ G7.1 | apply qal | apply qaf | apply qah)))); have B7_ := ak_ (show w16.heap[g7]? = some (.cells #[(.slice A0 rs.length c0), (.int .i64 mo), (.slice none 0 0), (.string (⟨#[]⟩ : ByteArray)), (.int .i64 0)] 81 (0, 0)) from qap (by apply ho_; (with_reducible repeat (first | exact B7.1 | refine qaj ?_ _ | refine qak ?_ | refine qag ?_ _ | apply qeN)); rfl) hb); have B5_ := ak_ (show w16.heap[g5]? = some (.cells #[(.slice none 0 0), (.int .i64 0), (.slice none 0 0), (.string (⟨#[]⟩ : ByteArray)), (.int .i64 0)] 81 (0, 0)) from qap (by (with_reducible repeat (first | refine qaj ?_ _ | refine qak ?_ | refine qag ?_ _ | refine qce ?_ (by exact NE.1) _)); exact B5.1) hb); clear B7 B5 B2 HB; have B7 := B7_; have B5 := B5_; have HB := ak_ hW; clear B7_ B5_ hW hb how; obtain ⟨gw, cw, ew, -⟩ := Kd.qe8 HW.1 HWP.1; subst ew; obtain ⟨A2, hcut_, hA2_⟩ := qnO gw ws.length cw HWP.1 (Kd.qan HW.1).2.1; rw [HWL.1] at hcut_; have HA2 := ak_ hA2_; clear hA2_; obtain ⟨hbw16_0, fbw16_0⟩ := qcx B7.1; have hbw16_1 := qbA B7.1; have fbw16_1 := qae B7.1 1; have hbw16_2 := qfx B7.1; have fbw16_2 := qae B7.1 2; have hbw16_3 := qfF B7.1; have fbw16_3 := qae B7.1 3; have hbw16_4 := qfG B7.1; have fbw16_4 := qae B7.1 4; obtain ⟨hzw16_0, fzw16_0⟩ := qcx B5.1; have hzw16_1 := qbA B5.1; have fzw16_1 := qae B5.1 1; have hzw16_2 := qfx B5.1; have fzw16_2 := qae B5.1 2; have hzw16_3 := qfF B5.1; have fzw16_3 := qae B5.1 3; have hzw16_4 := qfG B5.1; have fzw16_4 := qae B5.1 4; have hsw16_0 : w16.cell? ⟨gw, 0, none⟩ = some (.string x0) := qcR HW.1 0 x0 HX0.1) | ((with_reducible refine qdc (f := 94) rfl ?_); (try (refine qbN (by rfl) ?_; dsimp only)); refine qgi (some 20) rfl rfl Tryz.func94 (by kernel_rfl) rfl #[.string x0] rfl (by (try simp only [List.map_toArray, List.map_cons, List.map_nil]); first | done | rfl) ?_; (refine (qe3.calls x0 sh _ HSH.1).mono ?_); rintro e w20 ⟨rfl, hb⟩; refine ⟨_, rfl, ?_⟩; replace HW := HW.mw hb; replace B7 := B7.mw hb; replace B5 := B5.mw hb; replace HB := ak_ (qaa (by apply_rules only [HB.1, qal, qaf, qah]) hb); obtain ⟨hbw20_0, fbw20_0⟩ := qcx B7.1; have hbw20_1 := qbA B7.1; have fbw20_1 := qae B7.1 1; have hbw20_2 := qfx B7.1; have fbw20_2 := qae B7.1 2; have hbw20_3 := qfF B7.1; have fbw20_3 := qae B7.1 3; have hbw20_4 := qfG B7.1; have fbw20_4 := qae B7.1 4; obtain ⟨hzw20_0, fzw20_0⟩ := qcx B5.1; have hzw20_1 := qbA B5.1; have fzw20_1 := qae B5.1 1; have hzw20_2 := qfx B5.1; have fzw20_2 := qae B5.1 2; have hzw20_3 := qfF B5.1; have fzw20_3 := qae B5.1 3; have hzw20_4 := qfG B5.1; have fzw20_4 := qae B5.1 4; have hsw20_0 : w20.cell? ⟨gw, 0, none⟩ = some (.string x0) := qcR HW.1 0 x0 HX0.1; clear hb))
     go_region; all_goals (go_wp2; refine bodyPost_ret (qb8 (rs := [.tmp 4, .cell 5 81, .tmp 6]) rfl (by simp) (.tmp (.cell g5 81 #[(.slice A0 rs.length c0), (.int .i64 mo), (.slice none 0 0), (.string (⟨#[]⟩ : ByteArray)), (.int .i64 0)] (0, 0) _ rfl (by apply ho_; (with_reducible repeat (first | exact B5.1 | refine qaj ?_ _ | refine qak ?_ | refine qag ?_ _ | apply qeN)); rfl) Tryz.underlying81 rfl (by kernel_rfl) (.tmp .nil)))) rfl ?_; exact ⟨_, _, _, _, _, _, _, rfl, .inl ⟨HRN.1, rfl⟩, (by with_reducible repeat (first | exact HB.1 | refine qat ?_ G5.1 | refine qat ?_ G7.1 | apply qal | apply qaf | apply qah))⟩)
    have hlb : ((sh.size : Int) != wrap64 ((ws.length : Int) - 1)) = false := by rw [hwr_]; exact bne_eq_false_iff_eq.2 (by omega)
    have hlb2 : ((sh.size : Int) != (ws.length : Int) - 1) = false := bne_eq_false_iff_eq.2 (by omega); have hlc : ((sh.size : Int) == (ws.length : Int) - 1) = true := beq_iff_eq.2 (by omega); have HSC := ak_ hshc; have HLE := ak_ hle; clear hle hshc hwl hwr_ hwi_; go_enter Tryz.func62, Tryz.ntmps62
    go_wp2_with (first | ((with_reducible refine qam (N := 2) rfl ?_); (try (refine qbN (by rfl) ?_; dsimp only)); refine qdP ?hg (N := 2) ?hd (cs := #[.slice A0 rs.length c0, .int .i64 mo]) (t := 28) ?hr ?_; (case hd => rfl); (case hg => rfl); (case hr => first | (go_simp; done) | (go_simp; rfl)); intro g2 hg w2 hbox hb; have B2 := ak_ hbox; replace HB := ak_ (qaa (by apply_rules only [HB.1, qal, qaf, qah]) hb); obtain ⟨qqx, qqn⟩ := qcx B2.1; have qqy := qbA B2.1; have qqo := qae B2.1 1; clear hb hbox hg) | ((with_reducible refine qam (N := 5) rfl ?_); (try (refine qbN (by rfl) ?_; dsimp only)); refine qdP ?hg (N := 5) ?hd (cs := #[(.slice none 0 0), (.int .i64 0), (.slice none 0 0), (.string (⟨#[]⟩ : ByteArray)), (.int .i64 0)]) (t := 81) ?hr ?_; (case hd => rfl); (case hg => rfl); (case hr => first | (go_simp; done) | (go_simp; rfl)); intro g5 hg w5 hbox hb; have B5 := ak_ hbox; have G5 := ak_ (show w.heap.size ≤ g5 from by rw [hg]; exact qab (by apply_rules only [HB.1, qal, qaf, qah])); replace B2 := B2.mw hb; replace HB := ak_ (qaa (by apply_rules only [HB.1, qal, qaf, qah]) hb); obtain ⟨haw5_0, faw5_0⟩ := qcx B2.1; have haw5_1 := qbA B2.1; have faw5_1 := qae B2.1 1; clear hb hbox hg) | ((with_reducible refine qam (N := 7) rfl ?_); (try (refine qbN (by rfl) ?_; dsimp only)); refine qdP ?hg (N := 7) ?hd (cs := #[(.slice none 0 0), (.int .i64 0), (.slice none 0 0), (.string (⟨#[]⟩ : ByteArray)), (.int .i64 0)]) (t := 81) ?hr ?_; (case hd => rfl); (case hg => rfl); (case hr => first | (go_simp; done) | (go_simp; rfl)); intro g7 hg w7 hbox hb; have B7 := ak_ hbox; have G7 := ak_ (show w.heap.size ≤ g7 from by rw [hg]; exact qab (by apply_rules only [HB.1, qal, qaf, qah])); have NE := ak_ (show g5 ≠ g7 from by rw [hg]; exact Nat.ne_of_lt (qd2 (by apply_rules only [B5.1, qaj, qak, qag]))); replace B5 := B5.mw hb; replace HB := ak_ (qaa (by apply_rules only [HB.1, qal, qaf, qah]) hb); obtain ⟨qqz, qqp⟩ := qcx B7.1; have qqA := qbA B7.1; have qqq := qae B7.1 1; have qqB := qfx B7.1; have qqr := qae B7.1 2; have qqC := qfF B7.1; have qqs := qae B7.1 3; have qqD := qfG B7.1; have qqt := qae B7.1 4; clear hb hbox hg) | ((with_reducible refine qdc (f := 39) rfl ?_); (try (refine qbN (by rfl) ?_; dsimp only)); refine qgi (some 16) rfl rfl Tryz.func39 (by kernel_rfl) rfl #[.string s, .int .u8 32] rfl (by (try simp only [List.map_toArray, List.map_cons, List.map_nil]); first | done | rfl) ?_; (refine (qbj.calls k s 32 ws _ A1.1).mono ?_); rintro e w16 ⟨vw, rfl, how, hb⟩; refine ⟨_, rfl, ?_⟩; have hW := qaa (w := w) (by with_reducible repeat (first | exact HB.1 | refine qat ?_ G7.1 | apply qal | apply qaf | apply qah)) hb; have HW := ak_ (Kd.qaw how (qab (w := w) (by with_reducible repeat (first | exact HB.1 | refine qat ?_ G7.1 | apply qal | apply qaf | apply qah)))); have B7_ := ak_ (show w16.heap[g7]? = some (.cells #[(.slice A0 rs.length c0), (.int .i64 mo), (.slice none 0 0), (.string (⟨#[]⟩ : ByteArray)), (.int .i64 0)] 81 (0, 0)) from qap (by apply ho_; (with_reducible repeat (first | exact B7.1 | refine qaj ?_ _ | refine qak ?_ | refine qag ?_ _ | apply qeN)); rfl) hb); have B5_ := ak_ (show w16.heap[g5]? = some (.cells #[(.slice none 0 0), (.int .i64 0), (.slice none 0 0), (.string (⟨#[]⟩ : ByteArray)), (.int .i64 0)] 81 (0, 0)) from qap (by (with_reducible repeat (first | refine qaj ?_ _ | refine qak ?_ | refine qag ?_ _ | refine qce ?_ (by exact NE.1) _)); exact B5.1) hb); clear B7 B5 B2 HB; have B7 := B7_; have B5 := B5_; have HB := ak_ hW; clear B7_ B5_ hW hb how; obtain ⟨gw, cw, ew, -⟩ := Kd.qe8 HW.1 HWP.1; subst ew; obtain ⟨A2, hcut_, hA2_⟩ := qnO gw ws.length cw HWP.1 (Kd.qan HW.1).2.1; rw [HWL.1] at hcut_; have HA2 := ak_ hA2_; clear hA2_; obtain ⟨hbw16_0, fbw16_0⟩ := qcx B7.1; have hbw16_1 := qbA B7.1; have fbw16_1 := qae B7.1 1; have hbw16_2 := qfx B7.1; have fbw16_2 := qae B7.1 2; have hbw16_3 := qfF B7.1; have fbw16_3 := qae B7.1 3; have hbw16_4 := qfG B7.1; have fbw16_4 := qae B7.1 4; obtain ⟨hzw16_0, fzw16_0⟩ := qcx B5.1; have hzw16_1 := qbA B5.1; have fzw16_1 := qae B5.1 1; have hzw16_2 := qfx B5.1; have fzw16_2 := qae B5.1 2; have hzw16_3 := qfF B5.1; have fzw16_3 := qae B5.1 3; have hzw16_4 := qfG B5.1; have fzw16_4 := qae B5.1 4; have hsw16_0 : w16.cell? ⟨gw, 0, none⟩ = some (.string x0) := qcR HW.1 0 x0 HX0.1) | ((with_reducible refine qdc (f := 94) rfl ?_); (try (refine qbN (by rfl) ?_; dsimp only)); refine qgi (some 20) rfl rfl Tryz.func94 (by kernel_rfl) rfl #[.string x0] rfl (by (try simp only [List.map_toArray, List.map_cons, List.map_nil]); first | done | rfl) ?_; (refine (qe3.calls x0 sh _ HSH.1).mono ?_); rintro e w20 ⟨rfl, hb⟩; refine ⟨_, rfl, ?_⟩; replace HW := HW.mw hb; replace B7 := B7.mw hb; replace B5 := B5.mw hb; replace HB := ak_ (qaa (by apply_rules only [HB.1, qal, qaf, qah]) hb); obtain ⟨hbw20_0, fbw20_0⟩ := qcx B7.1; have hbw20_1 := qbA B7.1; have fbw20_1 := qae B7.1 1; have hbw20_2 := qfx B7.1; have fbw20_2 := qae B7.1 2; have hbw20_3 := qfF B7.1; have fbw20_3 := qae B7.1 3; have hbw20_4 := qfG B7.1; have fbw20_4 := qae B7.1 4; obtain ⟨hzw20_0, fzw20_0⟩ := qcx B5.1; have hzw20_1 := qbA B5.1; have fzw20_1 := qae B5.1 1; have hzw20_2 := qfx B5.1; have fzw20_2 := qae B5.1 2; have hzw20_3 := qfF B5.1; have fzw20_3 := qae B5.1 3; have hzw20_4 := qfG B5.1; have fzw20_4 := qae B5.1 4; have hsw20_0 : w20.cell? ⟨gw, 0, none⟩ = some (.string x0) := qcR HW.1 0 x0 HX0.1; clear hb))
    go_loopg [31] 2 (fun kq v31 w' => ∃ (i : Int) (A1_ : Option Addr) (c1 : Nat) (lr : List qac) (tx : ByteArray) (n : Int), v31 = .int .i64 i ∧ qai ((i = 0 ∧ lr = [] ∧ tx = ⟨#[]⟩ ∧ n = 0) ∨ (i = 1 ∧ t.length = 1 ∧ ∃ c, qhO x0 = some c ∧ r = some (c, lr, tx, n))) ∧ qai (2 - i.toNat ≤ kq) ∧ qai (Kd.R qaG 85 w' w.heap.size (fun _ => True) (.slice A1_ lr.length c1) lr) ∧ qai (Kd.R Kd.string 9 w' w.heap.size (fun _ => True) (.slice (some ⟨gw, 0, none⟩) ws.length cw) ws) ∧ qai (w'.heap[g7]? = some (.cells #[(.slice A0 rs.length c0), (.int .i64 mo), (.slice A1_ lr.length c1), (.string tx), (.int .i64 n)] 81 (0, 0))) ∧ qai (w'.heap[g5]? = some (.cells #[(.slice none 0 0), (.int .i64 0), (.slice none 0 0), (.string (⟨#[]⟩ : ByteArray)), (.int .i64 0)] 81 (0, 0))) ∧ qai (Below w.heap.size w w'))
    case atStart => exact ⟨0, none, 0, [], ⟨#[]⟩, 0, rfl, ⟨.inl ⟨rfl, rfl, rfl, rfl⟩⟩, ⟨by decide⟩, ⟨Kd.qf2 _ _ _ _ _⟩, HW, B7, B5, HB⟩
    case round =>
      clear HW B7 B5 HB; obtain ⟨i, A1_, c1, lr, tx, n, rfl, HI, HK1, HL, HW, B7, B5, HB⟩ := hrel; obtain ⟨hbwr_0, fbwr_0⟩ := qcx B7.1; have hbwr_1 := qbA B7.1; have fbwr_1 := qae B7.1 1; have hbwr_2 := qfx B7.1; have fbwr_2 := qae B7.1 2; have hbwr_3 := qfF B7.1; have fbwr_3 := qae B7.1 3; have hbwr_4 := qfG B7.1; have fbwr_4 := qae B7.1 4; obtain ⟨hzwr_0, fzwr_0⟩ := qcx B5.1; have hzwr_1 := qbA B5.1; have fzwr_1 := qae B5.1 1; have hzwr_2 := qfx B5.1; have fzwr_2 := qae B5.1 2; have hzwr_3 := qfF B5.1; have fzwr_3 := qae B5.1 3; have hzwr_4 := qfG B5.1; have fzwr_4 := qae B5.1 4; have hswr_0 : wr.cell? ⟨gw, 0, none⟩ = some (.string x0) := qcR HW.1 0 x0 HX0.1; by_cases hit : i < (t.length : Int); rotate_left
      ·have hlt := decide_eq_false hit
       obtain ⟨c, HCM, HRV⟩ : ∃ c, qai (qhO x0 = some c) ∧ qai (r = some (c, lr, tx, n)) := by
         rcases HI.1 with ⟨rfl, hlr, htx, hn⟩ | ⟨rfl, ht1, c, hcm, hr⟩
         ·have ht : t.length = 0 := by omega
          rcases HSC.1 with ⟨-, e_, -⟩ | ⟨c, h1_, e_, h2_⟩
          ·have h3_ := HLE.1; rw [e_, ht] at h3_; exact absurd h3_ (by decide)
          have h3_ := HLE.1; rw [e_, hszk, ht] at h3_; refine ⟨c, ⟨h1_⟩, ⟨?_⟩⟩; unfold qhP at h2_; rw [if_pos (by rw [ht, h3_]), List.length_eq_zero_iff.1 h3_] at h2_; rw [hlr, htx, hn]; exact (Option.some.inj h2_).symm
         exact ⟨c, ⟨hcm⟩, ⟨hr⟩⟩
       clear hit; have HRT_ := ak_ (Kd.qcc HL.1 B5.1 (by decide)); clear fbwr_0 fbwr_1 fbwr_2 fbwr_3 fbwr_4 HI HSC HLE HA2 HXT HX0 HWL; go_wp2; clear hcut_
       go_region
       all_goals (go_wp2; refine bodyPost_ret (qb8 (rs := [.tmp 4, .cell 5 81, .tmp 6]) rfl (by simp) (.tmp (.cell g5 81 #[(.slice A0 rs.length c0), (.int .i64 mo), (.slice A1_ lr.length c1), (.string tx), (.int .i64 n)] (0, 0) _ rfl (by apply ho_; (with_reducible repeat (first | exact B5.1 | refine qaj ?_ _ | refine qak ?_ | refine qag ?_ _ | apply qeN)); rfl) Tryz.underlying81 rfl (by kernel_rfl) (.tmp .nil)))) rfl ?_; exact ⟨_, _, _, _, _, _, _, rfl, .inr ⟨c, lr, HRV.1, rfl, qh2 HCM.1, rfl, (Kd.qa2 (ok := fun k_ => True ∧ k_ ≠ g5) (by with_reducible repeat (first | exact HRT_.1 | apply Kd.qaq | apply Kd.qar | apply Kd.qax | refine Kd.qco ?_ (fun _ hk => hk.2) _)) (fun _ _ => trivial))⟩, (by with_reducible repeat (first | exact HB.1 | refine qat ?_ G5.1 | refine qat ?_ G7.1 | apply qal | apply qaf | apply qah))⟩)
      obtain ⟨rfl, hlr, htx, hn⟩ : i = 0 ∧ lr = [] ∧ tx = ⟨#[]⟩ ∧ n = 0 := by
        rcases HI.1 with h_ | ⟨rfl, ht1, -⟩
        ·exact h_
        omega
      have ht : ¬ t.length = 0 := by omega
      clear hit; have hne57 := NE.1
      have hne75 : ¬ g7 = g5 := fun e_ => NE.1 e_.symm
      have hs1_ : sh.size = 1 ∨ sh.size = 0 := by
        rcases HSC.1 with ⟨-, e_, -⟩ | ⟨c, h1_, e_, h2_⟩
        ·exact .inl (by rw [e_]; rfl)
        rcases Cmd.kinds c with h_ | h_ | h_ | h_ <;> rw [e_, hszk, h_] <;> simp
      have ht1 : t.length = 1 := by have := HLE.1; omega
      obtain ⟨y, hy⟩ := List.length_eq_one_iff.1 ht1; have HX1 := ak_ (HXT.1 y hy); obtain rfl := HA2.1 (by have := HWL.1; omega); have hlt : decide ((0 : Int) < (t.length : Int)) = true := decide_eq_true (by omega); have hlu : decide (0 < t.length) = true := decide_eq_true (by omega)
      have hlv : (0 : Int) < (t.length : Int) := by omega
      have hswr_1 : wr.cell? ⟨gw, 1, none⟩ = some (.string y) := qcR HW.1 1 y HX1.1; have HT1 := ak_ ht1
      rcases HSC.1 with ⟨-, rfl, hr⟩ | ⟨c, hcm, e_, h2_⟩
      ·have HRN := ak_ hr; clear hs1_ ht hlr htx hn HSC HLE HI hr hy ht1; go_wp2
       go_region; all_goals (go_wp2; refine bodyPost_ret (qb8 (rs := [.tmp 4, .cell 5 81, .tmp 6]) rfl (by simp) (.tmp (.cell g5 81 #[(.slice A0 rs.length c0), (.int .i64 mo), (.slice A1_ lr.length c1), (.string tx), (.int .i64 n)] (0, 0) _ rfl (by apply ho_; (with_reducible repeat (first | exact B5.1 | refine qaj ?_ _ | refine qak ?_ | refine qag ?_ _ | apply qeN | apply qce (hp := NE.1))); rfl) Tryz.underlying81 rfl (by kernel_rfl) (.tmp .nil)))) rfl ?_; exact ⟨_, _, _, _, _, _, _, rfl, .inl ⟨HRN.1, rfl⟩, (by with_reducible repeat (first | exact HB.1 | refine qat ?_ G5.1 | refine qat ?_ G7.1 | apply qal | apply qaf | apply qah))⟩)
      have HCM := ak_ hcm; have hkl := HLE.1; rw [e_, hszk, ht1] at hkl; unfold qhP at h2_; rw [if_pos (by rw [ht1, hkl]), hy] at h2_
      rcases Cmd.kinds c with hk | hk | hk | hk
      ·rw [hk] at hkl; exact absurd hkl (by decide)
      ·rw [hk] at h2_ e_; obtain rfl : sh = ⟨#[110]⟩ := e_; replace h2_ : ((qaW.f k y).bind fun n => if n ≥ 0 then some (some (c, [], ⟨#[]⟩, n)) else some none) = some r := h2_; obtain ⟨m, AR, h3_⟩ := qaB h2_; by_cases hm : m ≥ 0
       ·rw [if_pos hm] at h3_; have HRV := ak_ (show r = some (c, lr, tx, m) from by rw [hlr, htx]; exact (Option.some.inj h3_).symm); have hmb : decide (0 ≤ m) = true := decide_eq_true hm; clear hs1_ ht hlr htx hn HSC HLE HI hy ht1 hcm h2_ h3_ hk hkl hm
        go_wp2_with (first | ((with_reducible refine qdc (f := 95) rfl ?_); (try (refine qbN (by rfl) ?_; dsimp only)); refine qgi (some 42) rfl rfl Tryz.func95 (by kernel_rfl) rfl #[.string y] rfl (by (try simp only [List.map_toArray, List.map_cons, List.map_nil]); first | done | rfl) ?_; (refine ((qaW.calls k y m _ AR.1)).mono ?_); rintro e w42 ⟨rfl, hd_⟩; refine ⟨_, rfl, ?_⟩; have hb := hd_.below; clear hd_; replace HL := HL.mw hb; replace HW := HW.mw hb; replace B7 := B7.mw hb; replace B5 := B5.mw hb; replace HB := ak_ (qaa (by apply_rules only [HB.1, qal, qaf, qah]) hb); obtain ⟨hbw42_0, fbw42_0⟩ := qcx B7.1; have hbw42_1 := qbA B7.1; have fbw42_1 := qae B7.1 1; have hbw42_2 := qfx B7.1; have fbw42_2 := qae B7.1 2; have hbw42_3 := qfF B7.1; have fbw42_3 := qae B7.1 3; have hbw42_4 := qfG B7.1; have fbw42_4 := qae B7.1 4; obtain ⟨hzw42_0, fzw42_0⟩ := qcx B5.1; have hzw42_1 := qbA B5.1; have fzw42_1 := qae B5.1 1; have hzw42_2 := qfx B5.1; have fzw42_2 := qae B5.1 2; have hzw42_3 := qfF B5.1; have fzw42_3 := qae B5.1 3; have hzw42_4 := qfG B5.1; have fzw42_4 := qae B5.1 4; have hsw42_0 : w42.cell? ⟨gw, 0, none⟩ = some (.string x0) := qcR HW.1 0 x0 HX0.1; have hsw42_1 : w42.cell? ⟨gw, 1, none⟩ = some (.string y) := qcR HW.1 1 y HX1.1; clear hb))
        go_roundg 1
        case measure => have := HK1.1; omega
        case rel => exact ⟨1, A1_, c1, lr, tx, m, rfl, ⟨.inr ⟨rfl, HT1.1, c, HCM.1, HRV.1⟩⟩, ⟨by decide⟩, ⟨(by (with_reducible repeat (first | apply Kd.qaq | apply Kd.qar | apply Kd.qax)); exact Kd.qg2 (by apply_rules only [HL.1, Kd.qaq, Kd.qar, Kd.qax]) (by apply_rules only [B7.1, qaj, qak, qag]) (by decide) 4 _)⟩, ⟨(by (with_reducible repeat (first | apply Kd.qaq | apply Kd.qar | apply Kd.qax)); exact Kd.qg2 (by apply_rules only [HW.1, Kd.qaq, Kd.qar, Kd.qax]) (by apply_rules only [B7.1, qaj, qak, qag]) (by decide) 4 _)⟩, ⟨(by (with_reducible repeat (first | refine qaj ?_ _ | refine qak ?_ | refine qag ?_ _)); refine qa9 (cs := #[(.slice A0 rs.length c0), (.int .i64 mo), (.slice A1_ lr.length c1), (.string tx), (.int .i64 n)]) (cs' := #[(.slice A0 rs.length c0), (.int .i64 mo), (.slice A1_ lr.length c1), (.string tx), (.int .i64 m)]) ?_ 4 _ rfl; (with_reducible repeat (first | refine qaj ?_ _ | refine qak ?_ | refine qag ?_ _)); exact B7.1)⟩, ⟨(by (with_reducible repeat (first | refine qaj ?_ _ | refine qak ?_ | refine qag ?_ _ | refine qce ?_ (by exact NE.1) _)); exact B5.1)⟩, ⟨(by with_reducible repeat (first | exact HB.1 | refine qat ?_ G7.1 | apply qal | apply qaf | apply qah))⟩⟩
       rw [if_neg hm] at h3_; have HRN := ak_ (show r = none from (Option.some.inj h3_).symm); have hmb : decide (0 ≤ m) = false := decide_eq_false hm; clear hs1_ ht hlr htx hn HSC HLE HI hy ht1 hcm h2_ h3_ hk hkl hm
       go_wp2_with (first | ((with_reducible refine qdc (f := 95) rfl ?_); (try (refine qbN (by rfl) ?_; dsimp only)); refine qgi (some 42) rfl rfl Tryz.func95 (by kernel_rfl) rfl #[.string y] rfl (by (try simp only [List.map_toArray, List.map_cons, List.map_nil]); first | done | rfl) ?_; (refine ((qaW.calls k y m _ AR.1)).mono ?_); rintro e w42 ⟨rfl, hd_⟩; refine ⟨_, rfl, ?_⟩; have hb := hd_.below; clear hd_; replace HL := HL.mw hb; replace HW := HW.mw hb; replace B7 := B7.mw hb; replace B5 := B5.mw hb; replace HB := ak_ (qaa (by apply_rules only [HB.1, qal, qaf, qah]) hb); obtain ⟨hbw42_0, fbw42_0⟩ := qcx B7.1; have hbw42_1 := qbA B7.1; have fbw42_1 := qae B7.1 1; have hbw42_2 := qfx B7.1; have fbw42_2 := qae B7.1 2; have hbw42_3 := qfF B7.1; have fbw42_3 := qae B7.1 3; have hbw42_4 := qfG B7.1; have fbw42_4 := qae B7.1 4; obtain ⟨hzw42_0, fzw42_0⟩ := qcx B5.1; have hzw42_1 := qbA B5.1; have fzw42_1 := qae B5.1 1; have hzw42_2 := qfx B5.1; have fzw42_2 := qae B5.1 2; have hzw42_3 := qfF B5.1; have fzw42_3 := qae B5.1 3; have hzw42_4 := qfG B5.1; have fzw42_4 := qae B5.1 4; have hsw42_0 : w42.cell? ⟨gw, 0, none⟩ = some (.string x0) := qcR HW.1 0 x0 HX0.1; have hsw42_1 : w42.cell? ⟨gw, 1, none⟩ = some (.string y) := qcR HW.1 1 y HX1.1; clear hb))
       go_region; all_goals (go_wp2; refine bodyPost_ret (qb8 (rs := [.tmp 4, .cell 5 81, .tmp 6]) rfl (by simp) (.tmp (.cell g5 81 #[(.slice A0 rs.length c0), (.int .i64 mo), (.slice A1_ lr.length c1), (.string tx), (.int .i64 m)] (0, 0) _ rfl (by apply ho_; (with_reducible repeat (first | exact B5.1 | refine qaj ?_ _ | refine qak ?_ | refine qag ?_ _ | apply qeN | apply qce (hp := NE.1))); rfl) Tryz.underlying81 rfl (by kernel_rfl) (.tmp .nil)))) rfl ?_; exact ⟨_, _, _, _, _, _, _, rfl, .inl ⟨HRN.1, rfl⟩, (by with_reducible repeat (first | exact HB.1 | refine qat ?_ G5.1 | refine qat ?_ G7.1 | apply qal | apply qaf | apply qah))⟩)
      ·rw [hk] at h2_ e_; obtain rfl : sh = ⟨#[114]⟩ := e_; replace h2_ : ((qbB.f k y).bind fun q => if q.2 = true then some (some (c, q.1, ⟨#[]⟩, 0)) else some none) = some r := h2_; obtain ⟨⟨lq, okq⟩, AR, h3_⟩ := qaB h2_; dsimp only at h3_
       cases okq with
       | true =>
         rw [if_pos rfl] at h3_; have HRV := ak_ (show r = some (c, lq, tx, n) from by rw [htx, hn]; exact (Option.some.inj h3_).symm); clear hs1_ ht hlr htx hn HSC HLE HI hy ht1 hcm h2_ h3_ hk hkl
         go_wp2_with (first | ((with_reducible refine qdc (f := 96) rfl ?_); (try (refine qbN (by rfl) ?_; dsimp only)); refine qgi (some 51) rfl rfl Tryz.func96 (by kernel_rfl) rfl #[.string y] rfl (by (try simp only [List.map_toArray, List.map_cons, List.map_nil]); first | done | rfl) ?_; (refine (qbB.calls k y lq true _ AR.1).mono ?_); rintro e w51 ⟨vq, rfl, hoq, hb⟩; refine ⟨_, rfl, ?_⟩; have HQ := ak_ (Kd.qaw hoq (qab (by apply_rules only [HB.1, qal, qaf, qah]))); obtain ⟨Aq, cq, eq_⟩ := Kd.qaI HQ.1; subst eq_; clear hoq; replace HL := HL.mw hb; replace HW := HW.mw hb; replace B7 := B7.mw hb; replace B5 := B5.mw hb; replace HB := ak_ (qaa (by apply_rules only [HB.1, qal, qaf, qah]) hb); obtain ⟨hbw51_0, fbw51_0⟩ := qcx B7.1; have hbw51_1 := qbA B7.1; have fbw51_1 := qae B7.1 1; have hbw51_2 := qfx B7.1; have fbw51_2 := qae B7.1 2; have hbw51_3 := qfF B7.1; have fbw51_3 := qae B7.1 3; have hbw51_4 := qfG B7.1; have fbw51_4 := qae B7.1 4; obtain ⟨hzw51_0, fzw51_0⟩ := qcx B5.1; have hzw51_1 := qbA B5.1; have fzw51_1 := qae B5.1 1; have hzw51_2 := qfx B5.1; have fzw51_2 := qae B5.1 2; have hzw51_3 := qfF B5.1; have fzw51_3 := qae B5.1 3; have hzw51_4 := qfG B5.1; have fzw51_4 := qae B5.1 4; have hsw51_0 : w51.cell? ⟨gw, 0, none⟩ = some (.string x0) := qcR HW.1 0 x0 HX0.1; have hsw51_1 : w51.cell? ⟨gw, 1, none⟩ = some (.string y) := qcR HW.1 1 y HX1.1; clear hb))
         go_roundg 1
         case measure => have := HK1.1; omega
         case rel => exact ⟨1, Aq, cq, lq, tx, n, rfl, ⟨.inr ⟨rfl, HT1.1, c, HCM.1, HRV.1⟩⟩, ⟨by decide⟩, ⟨(by (with_reducible repeat (first | apply Kd.qaq | apply Kd.qar | apply Kd.qax)); exact Kd.qg2 (by apply_rules only [HQ.1, Kd.qaq, Kd.qar, Kd.qax]) (by apply_rules only [B7.1, qaj, qak, qag]) (by decide) 2 _)⟩, ⟨(by (with_reducible repeat (first | apply Kd.qaq | apply Kd.qar | apply Kd.qax)); exact Kd.qg2 (by apply_rules only [HW.1, Kd.qaq, Kd.qar, Kd.qax]) (by apply_rules only [B7.1, qaj, qak, qag]) (by decide) 2 _)⟩, ⟨(by (with_reducible repeat (first | refine qaj ?_ _ | refine qak ?_ | refine qag ?_ _)); refine qa9 (cs := #[(.slice A0 rs.length c0), (.int .i64 mo), (.slice A1_ lr.length c1), (.string tx), (.int .i64 n)]) (cs' := #[(.slice A0 rs.length c0), (.int .i64 mo), (.slice Aq lq.length cq), (.string tx), (.int .i64 n)]) ?_ 2 _ rfl; (with_reducible repeat (first | refine qaj ?_ _ | refine qak ?_ | refine qag ?_ _)); exact B7.1)⟩, ⟨(by (with_reducible repeat (first | refine qaj ?_ _ | refine qak ?_ | refine qag ?_ _ | refine qce ?_ (by exact NE.1) _)); exact B5.1)⟩, ⟨(by with_reducible repeat (first | exact HB.1 | refine qat ?_ G7.1 | apply qal | apply qaf | apply qah))⟩⟩
       | false =>
         rw [if_neg (by decide)] at h3_; have HRN := ak_ (show r = none from (Option.some.inj h3_).symm); clear hs1_ ht hlr htx hn HSC HLE HI hy ht1 hcm h2_ h3_ hk hkl
         go_wp2_with (first | ((with_reducible refine qdc (f := 96) rfl ?_); (try (refine qbN (by rfl) ?_; dsimp only)); refine qgi (some 51) rfl rfl Tryz.func96 (by kernel_rfl) rfl #[.string y] rfl (by (try simp only [List.map_toArray, List.map_cons, List.map_nil]); first | done | rfl) ?_; (refine (qbB.calls k y lq false _ AR.1).mono ?_); rintro e w51 ⟨vq, rfl, hoq, hb⟩; refine ⟨_, rfl, ?_⟩; have HQ := ak_ (Kd.qaw hoq (qab (by apply_rules only [HB.1, qal, qaf, qah]))); obtain ⟨Aq, cq, eq_⟩ := Kd.qaI HQ.1; subst eq_; clear hoq; replace HL := HL.mw hb; replace HW := HW.mw hb; replace B7 := B7.mw hb; replace B5 := B5.mw hb; replace HB := ak_ (qaa (by apply_rules only [HB.1, qal, qaf, qah]) hb); obtain ⟨hbw51_0, fbw51_0⟩ := qcx B7.1; have hbw51_1 := qbA B7.1; have fbw51_1 := qae B7.1 1; have hbw51_2 := qfx B7.1; have fbw51_2 := qae B7.1 2; have hbw51_3 := qfF B7.1; have fbw51_3 := qae B7.1 3; have hbw51_4 := qfG B7.1; have fbw51_4 := qae B7.1 4; obtain ⟨hzw51_0, fzw51_0⟩ := qcx B5.1; have hzw51_1 := qbA B5.1; have fzw51_1 := qae B5.1 1; have hzw51_2 := qfx B5.1; have fzw51_2 := qae B5.1 2; have hzw51_3 := qfF B5.1; have fzw51_3 := qae B5.1 3; have hzw51_4 := qfG B5.1; have fzw51_4 := qae B5.1 4; have hsw51_0 : w51.cell? ⟨gw, 0, none⟩ = some (.string x0) := qcR HW.1 0 x0 HX0.1; have hsw51_1 : w51.cell? ⟨gw, 1, none⟩ = some (.string y) := qcR HW.1 1 y HX1.1; clear hb))
         go_region; all_goals (go_wp2; refine bodyPost_ret (qb8 (rs := [.tmp 4, .cell 5 81, .tmp 6]) rfl (by simp) (.tmp (.cell g5 81 #[(.slice A0 rs.length c0), (.int .i64 mo), (.slice Aq lq.length cq), (.string tx), (.int .i64 n)] (0, 0) _ rfl (by apply ho_; (with_reducible repeat (first | exact B5.1 | refine qaj ?_ _ | refine qak ?_ | refine qag ?_ _ | apply qeN | apply qce (hp := NE.1))); rfl) Tryz.underlying81 rfl (by kernel_rfl) (.tmp .nil)))) rfl ?_; exact ⟨_, _, _, _, _, _, _, rfl, .inl ⟨HRN.1, rfl⟩, (by with_reducible repeat (first | exact HB.1 | refine qat ?_ G5.1 | refine qat ?_ G7.1 | apply qal | apply qaf | apply qah))⟩)
      rw [hk] at h2_ e_; obtain rfl : sh = ⟨#[115]⟩ := e_; have HRV := ak_ (show r = some (c, lr, y, n) from by rw [hlr, hn]; exact (Option.some.inj h2_).symm); clear hs1_ ht hlr htx hn HSC HLE HI hy ht1 hcm h2_ hk hkl; go_wp2
      go_roundg 1
      case measure => have := HK1.1; omega
      case rel => exact ⟨1, A1_, c1, lr, y, n, rfl, ⟨.inr ⟨rfl, HT1.1, c, HCM.1, HRV.1⟩⟩, ⟨by decide⟩, ⟨(by (with_reducible repeat (first | apply Kd.qaq | apply Kd.qar | apply Kd.qax)); exact Kd.qg2 (by apply_rules only [HL.1, Kd.qaq, Kd.qar, Kd.qax]) (by apply_rules only [B7.1, qaj, qak, qag]) (by decide) 3 _)⟩, ⟨(by (with_reducible repeat (first | apply Kd.qaq | apply Kd.qar | apply Kd.qax)); exact Kd.qg2 (by apply_rules only [HW.1, Kd.qaq, Kd.qar, Kd.qax]) (by apply_rules only [B7.1, qaj, qak, qag]) (by decide) 3 _)⟩, ⟨(by (with_reducible repeat (first | refine qaj ?_ _ | refine qak ?_ | refine qag ?_ _)); refine qa9 (cs := #[(.slice A0 rs.length c0), (.int .i64 mo), (.slice A1_ lr.length c1), (.string tx), (.int .i64 n)]) (cs' := #[(.slice A0 rs.length c0), (.int .i64 mo), (.slice A1_ lr.length c1), (.string y), (.int .i64 n)]) ?_ 3 _ rfl; (with_reducible repeat (first | refine qaj ?_ _ | refine qak ?_ | refine qag ?_ _)); exact B7.1)⟩, ⟨(by (with_reducible repeat (first | refine qaj ?_ _ | refine qak ?_ | refine qag ?_ _ | refine qce ?_ (by exact NE.1) _)); exact B5.1)⟩, ⟨(by with_reducible repeat (first | exact HB.1 | refine qat ?_ G7.1 | apply qal | apply qaf | apply qah))⟩⟩
def qeF.f (a0 : Int) : Option (Bool) := (qbi.f a0 (-600) 600).bind fun qav => (some qav)
theorem qeF.calls (a0 : Int) (r : Bool) (w : World) (h : qeF.f a0 = some r) :
  Calls Tryz.prog 153 #[.int .i64 a0] w fun e w' => e = .returned (.bool r) ∧ qcY w w' := by
 have H : ((qbi.f a0 (-600) 600).bind fun qav => (some qav)) = some r := h; clear h; obtain ⟨qav, A2, H⟩ := qaB H; (try dsimp only at H); obtain rfl := sj_ H; go_enter Tryz.func153, Tryz.ntmps153
 go_wp2_with (first | (refine gl_ 4 Tryz.func93 #[.int .i64 a0, .int .i64 (-600), .int .i64 600] rfl qbJ ?_; (with_reducible refine (qbi.calls a0 (-600) 600 qav _ A2.1).mono ?_); rintro e w' ⟨rfl, ⟨nd, rfl⟩⟩; refine ⟨_, rfl, ?_⟩))
 go_ret
 exact ⟨qay, qc3⟩
def qcB.f (a0 : Int) (a1 : Int) : Option (Int) := if a1 = 0 then (none) else (some (Int.tmod (wrap64 ((Int.tmod a0 a1) + a1)) a1))
theorem qcB.calls (a0 : Int) (a1 : Int) (r : Int) (w : World) (h : qcB.f a0 a1 = some r) :
  Calls Tryz.prog 154 #[.int .i64 a0, .int .i64 a1] w fun e w' => e = .returned (.int .i64 r) ∧ qcY w w' := by
 have H : (if a1 = 0 then (none) else (some (Int.tmod (wrap64 ((Int.tmod a0 a1) + a1)) a1))) = some r := h; clear h; by_cases c3 : a1 = 0
 ·rw [if_pos c3] at H; exact absurd H (by simp)
 rw [if_neg c3] at H; have qfr : (a1 == 0) = false := beq_eq_false_iff_ne.mpr c3; have qlH : (a1 != 0) = true := bne_iff_ne.mpr c3; obtain rfl := sj_ H; go_enter Tryz.func154, Tryz.ntmps154; go_wp2
 go_ret
 exact ⟨qay, qc3⟩
mutual
def qaO.j0 : Nat → List (qac) → Int → Bool → Option ((List (qac)) × Bool)
 | 0, _, _, _ => none
 | k + 1, x0, x1, x16 => if x16 = true then (some (([] : List (qac)), false)) else (qaO.l0 k x1 ([] : List (qac)) x0 (x0.length : Int) 0)
def qaO.l0 : Nat → Int → List (qac) → List (qac) → Int → Int → Option ((List (qac)) × Bool)
 | 0, _, _, _, _, _ => none
 | k + 1, x1, x6, x17, x18, x19 => if x19 < x18 then (if 0 ≤ x19 then (if x19 < (x17.length : Int) then ((qcB.f (wrap64 (((qad x17 x19).f1) + x1)) ((qad x17 x19).f0)).bind fun t105 => (if x6.length < 8796093022208 then (qaO.l0 k x1 (x6 ++ [(⟨(qad x17 x19).f0, t105⟩ : qac)]) x17 x18 (wrap64 (x19 + 1))) else (none))) else (none)) else (none)) else (some (x6, true))
end
def qaO.f (k : Nat) (l0 : List (qac)) (a1 : Int) : Option ((List (qac)) × Bool) := (qaP.f k l0).bind fun qav => (if qav = true then ((qeF.f a1).bind fun qaQ => (qaO.j0 k l0 a1 (!qaQ))) else (qaO.j0 k l0 a1 true))
def qaO.T7 : Bool × List (List Nat × List Nat) := (true, [([], []), ([], []), ([1], [1]), ([], []), ([3], [3]), ([], []), ([4, 5], [4, 5]), ([], []), ([7], [7]), ([6, 8], [6, 8]), ([2, 9], [2, 9]), ([10], [10]), ([0, 11, 9], [0, 11]), ([12, 12, 0, 1, 2, 3, 4, 5, 6, 7, 8, 9, 10, 11, 12], [0, 12])])
def qaO.B7 : List Nat := [0, 0, 2, 0, 8, 0, 56, 0, 128, 504, 1022, 2046, 4095, 8191]
theorem qaO.tab7 : qhC .any (opsOf Tryz.f100 7) = qaO.T7 := by kernel_rfl
theorem qaO.qmL : qeG qaO.T7.2 qaO.B7 = true := by kernel_rfl
theorem qaO.calls (k : Nat) (A0 : Option Addr) (c0 : Nat) (l0 : List (qac)) (a1 : Int) (r1 : List (qac)) (r2 : Bool) (w : World) (hr0 : Kd.C qaG w A0 l0.length l0) (hc0 : l0.length ≤ c0) (h : qaO.f k l0 a1 = some (r1, r2)) :
  Calls Tryz.prog 100 #[.slice A0 l0.length c0, .int .i64 a1] w fun e w' => ∃ v0_ : Value, e = .returned (.tuple #[v0_, .bool r2]) ∧ Kd.R qaG 85 w' w.heap.size (fun _ => True) v0_ r1 ∧ Below w.heap.size w w' := by
 have qme := Tryz.underlying85; have HR0 := ak_ hr0; have HC0 := ak_ hc0; clear hr0 hc0; have HB := br_ w; have H : ((qaP.f k l0).bind fun qav => (if qav = true then ((qeF.f a1).bind fun qaQ => (qaO.j0 k l0 a1 (!qaQ))) else (qaO.j0 k l0 a1 true))) = some (r1, r2) := h; clear h; have HC3 := ak_ H; clear H; go_enter Tryz.func100, Tryz.ntmps100
 go_upto_region 1 with (fail)
 go_cut [16] (fun v16 wc => ∃ (kq : Nat) (qnn : Bool), v16 = .bool qnn ∧ qai (qaO.j0 kq l0 a1 qnn = some (r1, r2)) ∧ qai (kq ≤ k) ∧ qai (Below w.heap.size w wc))
 case first =>
  have H := HC3.1; clear HC3; obtain ⟨qav, A4, H⟩ := qaB H; (try dsimp only at H); by_cases c5 : qav = true
  ·subst c5; rw [if_pos rfl] at H; obtain ⟨qaQ, A6, H⟩ := qaB H; (try dsimp only at H); have H' := ak_ H; clear H
   go_wp2_with (first | (refine gl_ 10 Tryz.func60 #[.slice A0 l0.length c0] rfl qbJ ?_; (with_reducible refine (qaP.calls k _ _ l0 true _ ?qaz ?qaA A4.1).mono ?_); (case qaz => exact qhr); (case qaA => exact qb9); rintro e w7 ⟨rfl, hb⟩; refine ⟨_, rfl, ?_⟩; replace HB := HB.mw hb; (try clear hb)) | (go_at_call 153; (with_reducible refine (qeF.calls a1 qaQ _ A6.1).mono ?_); rintro e w' ⟨rfl, ⟨nd, rfl⟩⟩))
   go_meet
   case rel => exact ⟨_, (!qaQ), qay, H', ⟨qiC⟩, ⟨qao⟩⟩
  replace c5 := Bool.eq_false_iff.mpr c5; subst c5; rw [if_neg ff_] at H; have H' := ak_ H; clear H
  go_wp2_with (first | (refine gl_ 10 Tryz.func60 #[.slice A0 l0.length c0] rfl qbJ ?_; (with_reducible refine (qaP.calls k _ _ l0 false _ ?qaz ?qaA A4.1).mono ?_); (case qaz => exact qhr); (case qaA => exact qb9); rintro e w8 ⟨rfl, hb⟩; refine ⟨_, rfl, ?_⟩; replace HB := HB.mw hb; (try clear hb)))
  go_meet
  case rel => exact ⟨_, (true), qay, H', ⟨qiC⟩, ⟨qao⟩⟩
 case rest =>
  clear HC3; obtain ⟨kq, qnn, rfl, HA, HJ2, HB⟩ := hcut
  cases kq with
  | zero => exact absurd HA.1 (by simp [qaO.j0])
  | succ kj2 =>
   have H := HA.1; clear HA; simp only [qaO.j0] at H; by_cases c9 : qnn = true
   ·subst c9; rw [if_pos rfl] at H; obtain ⟨rfl, rfl⟩ := qdQ H; go_wp2
    go_ret2
    exact ⟨_, qca, qhg, qao⟩
   replace c9 := Bool.eq_false_iff.mpr c9; subst c9; rw [if_neg ff_] at H; have H' := ak_ H; clear H; go_wp2
   go_loopg [6, 19] kj2 (fun kq v6 v19 w' => ∃ (qhD : List (qac)) (qeU : Int), v19 = .int .i64 qeU ∧ qai (qaO.l0 kq a1 qhD l0 (l0.length : Int) qeU = some (r1, r2)) ∧ qai (kq ≤ kj2) ∧ qai (Kd.R qaG 85 w' w.heap.size (fun _ => True) v6 qhD) ∧ qai (Below w.heap.size w w'))
   case atStart => exact ⟨(([] : List (qac))), (0), qay, H', ⟨Nat.le_refl _⟩, ⟨qhg⟩, ⟨qao⟩⟩
   case round =>
    clear H'; (try clear c9); obtain ⟨qhD, qeU, rfl, HA, HK2, qfH, HB⟩ := hrel
    cases gk with
    | zero => exact absurd HA.1 (by simp [qaO.l0])
    | succ k2 =>
     have H := HA.1; clear HA; simp only [qaO.l0] at H; by_cases c10 : qeU < (l0.length : Int); rotate_left
     ·rw [if_neg c10] at H; have qgY := decide_eq_false c10; clear c10; obtain ⟨rfl, rfl⟩ := qdQ H; go_wp2
      go_ret2
      exact ⟨_, qca, by (with_reducible repeat (first | apply Kd.qaq | apply Kd.qar | apply Kd.qax)); exact qfH.1, qao⟩
     rw [if_pos c10] at H; have qgY := decide_eq_true c10; clear c10; obtain ⟨c11, H⟩ := qct H; have qgK := decide_eq_true c11; clear c11; obtain ⟨c12, H⟩ := qct H; have qhN := decide_eq_true c12; clear c12; obtain ⟨t105, A13, H⟩ := qaB H; (try dsimp only at H); obtain ⟨c14, H⟩ := qct H; have qoV := ak_ c14; clear c14
     obtain ⟨qjH, hy_⟩ : ∃ y_ : List (qac), y_ = (qhD ++ [(⟨(qad l0 qeU).f0, t105⟩ : qac)]) := ⟨_, rfl⟩
     replace H : (qaO.l0 k2 a1 qjH l0 (l0.length : Int) (wrap64 (qeU + 1))) = some (r1, r2) := qfb; have qmF := ak_ hy_; clear hy_; have H' := ak_ H; clear H; have p103 : 0 ≤ (qeU : Int) := of_decide_eq_true qaL; have q103 : qeU < (l0.length : Int) := of_decide_eq_true qaL; obtain ⟨ad103, e103, qpC, qpD⟩ := qc6 HR0.1 qeU p103 q103
     cases e103
     replace qpC := (HB.1.cell (World.block_lt_of_cell? w _ qpC)).trans qpC; replace qpD := (HB.1.cell (World.block_lt_of_cell? w _ qpD)).trans qpD; replace p103 := eq_true p103; replace q103 := eq_true q103
     try go_wp2_with (first | ((with_reducible refine qam (N := 8) rfl ?_); refine bx_ 8 rfl (cs := #[.int .i64 0, .int .i64 0]) (t := 85) qa1 ?_; intro qg9 hg w15 hbox hb; replace qfH := ak_ (Kd.qbs (Kd.qh0 qpL qg9 (Nat.le_of_eq hg.symm)) hb); have qhw := ak_ (hbox); have GW104 := ak_ (HB.ge hg); have GE104 := ak_ (HB.ge hg); replace HB := HB.mw hb; clear hb hbox hg; obtain ⟨qsP, qsQ, qs5, qs6⟩ := qbl qhw.1))
     have n0_ : qai (Kd.R qaG 85 ((w15.setCell ⟨qg9, 0, none⟩ (.int .i64 ((qad l0 qeU).f0))).setCell ⟨qg9, 1, none⟩ (.int .i64 ((qad l0 qeU).f1))) w.heap.size (fun k_ => k_ ≠ qg9) u6 qhD) := ⟨by (with_reducible repeat (first | apply Kd.qaq | apply Kd.qar | apply Kd.qax)); exact Kd.qa2 (Kd.qco (p := ⟨qg9, 1, none⟩) (Kd.qco (p := ⟨qg9, 0, none⟩) (Kd.qa2 qfH.1 (fun k_ hk => (⟨hk, hk.2⟩ : _ ∧ k_ ≠ qg9))) (fun _ hk => hk.2) (.int .i64 ((qad l0 qeU).f0))) (fun _ hk => hk.2) (.int .i64 ((qad l0 qeU).f1))) (fun _ hk => hk.1.2)⟩
     have n1_ : qai (((w15.setCell ⟨qg9, 0, none⟩ (.int .i64 ((qad l0 qeU).f0))).setCell ⟨qg9, 1, none⟩ (.int .i64 ((qad l0 qeU).f1))).heap[qg9]? = some (.cells #[.int .i64 ((qad l0 qeU).f0), .int .i64 ((qad l0 qeU).f1)] 85 (0, 0))) := ⟨by (with_reducible repeat (first | refine qaj ?_ _ | refine qak ?_ | refine qag ?_ _)); refine qa9 (cs := #[.int .i64 ((qad l0 qeU).f0), .int .i64 0]) ?_ 1 _ rfl; (with_reducible repeat (first | refine qaj ?_ _ | refine qak ?_ | refine qag ?_ _)); refine qa9 (cs := #[.int .i64 0, .int .i64 0]) ?_ 0 _ rfl; apply_rules only [qhw.1, qaj, qak, qag]⟩
     have n2_ : qai (Below w.heap.size w ((w15.setCell ⟨qg9, 0, none⟩ (.int .i64 ((qad l0 qeU).f0))).setCell ⟨qg9, 1, none⟩ (.int .i64 ((qad l0 qeU).f1)))) := ⟨by apply_rules only [HB.1, qal, qaf, qah, qat, GE104.1]⟩
     (try clear qfH); (try clear qhw); (try clear HB)
     generalize ((w15.setCell ⟨qg9, 0, none⟩ (.int .i64 ((qad l0 qeU).f0))).setCell ⟨qg9, 1, none⟩ (.int .i64 ((qad l0 qeU).f1))) = w17 at n0_ n1_ n2_ ⊢
     have qfH := n0_; have qhw := n1_; have HB := n2_; clear n0_ n1_ n2_; replace qfH := ak_ (Kd.qax qfH.1); replace qhw := ak_ (qak qhw.1); replace HB := ak_ (qah HB.1); refine qeS (n := 14) (S := fun w' => w'.cell? ⟨qg9, 0, none⟩ = some (.int .i64 ((qad l0 qeU).f0)) ∧ w'.cell? ⟨qg9, 1, none⟩ = some (.int .i64 ((qad l0 qeU).f1))) (ds := []) (rA_ [0, 14]) (by kernel_rfl) rfl rfl ⟨qd4 qhw.1, qbA qhw.1⟩ (fun hHeld => ?_); refine qc0 qaO.tab7 qaO.qmL (fun HT_ HW_ => ?_)
     generalize w17.drew = w18 at qfH qhw HB hHeld ⊢
     refine pu_ 0 23 [1, 13] ?_; refine pu_ 1 24 [2, 12] ?_; refine pu_ 3 26 [2, 1, 1, 10] ?_; refine pu_ 5 28 [2, 1, 1, 1, 1, 8] ?_; refine pu_ 7 30 [2, 1, 1, 1, 1, 1, 1, 6] ?_; refine qii 2 25 [4, 1, 1, 1, 1, 6] ?_; refine qii 4 27 [6, 1, 1, 6] ?_; refine pu_ 6 29 [8, 6] ?_; refine qii 8 31 [9, 5] ?_; refine qfC (i := 9) (N := some 32) (rA_ [10, 4]) rfl rfl (qcJ HT_.out (by kernel_rfl)) (by decide) (fun K hK => ?_); refine qfN Tryz.func154 (by kernel_rfl) rfl #[.int .i64 (wrap64 (((qad l0 qeU).f1) + a1)), .int .i64 ((qad l0 qeU).f0)] (by rfl) rfl rfl qbJ ?_
     with_reducible refine (qcB.calls (wrap64 (((qad l0 qeU).f1) + a1)) ((qad l0 qeU).f0) t105 _ A13.1).mono ?_
     rintro e w' ⟨rfl, ⟨nd, rfl⟩⟩; refine ⟨_, rfl, ?_⟩; refine hK.out _ _ ⟨qd4 qhw.1, qbA qhw.1⟩ (fun hHeld => ?_); clear hK K; refine nm_ 32 ?_; refine pu_ 10 33 [11, 3] ?_; refine qfC (i := 11) (N := some 34) (rA_ [12, 2]) rfl rfl (qcJ HT_.out (by kernel_rfl)) (by decide) (fun K hK => ?_); refine qi9 (w1 := ?_) (v := ?_) (by rfl) rfl ?_ ?_; rotate_left 2
     ·go_simp; constructor
      ·rfl
      rfl
     refine hK.out _ _ ⟨(qba (qag qhw.1 _) 0).trans rfl, (qba (qag qhw.1 _) 1).trans rfl⟩ (fun hHeld => ?_); clear hK K; refine nm_ 34 ?_; refine qfC (i := 12) (N := some 35) (rA_ [13, 1]) rfl rfl (qcJ HT_.out (by kernel_rfl)) (by decide) (fun K hK => ?_); refine Kd.qe4 qaG (w0 := w) w.heap.size (by rfl) (.tmp 23) (.tmp 34) 26 85 (.agg #[(.int .i64 0), (.int .i64 0)]) 16 rfl Tryz.underlying26 qfV rfl (by decide) (by omega) u6 qhD (⟨(qad l0 qeU).f0, t105⟩ : qac) [.int .i64 ((qad l0 qeU).f0), .int .i64 t105] (fun k_ => k_ ≠ qg9) (fun _ => False) rfl rfl ?aP (fun _ hk => hk.elim) ?aF ?aO ?aB ?aS ?aL ?_
     (case aP => exact qc7 _ _ _ (⟨(qad l0 qeU).f0, t105⟩ : qac))
     (case aB => exact (by apply_rules only [HB.1, qal, qaf, qah, qat, GE104.1]))
     (case aF => exact (fun k_ hk => Kd.qnY (g := qg9) (o := .cells #[.int .i64 ((qad l0 qeU).f0), .int .i64 ((qad l0 qeU).f1)] 85 (0, 0)) (by apply_rules only [qhw.1, qaj, qak, qag]) k_ hk))
     (case aO => exact qpL)
     (case aS => exact (qab (by apply_rules only [HB.1, qal, qaf, qah, qat, GE104.1])))
     (case aL => have := qoV.1; omega)
     intro v107 w19 ho hb hg hat; rw [← qmF.1] at ho; replace qhw := ak_ (qd9 (g := qg9) (o := .cells #[.int .i64 ((qad l0 qeU).f0), .int .i64 ((qad l0 qeU).f1)] 85 (0, 0)) (by apply_rules only [qhw.1, qaj, qak, qag]) hg (Kd.qnA qfH.1 (fun _ hk => hk))); replace HB := ak_ (hb); have qgx := ak_ (ho); clear qfH; clear ho hb hg hat; refine hK.out _ _ ⟨qd4 qhw.1, qbA qhw.1⟩ (fun hHeld => ?_); clear hK K; refine nm_ 35 ?_; refine pu_ 13 6 [14] ?_; refine qf5 (qeh HT_.out (by kernel_rfl)) ?_
     try go_wp2
     go_roundg k2
     case measure => have := HJ2.1; have := HK2.1; omega
     case rel => exact ⟨(qjH), (wrap64 (qeU + 1)), qay, H', ⟨by have := HJ2.1; have := HK2.1; omega⟩, ⟨by (with_reducible repeat (first | apply Kd.qaq | apply Kd.qar | apply Kd.qax)); exact Kd.qa2 qgx.1 (fun _ hk => trivial)⟩, ⟨by apply_rules only [HB.1, qal, qaf, qah, qat, GE104.1]⟩⟩
def qa3.l0 : Nat → List (qac) → List (qac) → Int → Int → Option ((List (qac)) × Bool)
 | 0, _, _, _, _ => none
 | k + 1, x4, x10, x11, x12 => if x12 < x11 then (if 0 ≤ x12 then (if x12 < (x10.length : Int) then ((qcB.f (wrap64 (-((qad x10 x12).f1))) ((qad x10 x12).f0)).bind fun qcq => (if x4.length < 8796093022208 then (qa3.l0 k (x4 ++ [(⟨(qad x10 x12).f0, qcq⟩ : qac)]) x10 x11 (wrap64 (x12 + 1))) else (none))) else (none)) else (none)) else (some (x4, true))
def qa3.f (k : Nat) (l0 : List (qac)) : Option ((List (qac)) × Bool) := (qaP.f k l0).bind fun qav => (if qav = true then (qa3.l0 k ([] : List (qac)) l0 (l0.length : Int) 0) else (some (([] : List (qac)), false)))
def qa3.T7 : Bool × List (List Nat × List Nat) := (true, [([], []), ([], []), ([1], [1]), ([], []), ([3], [3]), ([4], [4]), ([], []), ([6], [6]), ([5, 7], [5, 7]), ([2, 8], [2, 8]), ([9], [9]), ([0, 10, 8], [0, 10]), ([11, 11, 0, 1, 2, 3, 4, 5, 6, 7, 8, 9, 10, 11], [0, 11])])
def qa3.B7 : List Nat := [0, 0, 2, 0, 8, 24, 0, 64, 248, 510, 1022, 2047, 4095]
theorem qa3.tab7 : qhC .any (opsOf Tryz.f101 7) = qa3.T7 := by kernel_rfl
theorem qa3.qmL : qeG qa3.T7.2 qa3.B7 = true := by kernel_rfl
theorem qa3.calls (k : Nat) (A0 : Option Addr) (c0 : Nat) (l0 : List (qac)) (r1 : List (qac)) (r2 : Bool) (w : World) (hr0 : Kd.C qaG w A0 l0.length l0) (hc0 : l0.length ≤ c0) (h : qa3.f k l0 = some (r1, r2)) :
  Calls Tryz.prog 101 #[.slice A0 l0.length c0] w fun e w' => ∃ v0_ : Value, e = .returned (.tuple #[v0_, .bool r2]) ∧ Kd.R qaG 85 w' w.heap.size (fun _ => True) v0_ r1 ∧ Below w.heap.size w w' := by
 have qme := Tryz.underlying85; have HR0 := ak_ hr0; have HC0 := ak_ hc0; clear hr0 hc0; have HB := br_ w; have H : ((qaP.f k l0).bind fun qav => (if qav = true then (qa3.l0 k ([] : List (qac)) l0 (l0.length : Int) 0) else (some (([] : List (qac)), false)))) = some (r1, r2) := h; clear h; obtain ⟨qav, A2, H⟩ := qaB H; (try dsimp only at H); by_cases c3 : qav = true; rotate_left
 ·replace c3 := Bool.eq_false_iff.mpr c3; subst c3; rw [if_neg ff_] at H; obtain ⟨rfl, rfl⟩ := qdQ H; go_enter Tryz.func101, Tryz.ntmps101
  go_wp2_with (first | (refine gl_ 8 Tryz.func60 #[.slice A0 l0.length c0] rfl qbJ ?_; (with_reducible refine (qaP.calls k _ _ l0 false _ ?qaz ?qaA A2.1).mono ?_); (case qaz => exact qf0); (case qaA => exact qb9); rintro e w15 ⟨rfl, hb⟩; refine ⟨_, rfl, ?_⟩; replace HB := HB.mw hb; (try clear hb)))
  go_ret2
  exact ⟨_, qca, qhg, qao⟩
 subst c3; rw [if_pos rfl] at H; have H' := ak_ H; clear H; go_enter Tryz.func101, Tryz.ntmps101
 go_wp2_with (first | (refine gl_ 8 Tryz.func60 #[.slice A0 l0.length c0] rfl qbJ ?_; (with_reducible refine (qaP.calls k _ _ l0 true _ ?qaz ?qaA A2.1).mono ?_); (case qaz => exact qf0); (case qaA => exact qb9); rintro e w4 ⟨rfl, hb⟩; refine ⟨_, rfl, ?_⟩; replace HB := HB.mw hb; (try clear hb)))
 go_loopg [4, 12] k (fun kq v4 v12 w' => ∃ (qcP : List (qac)) (qds : Int), v12 = .int .i64 qds ∧ qai (qa3.l0 kq qcP l0 (l0.length : Int) qds = some (r1, r2)) ∧ qai (kq ≤ k) ∧ qai (Kd.R qaG 85 w' w.heap.size (fun _ => True) v4 qcP) ∧ qai (Below w.heap.size w w'))
 case atStart => exact ⟨(([] : List (qac))), (0), qay, H', ⟨Nat.le_refl _⟩, ⟨qhg⟩, ⟨qao⟩⟩
 case round =>
  clear H'; (try clear c3); obtain ⟨qcP, qds, rfl, HA, HK1, qdp, HB⟩ := hrel
  cases gk with
  | zero => exact absurd HA.1 (by simp [qa3.l0])
  | succ k1 =>
   have H := HA.1; clear HA; simp only [qa3.l0] at H; by_cases c5 : qds < (l0.length : Int); rotate_left
   ·rw [if_neg c5] at H; have qgL := decide_eq_false c5; clear c5; obtain ⟨rfl, rfl⟩ := qdQ H; go_wp2
    go_ret2
    exact ⟨_, qca, by (with_reducible repeat (first | apply Kd.qaq | apply Kd.qar | apply Kd.qax)); exact qdp.1, qao⟩
   rw [if_pos c5] at H; have qgL := decide_eq_true c5; clear c5; obtain ⟨c6, H⟩ := qct H; have qgc := decide_eq_true c6; clear c6; obtain ⟨c7, H⟩ := qct H; have qhx := decide_eq_true c7; clear c7; obtain ⟨qcq, A8, H⟩ := qaB H; (try dsimp only at H); obtain ⟨c9, H⟩ := qct H; have LMc9 := ak_ c9; clear c9
   obtain ⟨qic, hy_⟩ : ∃ y_ : List (qac), y_ = (qcP ++ [(⟨(qad l0 qds).f0, qcq⟩ : qac)]) := ⟨_, rfl⟩
   replace H : (qa3.l0 k1 qic l0 (l0.length : Int) (wrap64 (qds + 1))) = some (r1, r2) := qfb; have qhG := ak_ hy_; clear hy_; have H' := ak_ H; clear H; have qna : 0 ≤ (qds : Int) := of_decide_eq_true qaL; have qnc : qds < (l0.length : Int) := of_decide_eq_true qaL; obtain ⟨qkd, e102, qe0, qe1⟩ := qc6 HR0.1 qds qna qnc
   cases e102
   replace qe0 := (HB.1.cell (World.block_lt_of_cell? w _ qe0)).trans qe0; replace qe1 := (HB.1.cell (World.block_lt_of_cell? w _ qe1)).trans qe1; replace qna := eq_true qna; replace qnc := eq_true qnc
   try go_wp2_with (first | ((with_reducible refine qam (N := 6) rfl ?_); refine bx_ 6 rfl (cs := #[.int .i64 0, .int .i64 0]) (t := 85) qa1 ?_; intro qg8 hg w10 hbox hb; replace qdp := ak_ (Kd.qbs (Kd.qh0 qkq qg8 (Nat.le_of_eq hg.symm)) hb); have qhv := ak_ (hbox); have GW103 := ak_ (HB.ge hg); have GE103 := ak_ (HB.ge hg); replace HB := HB.mw hb; clear hb hbox hg; obtain ⟨qgj, qgk, qgl, qgm⟩ := qbl qhv.1))
   have n0_ : qai (Kd.R qaG 85 ((w10.setCell ⟨qg8, 0, none⟩ (.int .i64 ((qad l0 qds).f0))).setCell ⟨qg8, 1, none⟩ (.int .i64 ((qad l0 qds).f1))) w.heap.size (fun k_ => k_ ≠ qg8) u4 qcP) := ⟨by (with_reducible repeat (first | apply Kd.qaq | apply Kd.qar | apply Kd.qax)); exact Kd.qa2 (Kd.qco (p := ⟨qg8, 1, none⟩) (Kd.qco (p := ⟨qg8, 0, none⟩) (Kd.qa2 qdp.1 (fun k_ hk => (⟨hk, hk.2⟩ : _ ∧ k_ ≠ qg8))) (fun _ hk => hk.2) (.int .i64 ((qad l0 qds).f0))) (fun _ hk => hk.2) (.int .i64 ((qad l0 qds).f1))) (fun _ hk => hk.1.2)⟩
   have n1_ : qai (((w10.setCell ⟨qg8, 0, none⟩ (.int .i64 ((qad l0 qds).f0))).setCell ⟨qg8, 1, none⟩ (.int .i64 ((qad l0 qds).f1))).heap[qg8]? = some (.cells #[.int .i64 ((qad l0 qds).f0), .int .i64 ((qad l0 qds).f1)] 85 (0, 0))) := ⟨by (with_reducible repeat (first | refine qaj ?_ _ | refine qak ?_ | refine qag ?_ _)); refine qa9 (cs := #[.int .i64 ((qad l0 qds).f0), .int .i64 0]) ?_ 1 _ rfl; (with_reducible repeat (first | refine qaj ?_ _ | refine qak ?_ | refine qag ?_ _)); refine qa9 (cs := #[.int .i64 0, .int .i64 0]) ?_ 0 _ rfl; apply_rules only [qhv.1, qaj, qak, qag]⟩
   have n2_ : qai (Below w.heap.size w ((w10.setCell ⟨qg8, 0, none⟩ (.int .i64 ((qad l0 qds).f0))).setCell ⟨qg8, 1, none⟩ (.int .i64 ((qad l0 qds).f1)))) := ⟨by apply_rules only [HB.1, qal, qaf, qah, qat, GE103.1]⟩
   (try clear qdp); (try clear qhv); (try clear HB)
   generalize ((w10.setCell ⟨qg8, 0, none⟩ (.int .i64 ((qad l0 qds).f0))).setCell ⟨qg8, 1, none⟩ (.int .i64 ((qad l0 qds).f1))) = w12 at n0_ n1_ n2_ ⊢
   have qdp := n0_; have qhv := n1_; have HB := n2_; clear n0_ n1_ n2_; replace qdp := ak_ (Kd.qax qdp.1); replace qhv := ak_ (qak qhv.1); replace HB := ak_ (qah HB.1); refine qeS (n := 13) (S := fun w' => w'.cell? ⟨qg8, 0, none⟩ = some (.int .i64 ((qad l0 qds).f0)) ∧ w'.cell? ⟨qg8, 1, none⟩ = some (.int .i64 ((qad l0 qds).f1))) (ds := []) (rA_ [0, 13]) (by kernel_rfl) rfl rfl ⟨qd4 qhv.1, qbA qhv.1⟩ (fun hHeld => ?_); refine qc0 qa3.tab7 qa3.qmL (fun HT_ HW_ => ?_)
   generalize w12.drew = w13 at qdp qhv HB hHeld ⊢
   refine pu_ 0 16 [1, 12] ?_; refine pu_ 1 17 [2, 11] ?_; refine pu_ 3 19 [2, 1, 1, 9] ?_; refine pu_ 6 22 [2, 1, 1, 2, 1, 6] ?_; refine qii 2 18 [4, 2, 1, 6] ?_; refine qii 4 20 [5, 1, 1, 6] ?_; refine pu_ 5 21 [7, 6] ?_; refine qii 7 23 [8, 5] ?_; refine qfC (i := 8) (N := some 24) (rA_ [9, 4]) rfl rfl (qcJ HT_.out (by kernel_rfl)) (by decide) (fun K hK => ?_); refine qfN Tryz.func154 (by kernel_rfl) rfl #[.int .i64 (wrap64 (-((qad l0 qds).f1))), .int .i64 ((qad l0 qds).f0)] (by rfl) rfl rfl qbJ ?_
   with_reducible refine (qcB.calls (wrap64 (-((qad l0 qds).f1))) ((qad l0 qds).f0) qcq _ A8.1).mono ?_
   rintro e w' ⟨rfl, ⟨nd, rfl⟩⟩; refine ⟨_, rfl, ?_⟩; refine hK.out _ _ ⟨qd4 qhv.1, qbA qhv.1⟩ (fun hHeld => ?_); clear hK K; refine nm_ 24 ?_; refine pu_ 9 25 [10, 3] ?_; refine qfC (i := 10) (N := some 26) (rA_ [11, 2]) rfl rfl (qcJ HT_.out (by kernel_rfl)) (by decide) (fun K hK => ?_); refine qi9 (w1 := ?_) (v := ?_) (by rfl) rfl ?_ ?_; rotate_left 2
   ·go_simp; constructor
    ·rfl
    rfl
   refine hK.out _ _ ⟨(qba (qag qhv.1 _) 0).trans rfl, (qba (qag qhv.1 _) 1).trans rfl⟩ (fun hHeld => ?_); clear hK K; refine nm_ 26 ?_; refine qfC (i := 11) (N := some 27) (rA_ [12, 1]) rfl rfl (qcJ HT_.out (by kernel_rfl)) (by decide) (fun K hK => ?_); refine Kd.qe4 qaG (w0 := w) w.heap.size (by rfl) (.tmp 16) (.tmp 26) 26 85 (.agg #[(.int .i64 0), (.int .i64 0)]) 16 rfl Tryz.underlying26 qfV rfl (by decide) (by omega) u4 qcP (⟨(qad l0 qds).f0, qcq⟩ : qac) [.int .i64 ((qad l0 qds).f0), .int .i64 qcq] (fun k_ => k_ ≠ qg8) (fun _ => False) rfl rfl ?aP (fun _ hk => hk.elim) ?aF ?aO ?aB ?aS ?aL ?_
   (case aP => exact qc7 _ _ _ (⟨(qad l0 qds).f0, qcq⟩ : qac))
   (case aB => exact (by apply_rules only [HB.1, qal, qaf, qah, qat, GE103.1]))
   (case aF => exact (fun k_ hk => Kd.qnY (g := qg8) (o := .cells #[.int .i64 ((qad l0 qds).f0), .int .i64 ((qad l0 qds).f1)] 85 (0, 0)) (by apply_rules only [qhv.1, qaj, qak, qag]) k_ hk))
   (case aO => exact qkq)
   (case aS => exact (qab (by apply_rules only [HB.1, qal, qaf, qah, qat, GE103.1])))
   (case aL => have := LMc9.1; omega)
   intro qrK w14 ho hb hg hat; rw [← qhG.1] at ho; replace qhv := ak_ (qd9 (g := qg8) (o := .cells #[.int .i64 ((qad l0 qds).f0), .int .i64 ((qad l0 qds).f1)] 85 (0, 0)) (by apply_rules only [qhv.1, qaj, qak, qag]) hg (Kd.qnA qdp.1 (fun _ hk => hk))); replace HB := ak_ (hb); have qfa := ak_ (ho); clear qdp; clear ho hb hg hat; refine hK.out _ _ ⟨qd4 qhv.1, qbA qhv.1⟩ (fun hHeld => ?_); clear hK K; refine nm_ 27 ?_; refine pu_ 12 4 [13] ?_; refine qf5 (qeh HT_.out (by kernel_rfl)) ?_
   try go_wp2
   go_roundg k1
   case measure => have := HK1.1; omega
   case rel => exact ⟨(qic), (wrap64 (qds + 1)), qay, H', ⟨qc9⟩, ⟨by (with_reducible repeat (first | apply Kd.qaq | apply Kd.qar | apply Kd.qax)); exact Kd.qa2 qfa.1 (fun _ hk => trivial)⟩, ⟨by apply_rules only [HB.1, qal, qaf, qah, qat, GE103.1]⟩⟩
def qbS.l0 : Nat → Int → Int → Option (Int)
 | 0, _, _ => none
 | k + 1, x0, x1 => if x1 > 0 then (if x1 = 0 then (none) else (qbS.l0 k x1 (Int.tmod x0 x1))) else (some x0)
def qbS.f (k : Nat) (a0 : Int) (a1 : Int) : Option (Int) := qbS.l0 k a0 a1
theorem qbS.calls (k : Nat) (a0 : Int) (a1 : Int) (r : Int) (w : World) (h : qbS.f k a0 a1 = some r) :
  Calls Tryz.prog 208 #[.int .i64 a0, .int .i64 a1] w fun e w' => e = .returned (.int .i64 r) ∧ qcY w w' := by
 have H : (qbS.l0 k a0 a1) = some r := h; clear h; have H' := ak_ H; clear H; go_enter Tryz.func208, Tryz.ntmps208; go_wp2
 repeat (go_quiet (fail); try go_wp2)
 go_loopg [0, 1] k (fun kq v0 v1 w' => ∃ (qfJ : Int) (qfK : Int), v0 = .int .i64 qfJ ∧ v1 = .int .i64 qfK ∧ qai (qbS.l0 kq qfJ qfK = some r) ∧ qai (kq ≤ k) ∧ qcY w w')
 case atStart => exact ⟨(a0), (a1), qay, qay, H', ⟨Nat.le_refl _⟩, qc3⟩
 case round =>
  clear H'; obtain ⟨qfJ, qfK, rfl, rfl, HA, HK1, ⟨m1, rfl⟩⟩ := hrel
  cases gk with
  | zero => exact absurd HA.1 (by simp [qbS.l0])
  | succ k1 =>
   have H := HA.1; clear HA; simp only [qbS.l0] at H; by_cases c3 : qfK > 0; rotate_left
   ·rw [if_neg c3] at H; have qfr : decide (0 < qfK) = false := decide_eq_false c3; clear c3; obtain rfl := sj_ H; go_wp2
    repeat (go_quiet (fail); try go_wp2)
    go_ret
    exact ⟨qay, qc3⟩
   rw [if_pos c3] at H; have qfr : decide (0 < qfK) = true := decide_eq_true c3; clear c3; by_cases c4 : qfK = 0
   ·rw [if_pos c4] at H; exact absurd H (by simp)
   rw [if_neg c4] at H; have qfw : (qfK == 0) = false := beq_eq_false_iff_ne.mpr c4; have qlY : (qfK != 0) = true := bne_iff_ne.mpr c4; have H' := ak_ H; clear H; go_wp2
   repeat (go_quiet (fail); try go_wp2)
   go_roundg k1
   case measure => have := HK1.1; omega
   case rel => exact ⟨(qfK), (Int.tmod qfJ qfK), qay, qay, H', ⟨qc9⟩, qc3⟩
def qbg.l0 : Nat → Int → List (qac) → Int → Int → Option (Int)
 | 0, _, _, _, _ => none
 | k + 1, x3, x6, x7, x8 => if x8 < x7 then (if 0 ≤ x8 then (if x8 < (x6.length : Int) then ((qbS.f k x3 ((qad x6 x8).f0)).bind fun qcb => (if qcb = 0 then (none) else (if (wrap64 ((wrap64 (Int.tdiv x3 qcb)) * ((qad x6 x8).f0))) > 100000 then (some 0) else (qbg.l0 k (wrap64 ((wrap64 (Int.tdiv x3 qcb)) * ((qad x6 x8).f0))) x6 x7 (wrap64 (x8 + 1)))))) else (none)) else (none)) else (some x3)
def qbg.f (k : Nat) (l0 : List (qac)) : Option (Int) := qbg.l0 k 1 l0 (l0.length : Int) 0
theorem qbg.calls (k : Nat) (A0 : Option Addr) (c0 : Nat) (l0 : List (qac)) (r : Int) (w : World) (hr0 : Kd.C qaG w A0 l0.length l0) (hc0 : l0.length ≤ c0) (h : qbg.f k l0 = some r) :
  Calls Tryz.prog 155 #[.slice A0 l0.length c0] w fun e w' => e = .returned (.int .i64 r) ∧ Below w.heap.size w w' := by
 have qme := Tryz.underlying85; have HR0 := ak_ hr0; have HC0 := ak_ hc0; clear hr0 hc0; have HB := br_ w; have H : (qbg.l0 k 1 l0 (l0.length : Int) 0) = some r := h; clear h; have H' := ak_ H; clear H; go_enter Tryz.func155, Tryz.ntmps155; go_wp2
 repeat (go_quiet (fail); try go_wp2)
 go_loopg [3, 8] k (fun kq v3 v8 w' => ∃ (qbx : Int) (qdl : Int), v3 = .int .i64 qbx ∧ v8 = .int .i64 qdl ∧ qai (qbg.l0 kq qbx l0 (l0.length : Int) qdl = some r) ∧ qai (kq ≤ k) ∧ qai (Below w.heap.size w w'))
 case atStart => exact ⟨(1), (0), qay, qay, H', ⟨Nat.le_refl _⟩, ⟨qao⟩⟩
 case round =>
  clear H'; obtain ⟨qbx, qdl, rfl, rfl, HA, HK1, HB⟩ := hrel
  cases gk with
  | zero => exact absurd HA.1 (by simp [qbg.l0])
  | succ k1 =>
   have H := HA.1; clear HA; simp only [qbg.l0] at H; by_cases c2 : qdl < (l0.length : Int); rotate_left
   ·rw [if_neg c2] at H; have qfB := decide_eq_false c2; clear c2; obtain rfl := sj_ H; go_wp2
    repeat (go_quiet (fail); try go_wp2)
    go_ret
    exact ⟨qca, qao⟩
   rw [if_pos c2] at H; have qfB := decide_eq_true c2; clear c2; obtain ⟨c3, H⟩ := qct H; have qfr := decide_eq_true c3; clear c3; obtain ⟨c4, H⟩ := qct H; have qfw := decide_eq_true c4; clear c4; obtain ⟨qcb, A5, H⟩ := qaB H; (try dsimp only at H); by_cases c6 : qcb = 0
   ·rw [if_pos c6] at H; exact absurd H (by simp)
   rw [if_neg c6] at H; have qgc : (qcb == 0) = false := beq_eq_false_iff_ne.mpr c6; have qnJ : (qcb != 0) = true := bne_iff_ne.mpr c6; by_cases c7 : (wrap64 ((wrap64 (Int.tdiv qbx qcb)) * ((qad l0 qdl).f0))) > 100000
   ·rw [if_pos c7] at H; have qhx : decide (100000 < (wrap64 ((wrap64 (Int.tdiv qbx qcb)) * ((qad l0 qdl).f0)))) = true := decide_eq_true c7; clear c7; obtain rfl := sj_ H; have qeC : 0 ≤ (qdl : Int) := of_decide_eq_true qaL; have qeJ : qdl < (l0.length : Int) := of_decide_eq_true qaL; obtain ⟨qfL, qg7, qbk, qbL⟩ := qc6 HR0.1 qdl qeC qeJ
    cases qg7
    replace qbk := (HB.1.cell (World.block_lt_of_cell? w _ qbk)).trans qbk; replace qbL := (HB.1.cell (World.block_lt_of_cell? w _ qbL)).trans qbL; replace qeC := eq_true qeC; replace qeJ := eq_true qeJ
    go_wp2_with (first | ((with_reducible refine qam (N := 5) rfl ?_); refine bx_ 5 rfl (cs := #[.int .i64 0, .int .i64 0]) (t := 85) qa1 ?_; intro qcO hg w8 hbox hb; have qbI := ak_ (hbox); have qfE := ak_ (HB.ge hg); have qfq := ak_ (HB.ge hg); replace HB := HB.mw hb; clear hb hbox hg; obtain ⟨qgA, qgB, qgC, qgD⟩ := qbl qbI.1) | (go_at_call 208; (with_reducible refine (qbS.calls k1 qbx ((qad l0 qdl).f0) qcb _ A5.1).mono ?_); rintro e w' ⟨rfl, ⟨nd, rfl⟩⟩; (try first | exact ⟨rfl, _, World.drewN_drewN _ _ _⟩ | exact ⟨rfl, _, Eq.trans (World.drewN_drewN _ _ _) (congrArg (World.drewN _) (Nat.add_assoc _ _ _))⟩)))
    repeat (go_quiet (first | ((with_reducible refine qam (N := 5) rfl ?_); refine bx_ 5 rfl (cs := #[.int .i64 0, .int .i64 0]) (t := 85) qa1 ?_; intro qcO hg w8 hbox hb; have qbI := ak_ (hbox); have qfE := ak_ (HB.ge hg); have qfq := ak_ (HB.ge hg); replace HB := HB.mw hb; clear hb hbox hg; obtain ⟨qgA, qgB, qgC, qgD⟩ := qbl qbI.1) | (go_at_call 208; (with_reducible refine (qbS.calls k1 qbx ((qad l0 qdl).f0) qcb _ A5.1).mono ?_); rintro e w' ⟨rfl, ⟨nd, rfl⟩⟩; (try first | exact ⟨rfl, _, World.drewN_drewN _ _ _⟩ | exact ⟨rfl, _, Eq.trans (World.drewN_drewN _ _ _) (congrArg (World.drewN _) (Nat.add_assoc _ _ _))⟩))); try go_wp2_with (first | ((with_reducible refine qam (N := 5) rfl ?_); refine bx_ 5 rfl (cs := #[.int .i64 0, .int .i64 0]) (t := 85) qa1 ?_; intro qcO hg w8 hbox hb; have qbI := ak_ (hbox); have qfE := ak_ (HB.ge hg); have qfq := ak_ (HB.ge hg); replace HB := HB.mw hb; clear hb hbox hg; obtain ⟨qgA, qgB, qgC, qgD⟩ := qbl qbI.1) | (go_at_call 208; (with_reducible refine (qbS.calls k1 qbx ((qad l0 qdl).f0) qcb _ A5.1).mono ?_); rintro e w' ⟨rfl, ⟨nd, rfl⟩⟩; (try first | exact ⟨rfl, _, World.drewN_drewN _ _ _⟩ | exact ⟨rfl, _, Eq.trans (World.drewN_drewN _ _ _) (congrArg (World.drewN _) (Nat.add_assoc _ _ _))⟩))))
    go_ret
    exact ⟨qca, qnp⟩
   rw [if_neg c7] at H; have qhx : decide (100000 < (wrap64 ((wrap64 (Int.tdiv qbx qcb)) * ((qad l0 qdl).f0)))) = false := decide_eq_false c7; clear c7; have H' := ak_ H; clear H; have qeC : 0 ≤ (qdl : Int) := of_decide_eq_true qaL; have qeJ : qdl < (l0.length : Int) := of_decide_eq_true qaL; obtain ⟨qfL, qg7, qbk, qbL⟩ := qc6 HR0.1 qdl qeC qeJ
   cases qg7
   replace qbk := (HB.1.cell (World.block_lt_of_cell? w _ qbk)).trans qbk; replace qbL := (HB.1.cell (World.block_lt_of_cell? w _ qbL)).trans qbL; replace qeC := eq_true qeC; replace qeJ := eq_true qeJ
   go_wp2_with (first | ((with_reducible refine qam (N := 5) rfl ?_); refine bx_ 5 rfl (cs := #[.int .i64 0, .int .i64 0]) (t := 85) qa1 ?_; intro qcO hg w10 hbox hb; have qbI := ak_ (hbox); have qfE := ak_ (HB.ge hg); have qfq := ak_ (HB.ge hg); replace HB := HB.mw hb; clear hb hbox hg; obtain ⟨qgj, qgk, qgl, qgm⟩ := qbl qbI.1) | (go_at_call 208; (with_reducible refine (qbS.calls k1 qbx ((qad l0 qdl).f0) qcb _ A5.1).mono ?_); rintro e w' ⟨rfl, ⟨nd, rfl⟩⟩; (try first | exact ⟨rfl, _, World.drewN_drewN _ _ _⟩ | exact ⟨rfl, _, Eq.trans (World.drewN_drewN _ _ _) (congrArg (World.drewN _) (Nat.add_assoc _ _ _))⟩)))
   repeat (go_quiet (first | ((with_reducible refine qam (N := 5) rfl ?_); refine bx_ 5 rfl (cs := #[.int .i64 0, .int .i64 0]) (t := 85) qa1 ?_; intro qcO hg w10 hbox hb; have qbI := ak_ (hbox); have qfE := ak_ (HB.ge hg); have qfq := ak_ (HB.ge hg); replace HB := HB.mw hb; clear hb hbox hg; obtain ⟨qgj, qgk, qgl, qgm⟩ := qbl qbI.1) | (go_at_call 208; (with_reducible refine (qbS.calls k1 qbx ((qad l0 qdl).f0) qcb _ A5.1).mono ?_); rintro e w' ⟨rfl, ⟨nd, rfl⟩⟩; (try first | exact ⟨rfl, _, World.drewN_drewN _ _ _⟩ | exact ⟨rfl, _, Eq.trans (World.drewN_drewN _ _ _) (congrArg (World.drewN _) (Nat.add_assoc _ _ _))⟩))); try go_wp2_with (first | ((with_reducible refine qam (N := 5) rfl ?_); refine bx_ 5 rfl (cs := #[.int .i64 0, .int .i64 0]) (t := 85) qa1 ?_; intro qcO hg w10 hbox hb; have qbI := ak_ (hbox); have qfE := ak_ (HB.ge hg); have qfq := ak_ (HB.ge hg); replace HB := HB.mw hb; clear hb hbox hg; obtain ⟨qgj, qgk, qgl, qgm⟩ := qbl qbI.1) | (go_at_call 208; (with_reducible refine (qbS.calls k1 qbx ((qad l0 qdl).f0) qcb _ A5.1).mono ?_); rintro e w' ⟨rfl, ⟨nd, rfl⟩⟩; (try first | exact ⟨rfl, _, World.drewN_drewN _ _ _⟩ | exact ⟨rfl, _, Eq.trans (World.drewN_drewN _ _ _) (congrArg (World.drewN _) (Nat.add_assoc _ _ _))⟩))))
   go_roundg k1
   case measure => have := HK1.1; omega
   case rel => exact ⟨(wrap64 ((wrap64 (Int.tdiv qbx qcb)) * ((qad l0 qdl).f0))), (wrap64 (qdl + 1)), qay, qay, H', ⟨qc9⟩, ⟨qnp⟩⟩
def qcz.l0 : Nat → Int → List (qac) → Int → Int → Option (Int)
 | 0, _, _, _, _ => none
 | k + 1, x1, x7, x8, x9 => if x9 < x8 then (if 0 ≤ x9 then (if x9 < (x7.length : Int) then ((qcB.f x1 ((qad x7 x9).f0)).bind fun qcb => (if qcb = ((qad x7 x9).f1) then (some x9) else (qcz.l0 k x1 x7 x8 (wrap64 (x9 + 1))))) else (none)) else (none)) else (some (-1))
def qcz.f (k : Nat) (l0 : List (qac)) (a1 : Int) : Option (Int) := qcz.l0 k a1 l0 (l0.length : Int) 0
theorem qcz.calls (k : Nat) (A0 : Option Addr) (c0 : Nat) (l0 : List (qac)) (a1 : Int) (r : Int) (w : World) (hr0 : Kd.C qaG w A0 l0.length l0) (hc0 : l0.length ≤ c0) (h : qcz.f k l0 a1 = some r) :
  Calls Tryz.prog 211 #[.slice A0 l0.length c0, .int .i64 a1] w fun e w' => e = .returned (.int .i64 r) ∧ Below w.heap.size w w' := by
 have qme := Tryz.underlying85; have HR0 := ak_ hr0; have HC0 := ak_ hc0; clear hr0 hc0; have HB := br_ w; have H : (qcz.l0 k a1 l0 (l0.length : Int) 0) = some r := h; clear h; have H' := ak_ H; clear H; go_enter Tryz.func211, Tryz.ntmps211; go_wp2
 repeat (go_quiet (fail); try go_wp2)
 go_loopg [9] k (fun kq v9 w' => ∃ (qdt : Int), v9 = .int .i64 qdt ∧ qai (qcz.l0 kq a1 l0 (l0.length : Int) qdt = some r) ∧ qai (kq ≤ k) ∧ qai (Below w.heap.size w w'))
 case atStart => exact ⟨(0), qay, H', ⟨Nat.le_refl _⟩, ⟨qao⟩⟩
 case round =>
  clear H'; obtain ⟨qdt, rfl, HA, HK1, HB⟩ := hrel
  cases gk with
  | zero => exact absurd HA.1 (by simp [qcz.l0])
  | succ k1 =>
   have H := HA.1; clear HA; simp only [qcz.l0] at H; by_cases c3 : qdt < (l0.length : Int); rotate_left
   ·rw [if_neg c3] at H; have qfr := decide_eq_false c3; clear c3; obtain rfl := sj_ H; go_wp2
    repeat (go_quiet (fail); try go_wp2)
    go_ret
    exact ⟨qca, qao⟩
   rw [if_pos c3] at H; have qfr := decide_eq_true c3; clear c3; obtain ⟨c4, H⟩ := qct H; have qfw := decide_eq_true c4; clear c4; obtain ⟨c5, H⟩ := qct H; have qgL := decide_eq_true c5; clear c5; obtain ⟨qcb, A6, H⟩ := qaB H; (try dsimp only at H); by_cases c7 : qcb = ((qad l0 qdt).f1)
   ·rw [if_pos c7] at H; have qhx : (qcb == ((qad l0 qdt).f1)) = true := beq_iff_eq.mpr c7; have qoH : (qcb != ((qad l0 qdt).f1)) = false := bne_eq_false_iff_eq.mpr c7; clear c7; obtain rfl := sj_ H; have qeC : 0 ≤ (qdt : Int) := of_decide_eq_true qaL; have qeJ : qdt < (l0.length : Int) := of_decide_eq_true qaL; obtain ⟨qfL, qg7, qbk, qbL⟩ := qc6 HR0.1 qdt qeC qeJ
    cases qg7
    replace qbk := (HB.1.cell (World.block_lt_of_cell? w _ qbk)).trans qbk; replace qbL := (HB.1.cell (World.block_lt_of_cell? w _ qbL)).trans qbL; replace qeC := eq_true qeC; replace qeJ := eq_true qeJ
    go_wp2_with (first | ((with_reducible refine qam (N := 6) rfl ?_); refine bx_ 6 rfl (cs := #[.int .i64 0, .int .i64 0]) (t := 85) qa1 ?_; intro qcO hg w8 hbox hb; have qbI := ak_ (hbox); have qfE := ak_ (HB.ge hg); have qfq := ak_ (HB.ge hg); replace HB := HB.mw hb; clear hb hbox hg; obtain ⟨qgA, qgB, qgC, qgD⟩ := qbl qbI.1) | (go_at_call 154; (with_reducible refine (qcB.calls a1 ((qad l0 qdt).f0) qcb _ A6.1).mono ?_); rintro e w' ⟨rfl, ⟨nd, rfl⟩⟩; (try first | exact ⟨rfl, _, World.drewN_drewN _ _ _⟩ | exact ⟨rfl, _, Eq.trans (World.drewN_drewN _ _ _) (congrArg (World.drewN _) (Nat.add_assoc _ _ _))⟩)))
    repeat (go_quiet (first | ((with_reducible refine qam (N := 6) rfl ?_); refine bx_ 6 rfl (cs := #[.int .i64 0, .int .i64 0]) (t := 85) qa1 ?_; intro qcO hg w8 hbox hb; have qbI := ak_ (hbox); have qfE := ak_ (HB.ge hg); have qfq := ak_ (HB.ge hg); replace HB := HB.mw hb; clear hb hbox hg; obtain ⟨qgA, qgB, qgC, qgD⟩ := qbl qbI.1) | (go_at_call 154; (with_reducible refine (qcB.calls a1 ((qad l0 qdt).f0) qcb _ A6.1).mono ?_); rintro e w' ⟨rfl, ⟨nd, rfl⟩⟩; (try first | exact ⟨rfl, _, World.drewN_drewN _ _ _⟩ | exact ⟨rfl, _, Eq.trans (World.drewN_drewN _ _ _) (congrArg (World.drewN _) (Nat.add_assoc _ _ _))⟩))); try go_wp2_with (first | ((with_reducible refine qam (N := 6) rfl ?_); refine bx_ 6 rfl (cs := #[.int .i64 0, .int .i64 0]) (t := 85) qa1 ?_; intro qcO hg w8 hbox hb; have qbI := ak_ (hbox); have qfE := ak_ (HB.ge hg); have qfq := ak_ (HB.ge hg); replace HB := HB.mw hb; clear hb hbox hg; obtain ⟨qgA, qgB, qgC, qgD⟩ := qbl qbI.1) | (go_at_call 154; (with_reducible refine (qcB.calls a1 ((qad l0 qdt).f0) qcb _ A6.1).mono ?_); rintro e w' ⟨rfl, ⟨nd, rfl⟩⟩; (try first | exact ⟨rfl, _, World.drewN_drewN _ _ _⟩ | exact ⟨rfl, _, Eq.trans (World.drewN_drewN _ _ _) (congrArg (World.drewN _) (Nat.add_assoc _ _ _))⟩))))
    go_ret
    exact ⟨qca, qnp⟩
   rw [if_neg c7] at H; have qhx : (qcb == ((qad l0 qdt).f1)) = false := beq_eq_false_iff_ne.mpr c7; have qoH : (qcb != ((qad l0 qdt).f1)) = true := bne_iff_ne.mpr c7; have H' := ak_ H; clear H; have qeC : 0 ≤ (qdt : Int) := of_decide_eq_true qaL; have qeJ : qdt < (l0.length : Int) := of_decide_eq_true qaL; obtain ⟨qfL, qg7, qbk, qbL⟩ := qc6 HR0.1 qdt qeC qeJ
   cases qg7
   replace qbk := (HB.1.cell (World.block_lt_of_cell? w _ qbk)).trans qbk; replace qbL := (HB.1.cell (World.block_lt_of_cell? w _ qbL)).trans qbL; replace qeC := eq_true qeC; replace qeJ := eq_true qeJ
   go_wp2_with (first | ((with_reducible refine qam (N := 6) rfl ?_); refine bx_ 6 rfl (cs := #[.int .i64 0, .int .i64 0]) (t := 85) qa1 ?_; intro qcO hg w10 hbox hb; have qbI := ak_ (hbox); have qfE := ak_ (HB.ge hg); have qfq := ak_ (HB.ge hg); replace HB := HB.mw hb; clear hb hbox hg; obtain ⟨qgj, qgk, qgl, qgm⟩ := qbl qbI.1) | (go_at_call 154; (with_reducible refine (qcB.calls a1 ((qad l0 qdt).f0) qcb _ A6.1).mono ?_); rintro e w' ⟨rfl, ⟨nd, rfl⟩⟩; (try first | exact ⟨rfl, _, World.drewN_drewN _ _ _⟩ | exact ⟨rfl, _, Eq.trans (World.drewN_drewN _ _ _) (congrArg (World.drewN _) (Nat.add_assoc _ _ _))⟩)))
   repeat (go_quiet (first | ((with_reducible refine qam (N := 6) rfl ?_); refine bx_ 6 rfl (cs := #[.int .i64 0, .int .i64 0]) (t := 85) qa1 ?_; intro qcO hg w10 hbox hb; have qbI := ak_ (hbox); have qfE := ak_ (HB.ge hg); have qfq := ak_ (HB.ge hg); replace HB := HB.mw hb; clear hb hbox hg; obtain ⟨qgj, qgk, qgl, qgm⟩ := qbl qbI.1) | (go_at_call 154; (with_reducible refine (qcB.calls a1 ((qad l0 qdt).f0) qcb _ A6.1).mono ?_); rintro e w' ⟨rfl, ⟨nd, rfl⟩⟩; (try first | exact ⟨rfl, _, World.drewN_drewN _ _ _⟩ | exact ⟨rfl, _, Eq.trans (World.drewN_drewN _ _ _) (congrArg (World.drewN _) (Nat.add_assoc _ _ _))⟩))); try go_wp2_with (first | ((with_reducible refine qam (N := 6) rfl ?_); refine bx_ 6 rfl (cs := #[.int .i64 0, .int .i64 0]) (t := 85) qa1 ?_; intro qcO hg w10 hbox hb; have qbI := ak_ (hbox); have qfE := ak_ (HB.ge hg); have qfq := ak_ (HB.ge hg); replace HB := HB.mw hb; clear hb hbox hg; obtain ⟨qgj, qgk, qgl, qgm⟩ := qbl qbI.1) | (go_at_call 154; (with_reducible refine (qcB.calls a1 ((qad l0 qdt).f0) qcb _ A6.1).mono ?_); rintro e w' ⟨rfl, ⟨nd, rfl⟩⟩; (try first | exact ⟨rfl, _, World.drewN_drewN _ _ _⟩ | exact ⟨rfl, _, Eq.trans (World.drewN_drewN _ _ _) (congrArg (World.drewN _) (Nat.add_assoc _ _ _))⟩))))
   go_roundg k1
   case measure => have := HK1.1; omega
   case rel => exact ⟨(wrap64 (qdt + 1)), qay, H', ⟨qc9⟩, ⟨qnp⟩⟩
def qcj.f (k : Nat) (l0 : List (qac)) (a1 : Int) : Option (Bool) := (qcz.f k l0 a1).bind fun qav => (some (decide (qav < 0)))
theorem qcj.calls (k : Nat) (A0 : Option Addr) (c0 : Nat) (l0 : List (qac)) (a1 : Int) (r : Bool) (w : World) (hr0 : Kd.C qaG w A0 l0.length l0) (hc0 : l0.length ≤ c0) (h : qcj.f k l0 a1 = some r) :
  Calls Tryz.prog 173 #[.slice A0 l0.length c0, .int .i64 a1] w fun e w' => e = .returned (.bool r) ∧ Below w.heap.size w w' := by
 have HR0 := ak_ hr0; have HC0 := ak_ hc0; clear hr0 hc0; have HB := br_ w; have H : ((qcz.f k l0 a1).bind fun qav => (some (decide (qav < 0)))) = some r := h; clear h; obtain ⟨qav, A3, H⟩ := qaB H; (try dsimp only at H); obtain rfl := sj_ H; go_enter Tryz.func173, Tryz.ntmps173
 go_wp2_with (first | (refine gl_ 7 Tryz.func211 #[.slice A0 l0.length c0, .int .i64 a1] rfl qbJ ?_; (with_reducible refine (qcz.calls k _ _ l0 a1 qav _ ?qaz ?qaA A3.1).mono ?_); (case qaz => exact qf0); (case qaA => exact qb9); rintro e w4 ⟨rfl, hb⟩; refine ⟨_, rfl, ?_⟩; replace HB := HB.mw hb; (try clear hb)))
 go_ret
 exact ⟨qca, qao⟩
def qbG.f (l0 : List (qac)) (a1 : Int) : Option ((List (qac))) := (some (([] : List (qac)) : List (qac))).bind fun qeW => (if 0 ≤ a1 then (if a1 ≤ (l0.length : Int) then ((some (l0.take (a1 : Int).toNat : List (qac))).bind fun qgU => (if qeW.length + qgU.length < 8796093022208 then ((some (qeW ++ qgU : List (qac))).bind fun qjc => (if 0 ≤ (wrap64 (a1 + 1)) then (if (wrap64 (a1 + 1)) ≤ (l0.length : Int) then ((some (l0.drop ((wrap64 (a1 + 1)) : Int).toNat : List (qac))).bind fun qiO => (if qjc.length + qiO.length < 8796093022208 then (some (qjc ++ qiO)) else (none))) else (none)) else (none))) else (none))) else (none)) else (none))
def qbG.T1 : Bool × List (List Nat × List Nat) := (true, [([], []), ([], []), ([], []), ([1, 2], [1, 2]), ([0, 3], [0, 3]), ([], []), ([], []), ([6], [6]), ([5, 7], [5, 7]), ([4, 8, 4], [4, 8]), ([9, 9, 0, 1, 2, 3, 4, 5, 6, 7, 8, 9], [9])])
def qbG.B1 : List Nat := [0, 0, 0, 6, 15, 0, 0, 64, 224, 511, 1023]
theorem qbG.tab1 : qhC .any (opsOf Tryz.f98 1) = qbG.T1 := by kernel_rfl
theorem qbG.qse : qeG qbG.T1.2 qbG.B1 = true := by kernel_rfl
theorem qbG.calls (A0 : Option Addr) (c0 : Nat) (l0 : List (qac)) (a1 : Int) (r : List (qac)) (w : World) (hr0 : Kd.C qaG w A0 l0.length l0) (hc0 : l0.length ≤ c0) (h : qbG.f l0 a1 = some r) :
  Calls Tryz.prog 98 #[.slice A0 l0.length c0, .int .i64 a1] w fun e w' => ∃ v0_ : Value, e = .returned (v0_) ∧ Kd.R qaG 85 w' w.heap.size (fun _ => True) v0_ r ∧ Below w.heap.size w w' := by
 have HR0 := ak_ hr0; have HC0 := ak_ hc0; clear hr0 hc0; have HB := br_ w; have H : ((some (([] : List (qac)) : List (qac))).bind fun qeW => (if 0 ≤ a1 then (if a1 ≤ (l0.length : Int) then ((some (l0.take (a1 : Int).toNat : List (qac))).bind fun qgU => (if qeW.length + qgU.length < 8796093022208 then ((some (qeW ++ qgU : List (qac))).bind fun qjc => (if 0 ≤ (wrap64 (a1 + 1)) then (if (wrap64 (a1 + 1)) ≤ (l0.length : Int) then ((some (l0.drop ((wrap64 (a1 + 1)) : Int).toNat : List (qac))).bind fun qiO => (if qjc.length + qiO.length < 8796093022208 then (some (qjc ++ qiO)) else (none))) else (none)) else (none))) else (none))) else (none)) else (none))) = some r := h; clear h
 obtain ⟨qeW, hy_⟩ : ∃ y_ : List (qac), y_ = (([] : List (qac))) := ⟨_, rfl⟩
 replace H : (if 0 ≤ a1 then (if a1 ≤ (l0.length : Int) then ((some (l0.take (a1 : Int).toNat : List (qac))).bind fun qgU => (if qeW.length + qgU.length < 8796093022208 then ((some (qeW ++ qgU : List (qac))).bind fun qjc => (if 0 ≤ (wrap64 (a1 + 1)) then (if (wrap64 (a1 + 1)) ≤ (l0.length : Int) then ((some (l0.drop ((wrap64 (a1 + 1)) : Int).toNat : List (qac))).bind fun qiO => (if qjc.length + qiO.length < 8796093022208 then (some (qjc ++ qiO)) else (none))) else (none)) else (none))) else (none))) else (none)) else (none)) = some r := qfb; have qet := ak_ hy_; clear hy_; obtain ⟨c3, H⟩ := qct H; have qfr := eq_true c3; have qlH := decide_eq_true c3; clear c3; obtain ⟨c4, H⟩ := qct H; have qfw := eq_true c4; have qlY := decide_eq_true c4; clear c4
 obtain ⟨qgU, hy_⟩ : ∃ y_ : List (qac), y_ = (l0.take (a1 : Int).toNat) := ⟨_, rfl⟩
 replace H : (if qeW.length + qgU.length < 8796093022208 then ((some (qeW ++ qgU : List (qac))).bind fun qjc => (if 0 ≤ (wrap64 (a1 + 1)) then (if (wrap64 (a1 + 1)) ≤ (l0.length : Int) then ((some (l0.drop ((wrap64 (a1 + 1)) : Int).toNat : List (qac))).bind fun qiO => (if qjc.length + qiO.length < 8796093022208 then (some (qjc ++ qiO)) else (none))) else (none)) else (none))) else (none)) = some r := qfb; have qiQ := ak_ hy_; clear hy_; obtain ⟨c5, H⟩ := qct H; have LMc5 := ak_ c5; clear c5
 obtain ⟨qjc, hy_⟩ : ∃ y_ : List (qac), y_ = (qeW ++ qgU) := ⟨_, rfl⟩
 replace H : (if 0 ≤ (wrap64 (a1 + 1)) then (if (wrap64 (a1 + 1)) ≤ (l0.length : Int) then ((some (l0.drop ((wrap64 (a1 + 1)) : Int).toNat : List (qac))).bind fun qiO => (if qjc.length + qiO.length < 8796093022208 then (some (qjc ++ qiO)) else (none))) else (none)) else (none)) = some r := qfb; have qoX := ak_ hy_; clear hy_
 obtain ⟨ji6, hji6⟩ : ∃ j_ : Int, (wrap64 (a1 + 1)) = j_ := ⟨_, rfl⟩
 replace H : (if 0 ≤ (ji6) then (if (ji6) ≤ (l0.length : Int) then ((some (l0.drop ((ji6) : Int).toNat : List (qac))).bind fun qiO => (if qjc.length + qiO.length < 8796093022208 then (some (qjc ++ qiO)) else (none))) else (none)) else (none)) = some r := by first | (rw [hji6] at H; exact H) | (simp only [hji6] at H ⊢; exact H)
 have hji6w : (IntKind.i64.wrap (a1 + 1)) = ji6 := (qec _).trans hji6; obtain ⟨c7, H⟩ := qct H; have qhx := eq_true c7; have qoH := decide_eq_true c7; clear c7; obtain ⟨c8, H⟩ := qct H; have qpc := eq_true c8; have c8b1 := decide_eq_true c8; clear c8
 obtain ⟨qiO, hy_⟩ : ∃ y_ : List (qac), y_ = (l0.drop ((ji6) : Int).toNat) := ⟨_, rfl⟩
 replace H : (if qjc.length + qiO.length < 8796093022208 then (some (qjc ++ qiO)) else (none)) = some r := qfb; have Ny111 := ak_ hy_; clear hy_; obtain ⟨c9, H⟩ := qct H; have LMc9 := ak_ c9; clear c9
 obtain ⟨y115, hy_⟩ : ∃ y_ : List (qac), y_ = (qjc ++ qiO) := ⟨_, rfl⟩
 replace H : (some y115) = some r := qfb; have Ny115 := ak_ hy_; clear hy_; obtain rfl := sj_ H; go_enter Tryz.func98, Tryz.ntmps98
 try go_wp2
 replace HB := ak_ (qah HB.1); have q11 : (a1 : Int) ≤ ((l0.length : Int) : Int) := of_decide_eq_true qaL; obtain ⟨i011, hi011, _, hsz11, _⟩ := info_parts qfV; have qtn : l0.length ≤ c0 := HC0.1; have hC11 : Kd.C qaG _ A0 l0.length l0 := HR0.1; have hcut11 := qkN (P := Tryz.prog) 26 85 .i64 Tryz.underlying26 hi011 A0 l0.length c0 a1 (of_decide_eq_true qaL) q11 qtn; have hr11 := Kd.qns (m := (a1 : Int).toNat) hC11 (by omega)
 have hy11 : qgU.length = (a1 : Int).toNat := (by rw [qiQ.1, List.length_take]; omega)
 rw [← qiQ.1] at hr11; rw [← hy11] at hcut11; have HR107 := ak_ hr11; have HC107 := ak_ (show qgU.length ≤ c0 from by omega); clear hr11 hC11 qtn hi011 hsz11; have KY11 := ak_ hy11; clear hy11; replace q11 := eq_true q11; have q12 : ((ji6) : Int) ≤ ((l0.length : Int) : Int) := of_decide_eq_true qaL; obtain ⟨i012, hi012, _, hsz12, _⟩ := info_parts qfV; have qpB : l0.length ≤ c0 := HC0.1; have hC12 : Kd.C qaG _ A0 l0.length l0 := HR0.1; have q012 : (0 : Int) ≤ ((ji6) : Int) := of_decide_eq_true qaL; have hcut12 := qkn (P := Tryz.prog) 26 85 .i64 Tryz.underlying26 hi012 2 hsz12 A0 l0.length c0 (ji6) q012 q12; have hr12 := Kd.C_drop (m := ((ji6) : Int).toNat) (c := c0) hC12 (by omega) qpB
 obtain ⟨A12, hA12⟩ : ∃ A1, A1 = (if c0 = ((ji6) : Int).toNat then A0 else (A0 : Option Addr).map (·.add (((ji6) : Int).toNat * 2))) := ⟨_, rfl⟩
 obtain ⟨c12, hc12⟩ : ∃ c1, c1 = c0 - ((ji6) : Int).toNat := ⟨_, rfl⟩
 have hy12 : qiO.length = l0.length - ((ji6) : Int).toNat := (by rw [Ny111.1, List.length_drop] <;> omega)
 rw [show (l0).drop ((ji6) : Int).toNat = qiO from Ny111.1.symm] at hr12
 replace hr12 : Kd.C qaG _ A12 qiO.length qiO := (by rw [hA12]; exact hr12)
 rw [← hy12, ← hA12, ← hc12] at hcut12; have HR114 := ak_ hr12; have HC114 := ak_ (show qiO.length ≤ c12 from by rw [hy12, hc12]; exact Nat.sub_le_sub_right qpB _); clear hr12 hC12 qpB hi012 hsz12 hc12; have KY12 := ak_ hy12; have KA12 := ak_ hA12; clear hy12 hA12; replace q12 := eq_true q12; refine qeS (n := 11) (S := fun w' => True) (ds := []) (rA_ [0, 11]) (by kernel_rfl) rfl rfl trivial (fun hHeld => ?_); refine qc0 qbG.tab1 qbG.qse (fun HT_ HW_ => ?_)
 generalize w.drew = w10 at HB HR107 HR114 hHeld ⊢
 refine pu_ 1 6 [0, 1, 1, 9] ?_; refine pu_ 2 7 [0, 1, 2, 8] ?_; refine pu_ 3 8 [0, 1, 3, 7] ?_; refine pu_ 5 10 [0, 1, 3, 1, 1, 5] ?_; refine pu_ 6 11 [0, 1, 3, 1, 2, 4] ?_; refine pu_ 7 12 [0, 1, 3, 1, 3, 3] ?_; refine pu_ 8 13 [0, 1, 3, 1, 4, 2] ?_; refine qfC (i := 0) (N := some 5) (rA_ [4, 1, 4, 2]) rfl rfl (qcJ HT_.out (by kernel_rfl)) (by decide) (fun K hK => ?_); refine Kd.qdJ qaG _ 85 ?hg (N := 5) ?hd (xs := ([] : List (qac))) (inner := []) (ok := fun _ => True) (okp := fun _ => True) ?hr ?hp (fun _ hk => hk) trivial (Below.refl _ _) (Nat.le_refl _) (by simp) ?_; (case hd => rfl); (case hg => rfl); (case hr => exact qa1); (case hp => exact (qep.none _ _)); intro qjd w13 qtj hb hg_ hnew_; clear hg_ hnew_; (first | rw [← qet.1] at qtj | (simp only [Int.reduceToNat] at qtj; rw [← qet.1] at qtj)); have qcI := ak_ (Kd.qaw qtj (qab qao)); replace HB := HB.mw hb; clear hb qtj; refine hK.out _ _ trivial (fun hHeld => ?_); clear hK K; refine nm_ 5 ?_; refine qfC (i := 4) (N := some 9) (rA_ [9, 2]) rfl rfl (qcJ HT_.out (by kernel_rfl)) (by decide) (fun K hK => ?_); refine Kd.qbQ qaG (w0 := w) w.heap.size (by rfl) (.tmp 5) (.tmp 8) 26 85 (.agg #[(.int .i64 0), (.int .i64 0)]) 16 rfl Tryz.underlying26 qfV rfl (by decide) (by omega) qjd qeW qgU _ _ _ (fun _ => True) (fun _ => False) rfl rfl ?aO ?aR (fun _ _ h => h) (fun _ h => h.elim) ?aF ?aB ?aS ?aL ?_
 (case aR => repeat (first | exact (Kd.qd0 HR107.1 HB.1) | (with_reducible refine Kd.C_alloc ?_ _) | (with_reducible refine Kd.C_drewN ?_ _) | (with_reducible refine Kd.C_drew ?_)))
 (case aB => exact qao)
 (case aF => exact (fun _ _ => trivial))
 (case aO => exact qoL)
 (case aS => exact (qab qao))
 (case aL => have := LMc5.1; omega)
 intro v109 w15 ho hb hg hat; rw [← qoX.1] at ho; replace HB := ak_ (hb); have qnw := ak_ (ho); clear qcI; clear ho hb hg hat; refine hK.out _ _ trivial (fun hHeld => ?_); clear hK K; refine nm_ 9 ?_; refine qfC (i := 9) (N := some 14) (rA_ [10, 1]) rfl rfl (qcJ HT_.out (by kernel_rfl)) (by decide) (fun K hK => ?_); refine Kd.qbQ qaG (w0 := w) w.heap.size (by rfl) (.tmp 9) (.tmp 13) 26 85 (.agg #[(.int .i64 0), (.int .i64 0)]) 16 rfl Tryz.underlying26 qfV rfl (by decide) (by omega) v109 qjc qiO _ _ _ (fun _ => True) (fun _ => False) rfl rfl ?aO ?aR (fun _ _ h => h) (fun _ h => h.elim) ?aF ?aB ?aS ?aL ?_
 (case aR => repeat (first | exact (Kd.qd0 HR114.1 HB.1) | (with_reducible refine Kd.C_alloc ?_ _) | (with_reducible refine Kd.C_drewN ?_ _) | (with_reducible refine Kd.C_drew ?_)))
 (case aB => exact qao)
 (case aF => exact (fun _ _ => trivial))
 (case aO => exact (by apply_rules only [qnw.1, Kd.qaq, Kd.qar, Kd.qax]))
 (case aS => exact (qab qao))
 (case aL => have := LMc9.1; omega)
 intro v116 w16 ho hb hg hat; rw [← Ny115.1] at ho; replace HB := ak_ (hb); have HO117 := ak_ (ho); clear qnw; clear ho hb hg hat; refine hK.out _ _ trivial (fun hHeld => ?_); clear hK K; refine nm_ 14 ?_; refine pu_ 10 4 [11] ?_; refine qf5 (qeh HT_.out (by kernel_rfl)) ?_
 try go_wp2
 go_ret
 exact ⟨_, by first | rfl | (simp [qea, qeb] <;> rfl) | (simp only [← hji6]; first | rfl | (simp [qea, qeb] <;> rfl)) | (simp [*, qea, qeb] <;> rfl), by (with_reducible repeat (first | apply Kd.qaq | apply Kd.qar | apply Kd.qax)); exact HO117.1, qao⟩
def qbw.l0 : Nat → List (qac) → Int → Int → List (qac) → Int → Option (Bool)
 | 0, _, _, _, _, _ => none
 | k + 1, x0, x1, x2, x7, x8 => if x8 < x2 then ((qcj.f k x7 x8).bind fun t105 => (if t105 = true then (some false) else (if 0 ≤ x1 then (if x1 < (x0.length : Int) then (qbw.l0 k x0 x1 x2 x7 (wrap64 (x8 + ((qad x0 x1).f0)))) else (none)) else (none)))) else (some true)
def qbw.f (k : Nat) (l0 : List (qac)) (a1 : Int) (a2 : Int) : Option (Bool) := (qbG.f l0 a1).bind fun qav => (if 0 ≤ a1 then (if a1 < (l0.length : Int) then (qbw.l0 k l0 a1 a2 qav ((qad l0 a1).f1)) else (none)) else (none))
theorem qbw.calls (k : Nat) (A0 : Option Addr) (c0 : Nat) (l0 : List (qac)) (a1 : Int) (a2 : Int) (r : Bool) (w : World) (hr0 : Kd.C qaG w A0 l0.length l0) (hc0 : l0.length ≤ c0) (h : qbw.f k l0 a1 a2 = some r) :
  Calls Tryz.prog 156 #[.slice A0 l0.length c0, .int .i64 a1, .int .i64 a2] w fun e w' => e = .returned (.bool r) ∧ Below w.heap.size w w' := by
 have HR0 := ak_ hr0; have HC0 := ak_ hc0; clear hr0 hc0; have HB := br_ w; have H : ((qbG.f l0 a1).bind fun qav => (if 0 ≤ a1 then (if a1 < (l0.length : Int) then (qbw.l0 k l0 a1 a2 qav ((qad l0 a1).f1)) else (none)) else (none))) = some r := h; clear h; obtain ⟨qav, A4, H⟩ := qaB H; (try dsimp only at H); obtain ⟨c5, H⟩ := qct H; have qgL := decide_eq_true c5; clear c5; obtain ⟨c6, H⟩ := qct H; have qgc := decide_eq_true c6; clear c6; have H' := ak_ H; clear H; go_enter Tryz.func156, Tryz.ntmps156
 go_wp2_with (first | (refine gl_ 11 Tryz.func98 #[.slice A0 l0.length c0, .int .i64 a1] rfl qbJ ?_; (with_reducible refine (qbG.calls _ _ l0 a1 qav _ ?qaz ?qaA A4.1).mono ?_); (case qaz => exact qf0); (case qaA => exact qb9); rintro e w7 ⟨qjd, rfl, ho0, hb⟩; refine ⟨_, rfl, ?_⟩; have qcI := ak_ (Kd.qaw ho0 (qab qao)); replace HB := HB.mw hb; (try clear hb ho0); have qhz : 0 ≤ (a1 : Int) := of_decide_eq_true qaL; have qhA : a1 < (l0.length : Int) := of_decide_eq_true qaL; obtain ⟨qia, qnT, qd5, qiA⟩ := qc6 HR0.1 a1 qhz qhA; cases qnT; replace qd5 := (HB.1.cell (World.block_lt_of_cell? w _ qd5)).trans qd5; replace qiA := (HB.1.cell (World.block_lt_of_cell? w _ qiA)).trans qiA; replace qhz := eq_true qhz; replace qhA := eq_true qhA))
 go_loopg [8] k (fun kq v8 w' => ∃ (qdl : Int), v8 = .int .i64 qdl ∧ qai (qbw.l0 kq l0 a1 a2 qav qdl = some r) ∧ qai (kq ≤ k) ∧ qai (Kd.R qaG 85 w' w.heap.size (fun _ => True) qjd qav) ∧ qai (Below w.heap.size w w'))
 case atStart => exact ⟨((qad l0 a1).f1), qay, H', ⟨Nat.le_refl _⟩, ⟨qoL⟩, ⟨qao⟩⟩
 case round =>
  clear H'
  skip
  obtain ⟨qdl, rfl, HA, HK1, qiP, HB⟩ := hrel
  cases gk with
  | zero => exact absurd HA.1 (by simp [qbw.l0])
  | succ k1 =>
   have H := HA.1; clear HA; simp only [qbw.l0] at H; by_cases c8 : qdl < a2; rotate_left
   ·rw [if_neg c8] at H; have qpc := decide_eq_false c8; clear c8; obtain rfl := sj_ H; go_wp2
    go_ret
    exact ⟨qca, qao⟩
   rw [if_pos c8] at H; have qpc := decide_eq_true c8; clear c8; obtain ⟨t105, A9, H⟩ := qaB H; (try dsimp only at H); by_cases c10 : t105 = true
   ·subst c10; rw [if_pos rfl] at H; obtain rfl := sj_ H; obtain ⟨Ao11, co11, eo11⟩ := Kd.qaI qiP.1; subst eo11
    go_wp2_with (first | (refine gl_ 29 Tryz.func173 #[.slice Ao11 qav.length co11, .int .i64 qdl] rfl qbJ ?_; (with_reducible refine (qcj.calls k1 _ _ qav qdl true _ ?qaz ?qaA A9.1).mono ?_); (case qaz => exact k44_); (case qaA => exact (Kd.qan qiP.1).2.1); rintro e w12 ⟨rfl, hb⟩; refine ⟨_, rfl, ?_⟩; replace qiP := qiP.mw hb; replace HB := HB.mw hb; (try clear hb)))
    go_ret
    exact ⟨qca, qao⟩
   replace c10 := Bool.eq_false_iff.mpr c10; subst c10; rw [if_neg ff_] at H; obtain ⟨c13, H⟩ := qct H; have qmP := decide_eq_true c13; clear c13; obtain ⟨c14, H⟩ := qct H; have qpa := decide_eq_true c14; clear c14; have H' := ak_ H; clear H; obtain ⟨Ao15, co15, eo15⟩ := Kd.qaI qiP.1; subst eo15
   go_wp2_with (first | (refine gl_ 29 Tryz.func173 #[.slice Ao15 qav.length co15, .int .i64 qdl] rfl qbJ ?_; (with_reducible refine (qcj.calls k1 _ _ qav qdl false _ ?qaz ?qaA A9.1).mono ?_); (case qaz => exact k44_); (case qaA => exact (Kd.qan qiP.1).2.1); rintro e w16 ⟨rfl, hb⟩; refine ⟨_, rfl, ?_⟩; replace qiP := qiP.mw hb; replace HB := HB.mw hb; (try clear hb); have qfW : 0 ≤ (a1 : Int) := of_decide_eq_true qaL; have qfX : a1 < (l0.length : Int) := of_decide_eq_true qaL; obtain ⟨qg4, qke, qcu, qiB⟩ := qc6 HR0.1 a1 qfW qfX; obtain rfl : qia = qg4 := (by injection qke); replace qcu := (HB.1.cell (World.block_lt_of_cell? w _ qcu)).trans qcu; replace qiB := (HB.1.cell (World.block_lt_of_cell? w _ qiB)).trans qiB; replace qfW := eq_true qfW; replace qfX := eq_true qfX))
   go_roundg k1
   case measure => have := HK1.1; omega
   case rel => exact ⟨(wrap64 (qdl + ((qad l0 a1).f0))), qay, H', ⟨qc9⟩, ⟨k91_⟩, ⟨qao⟩⟩
mutual
def qaM.j0 : Nat → List (qac) → Bool → Option ((List (qac)) × Bool)
 | 0, _, _ => none
 | k + 1, x0, x14 => if x14 = true then (some (([] : List (qac)), false)) else ((qbg.f k x0).bind fun qcb => ((some (([] : List (qac)) : List (qac))).bind fun qgU => (if qgU.length + x0.length < 8796093022208 then ((some (qgU ++ x0 : List (qac))).bind fun qfZ => (qaM.l0 k qcb qfZ (wrap64 ((qfZ.length : Int) - 1)))) else (none))))
def qaM.l0 : Nat → Int → List (qac) → Int → Option ((List (qac)) × Bool)
 | 0, _, _, _ => none
 | k + 1, x4, x5, x6 => if x6 ≥ 0 then ((qbw.f k x5 x6 x4).bind fun qlA => (if qlA = true then ((qbG.f x5 x6).bind fun qjB => (qaM.l0 k x4 qjB (wrap64 (x6 - 1)))) else (qaM.l0 k x4 x5 (wrap64 (x6 - 1))))) else (some (x5, true))
end
def qaM.f (k : Nat) (l0 : List (qac)) : Option ((List (qac)) × Bool) := (qaP.f k l0).bind fun qav => (if qav = true then ((qbg.f k l0).bind fun qaQ => (qaM.j0 k l0 (qaQ == 0))) else (qaM.j0 k l0 true))
theorem qaM.calls (k : Nat) (A0 : Option Addr) (c0 : Nat) (l0 : List (qac)) (r1 : List (qac)) (r2 : Bool) (w : World) (hr0 : Kd.C qaG w A0 l0.length l0) (hc0 : l0.length ≤ c0) (h : qaM.f k l0 = some (r1, r2)) :
  Calls Tryz.prog 102 #[.slice A0 l0.length c0] w fun e w' => ∃ v0_ : Value, e = .returned (.tuple #[v0_, .bool r2]) ∧ Kd.R qaG 85 w' w.heap.size (fun _ => True) v0_ r1 ∧ Below w.heap.size w w' := by
 have HR0 := ak_ hr0; have HC0 := ak_ hc0; clear hr0 hc0; have HB := br_ w; have H : ((qaP.f k l0).bind fun qav => (if qav = true then ((qbg.f k l0).bind fun qaQ => (qaM.j0 k l0 (qaQ == 0))) else (qaM.j0 k l0 true))) = some (r1, r2) := h; clear h; have HC2 := ak_ H; clear H; go_enter Tryz.func102, Tryz.ntmps102
 go_upto_region 1 with (fail)
 go_cut [14] (fun v14 wc => ∃ (kq : Nat) (qef : Bool), v14 = .bool qef ∧ qai (qaM.j0 kq l0 qef = some (r1, r2)) ∧ qai (kq ≤ k) ∧ qai (Below w.heap.size w wc))
 case first =>
  have H := HC2.1; clear HC2; obtain ⟨qav, A3, H⟩ := qaB H; (try dsimp only at H); by_cases c4 : qav = true
  ·subst c4; rw [if_pos rfl] at H; obtain ⟨qaQ, A5, H⟩ := qaB H; (try dsimp only at H); have H' := ak_ H; clear H
   go_wp2_with (first | (refine gl_ 8 Tryz.func60 #[.slice A0 l0.length c0] rfl qbJ ?_; (with_reducible refine (qaP.calls k _ _ l0 true _ ?qaz ?qaA A3.1).mono ?_); (case qaz => exact qhr); (case qaA => exact qb9); rintro e w6 ⟨rfl, hb⟩; refine ⟨_, rfl, ?_⟩; replace HB := HB.mw hb; (try clear hb)) | (go_at_call 155; (with_reducible refine (qbg.calls k _ _ l0 qaQ _ ?qaz ?qaA A5.1).mono ?_); (case qaz => exact qhr); (case qaA => exact qb9); rintro e w7 ⟨rfl, hb⟩; replace HB := HB.mw hb; (try clear hb)))
   go_meet
   case rel => exact ⟨_, ((qaQ == 0)), qay, H', ⟨qiC⟩, ⟨qao⟩⟩
  replace c4 := Bool.eq_false_iff.mpr c4; subst c4; rw [if_neg ff_] at H; have H' := ak_ H; clear H
  go_wp2_with (first | (refine gl_ 8 Tryz.func60 #[.slice A0 l0.length c0] rfl qbJ ?_; (with_reducible refine (qaP.calls k _ _ l0 false _ ?qaz ?qaA A3.1).mono ?_); (case qaz => exact qhr); (case qaA => exact qb9); rintro e w8 ⟨rfl, hb⟩; refine ⟨_, rfl, ?_⟩; replace HB := HB.mw hb; (try clear hb)))
  go_meet
  case rel => exact ⟨_, (true), qay, H', ⟨qiC⟩, ⟨qao⟩⟩
 case rest =>
  clear HC2; obtain ⟨kq, qef, rfl, HA, HJ1, HB⟩ := hcut
  cases kq with
  | zero => exact absurd HA.1 (by simp [qaM.j0])
  | succ kj1 =>
   have H := HA.1; clear HA; simp only [qaM.j0] at H; by_cases c9 : qef = true
   ·subst c9; rw [if_pos rfl] at H; obtain ⟨rfl, rfl⟩ := qdQ H; go_wp2
    go_ret2
    exact ⟨_, qca, qhg, qao⟩
   replace c9 := Bool.eq_false_iff.mpr c9; subst c9; rw [if_neg ff_] at H; obtain ⟨qcb, A10, H⟩ := qaB H; (try dsimp only at H)
   obtain ⟨qgU, hy_⟩ : ∃ y_ : List (qac), y_ = (([] : List (qac))) := ⟨_, rfl⟩
   replace H : (if qgU.length + l0.length < 8796093022208 then ((some (qgU ++ l0 : List (qac))).bind fun qfZ => (qaM.l0 kj1 qcb qfZ (wrap64 ((qfZ.length : Int) - 1)))) else (none)) = some (r1, r2) := qfb; have qiQ := ak_ hy_; clear hy_; obtain ⟨c11, H⟩ := qct H; have qoU := ak_ c11; clear c11
   obtain ⟨qfZ, hy_⟩ : ∃ y_ : List (qac), y_ = (qgU ++ l0) := ⟨_, rfl⟩
   replace H : (qaM.l0 kj1 qcb qfZ (wrap64 ((qfZ.length : Int) - 1))) = some (r1, r2) := qfb; have qj9 := ak_ hy_; clear hy_; have H' := ak_ H; clear H
   go_wp2_with (first | (refine gl_ 16 Tryz.func155 #[.slice A0 l0.length c0] rfl qbJ ?_; (with_reducible refine (qbg.calls kj1 _ _ l0 qcb _ ?qaz ?qaA A10.1).mono ?_); (case qaz => exact qhr); (case qaA => exact qb9); rintro e w12 ⟨rfl, hb⟩; refine ⟨_, rfl, ?_⟩; replace HB := HB.mw hb; (try clear hb)) | ((with_reducible refine qam (N := 17) rfl ?_); refine Kd.qhH qaG _ 85 ?hg (N := 17) ?hd (xs := ([] : List (qac))) (inner := []) (ok := fun _ => True) (okp := fun _ => True) ?hr ?hp (fun _ hk => hk) trivial (Below.refl _ _) (Nat.le_refl _) (by simp) ?_; (case hd => rfl); (case hg => rfl); (case hr => exact qa1); (case hp => exact (qep.none _ _)); intro v105 w13 qtj hb hg_ hnew_; clear hg_ hnew_; (first | rw [← qiQ.1] at qtj | (simp only [Int.reduceToNat] at qtj; rw [← qiQ.1] at qtj)); have qff := ak_ (Kd.qaw qtj (qab qao)); replace HB := HB.mw hb; clear hb qtj) | ((with_reducible refine qa5 (b := .append) (xs := #[.tmp 17, .tmp 18]) rfl ?_); at_builtin; refine Kd.qdS qaG (w0 := w) w.heap.size rfl (.tmp 17) (.tmp 18) 26 85 (.agg #[(.int .i64 0), (.int .i64 0)]) 16 rfl Tryz.underlying26 qfV rfl (by decide) (by omega) v105 qgU l0 _ _ _ (fun _ => True) (fun _ => False) rfl rfl ?aO ?aR (fun _ _ h => h) (fun _ h => h.elim) ?aF ?aB ?aS ?aL ?_; (case aR => repeat (first | exact (Kd.qd0 HR0.1 HB.1) | (with_reducible refine Kd.C_alloc ?_ _) | (with_reducible refine Kd.C_drewN ?_ _) | (with_reducible refine Kd.C_drew ?_))); (case aB => exact qao); (case aF => exact (fun _ _ => trivial)); (case aO => exact k84_); (case aS => exact (qab qao)); (case aL => have := qoU.1; omega); intro v108 w15 ho hb hg hat; rw [← qj9.1] at ho; replace HB := ak_ (hb); have qeg := ak_ (ho); clear qff; clear ho hb hg hat; obtain ⟨Ao16, co16, eo16⟩ := Kd.qaI qeg.1; subst eo16))
   go_loopg [5, 6] kj1 (fun kq v5 v6 w' => ∃ (qf3 : List (qac)) (qhD : Int), v6 = .int .i64 qhD ∧ qai (qaM.l0 kq qcb qf3 qhD = some (r1, r2)) ∧ qai (kq ≤ kj1) ∧ qai (Kd.R qaG 85 w' w.heap.size (fun _ => True) v5 qf3) ∧ qai (Below w.heap.size w w'))
   case atStart => exact ⟨(qfZ), (wrap64 ((qfZ.length : Int) - 1)), qay, H', ⟨Nat.le_refl _⟩, ⟨by apply_rules only [qeg.1, Kd.qaq, Kd.qar, Kd.qax]⟩, ⟨qao⟩⟩
   case round =>
    clear H'; (try clear c9); (try clear c11); obtain ⟨qf3, qhD, rfl, HA, HK2, qgT, HB⟩ := hrel
    cases gk with
    | zero => exact absurd HA.1 (by simp [qaM.l0])
    | succ k2 =>
     have H := HA.1; clear HA; simp only [qaM.l0] at H; by_cases c17 : qhD ≥ 0; rotate_left
     ·rw [if_neg c17] at H; have c17b0 : decide (0 ≤ qhD) = false := decide_eq_false c17; clear c17; obtain ⟨rfl, rfl⟩ := qdQ H; go_wp2
      go_ret2
      exact ⟨_, qca, k65_, qao⟩
     rw [if_pos c17] at H; have c17b0 : decide (0 ≤ qhD) = true := decide_eq_true c17; clear c17; obtain ⟨qlA, A18, H⟩ := qaB H; (try dsimp only at H); by_cases c19 : qlA = true
     ·subst c19; rw [if_pos rfl] at H; obtain ⟨qjB, A20, H⟩ := qaB H; (try dsimp only at H); have H' := ak_ H; clear H; obtain ⟨qrM, qqk, eo21⟩ := Kd.qaI qgT.1; subst eo21
      go_wp2_with (first | (refine gl_ 30 Tryz.func156 #[.slice qrM qf3.length qqk, .int .i64 qhD, .int .i64 qcb] rfl qbJ ?_; (with_reducible refine (qbw.calls k2 _ _ qf3 qhD qcb true _ ?qaz ?qaA A18.1).mono ?_); (case qaz => exact k43_); (case qaA => exact (Kd.qan qgT.1).2.1); rintro e w22 ⟨rfl, hb⟩; refine ⟨_, rfl, ?_⟩; replace qgT := qgT.mw hb; replace HB := HB.mw hb; (try clear hb)) | (refine gl_ 33 Tryz.func98 #[.slice qrM qf3.length qqk, .int .i64 qhD] rfl qbJ ?_; (with_reducible refine (qbG.calls _ _ qf3 qhD qjB _ ?qaz ?qaA A20.1).mono ?_); (case qaz => exact k43_); (case qaA => exact (Kd.qan qgT.1).2.1); rintro e w23 ⟨v112, rfl, ho0, hb⟩; refine ⟨_, rfl, ?_⟩; have qq4 := ak_ (Kd.qaw (Kd.qhI ho0 (Kd.qkb qoM)) (qab qao)); replace qgT := ak_ (Kd.qfv qoM (Kd.qfm ho0) hb); replace HB := HB.mw hb; (try clear hb ho0)))
      go_roundg k2
      case measure => have := HJ1.1; have := HK2.1; omega
      case rel => exact ⟨(qjB), (wrap64 (qhD - 1)), qay, H', ⟨by have := HJ1.1; have := HK2.1; omega⟩, ⟨by (with_reducible repeat (first | apply Kd.qaq | apply Kd.qar | apply Kd.qax)); exact Kd.qa2 qq4.1 (fun _ hk => trivial)⟩, ⟨qao⟩⟩
     replace c19 := Bool.eq_false_iff.mpr c19; subst c19; rw [if_neg ff_] at H; have H' := ak_ H; clear H; obtain ⟨Ao24, co24, eo24⟩ := Kd.qaI qgT.1; subst eo24
     go_wp2_with (first | (refine gl_ 30 Tryz.func156 #[.slice Ao24 qf3.length co24, .int .i64 qhD, .int .i64 qcb] rfl qbJ ?_; (with_reducible refine (qbw.calls k2 _ _ qf3 qhD qcb false _ ?qaz ?qaA A18.1).mono ?_); (case qaz => exact k43_); (case qaA => exact (Kd.qan qgT.1).2.1); rintro e w25 ⟨rfl, hb⟩; refine ⟨_, rfl, ?_⟩; replace qgT := qgT.mw hb; replace HB := HB.mw hb; (try clear hb)))
     go_roundg k2
     case measure => have := HJ1.1; have := HK2.1; omega
     case rel => exact ⟨(qf3), (wrap64 (qhD - 1)), qay, H', ⟨by have := HJ1.1; have := HK2.1; omega⟩, ⟨qoM⟩, ⟨qao⟩⟩
def qcs.l0 : Nat → Int → Int → Option (Int)
 | 0, _, _ => none
 | k + 1, x0, x3 => if (wrap64 (x3 * x3)) ≤ x0 then (if x3 = 0 then (none) else (if (Int.tmod x0 x3) = 0 then (some x3) else (qcs.l0 k x0 (wrap64 (x3 + 1))))) else (some x0)
def qcs.f (k : Nat) (a0 : Int) : Option (Int) := qcs.l0 k a0 2
theorem qcs.calls (k : Nat) (a0 : Int) (r : Int) (w : World) (h : qcs.f k a0 = some r) :
  Calls Tryz.prog 209 #[.int .i64 a0] w fun e w' => e = .returned (.int .i64 r) ∧ qcY w w' := by
 have H : (qcs.l0 k a0 2) = some r := h; clear h; have H' := ak_ H; clear H; go_enter Tryz.func209, Tryz.ntmps209; go_wp2
 go_loopg [3] k (fun kq v3 w' => ∃ (qbx : Int), v3 = .int .i64 qbx ∧ qai (qcs.l0 kq a0 qbx = some r) ∧ qai (kq ≤ k) ∧ qcY w w')
 case atStart => exact ⟨(2), qay, H', ⟨Nat.le_refl _⟩, qc3⟩
 case round =>
  clear H'; obtain ⟨qbx, rfl, HA, HK1, ⟨m1, rfl⟩⟩ := hrel
  cases gk with
  | zero => exact absurd HA.1 (by simp [qcs.l0])
  | succ k1 =>
   have H := HA.1; clear HA; simp only [qcs.l0] at H; by_cases c2 : (wrap64 (qbx * qbx)) ≤ a0; rotate_left
   ·rw [if_neg c2] at H; have qfB := decide_eq_false c2; clear c2; obtain rfl := sj_ H; go_wp2
    go_ret
    exact ⟨qay, qc3⟩
   rw [if_pos c2] at H; have qfB := decide_eq_true c2; clear c2; by_cases c3 : qbx = 0
   ·rw [if_pos c3] at H; exact absurd H (by simp)
   rw [if_neg c3] at H; have qfr : (qbx == 0) = false := beq_eq_false_iff_ne.mpr c3; have qlH : (qbx != 0) = true := bne_iff_ne.mpr c3; by_cases c4 : (Int.tmod a0 qbx) = 0
   ·rw [if_pos c4] at H; have qfw : ((Int.tmod a0 qbx) == 0) = true := beq_iff_eq.mpr c4; have qlY : ((Int.tmod a0 qbx) != 0) = false := bne_eq_false_iff_eq.mpr c4; clear c4; obtain rfl := sj_ H; go_wp2
    go_ret
    exact ⟨qay, qc3⟩
   rw [if_neg c4] at H; have qfw : ((Int.tmod a0 qbx) == 0) = false := beq_eq_false_iff_ne.mpr c4; have qlY : ((Int.tmod a0 qbx) != 0) = true := bne_iff_ne.mpr c4; have H' := ak_ H; clear H; go_wp2
   go_roundg k1
   case measure => have := HK1.1; omega
   case rel => exact ⟨(wrap64 (qbx + 1)), qay, H', ⟨qc9⟩, qc3⟩
def qfe.f (k : Nat) (a0 : Int) : Option (Bool) := if a0 ≥ 2 then ((qcs.f k a0).bind fun qav => (some (qav == a0))) else (some false)
theorem qfe.calls (k : Nat) (a0 : Int) (r : Bool) (w : World) (h : qfe.f k a0 = some r) :
  Calls Tryz.prog 210 #[.int .i64 a0] w fun e w' => e = .returned (.bool r) ∧ qcY w w' := by
 have H : (if a0 ≥ 2 then ((qcs.f k a0).bind fun qav => (some (qav == a0))) else (some false)) = some r := h; clear h; by_cases c2 : a0 ≥ 2
 ·rw [if_pos c2] at H; have qfB : decide (2 ≤ a0) = true := decide_eq_true c2; clear c2; obtain ⟨qav, A3, H⟩ := qaB H; (try dsimp only at H); obtain rfl := sj_ H; go_enter Tryz.func210, Tryz.ntmps210
  go_wp2_with (first | (go_at_call 209; (with_reducible refine (qcs.calls k a0 qav _ A3.1).mono ?_); rintro e w' ⟨rfl, ⟨nd, rfl⟩⟩))
  go_ret
  exact ⟨qay, qc3⟩
 rw [if_neg c2] at H; have qfB : decide (2 ≤ a0) = false := decide_eq_false c2; clear c2; obtain rfl := sj_ H; go_enter Tryz.func210, Tryz.ntmps210; go_wp2
 go_ret
 exact ⟨qay, qc3⟩
def qcV.l0 : Nat → Int → List Int → Int → Option (List Int)
 | 0, _, _, _ => none
 | k + 1, x0, x3, x4 => if (x3.length : Int) < x0 then ((qfe.f k x4).bind fun qav => (if qav = true then (if x3.length < 17592186044416 then (qcV.l0 k x0 (x3 ++ [x4]) (wrap64 (x4 + 1))) else (none)) else (qcV.l0 k x0 x3 (wrap64 (x4 + 1))))) else (some x3)
def qcV.f (k : Nat) (a0 : Int) : Option (List Int) := qcV.l0 k a0 ([] : List Int) 2
theorem qcV.calls (k : Nat) (a0 : Int) (r : List Int) (w : World) (h : qcV.f k a0 = some r) :
  Calls Tryz.prog 202 #[.int .i64 a0] w fun e w' => ∃ v0_ : Value, e = .returned (v0_) ∧ Kd.R (Kd.int .i64) 3 w' w.heap.size (fun _ => True) v0_ r ∧ Below w.heap.size w w' := by
 have HB := br_ w; have H : (qcV.l0 k a0 ([] : List Int) 2) = some r := h; clear h; have H' := ak_ H; clear H; go_enter Tryz.func202, Tryz.ntmps202; go_wp2
 go_loopg [3, 4] k (fun kq v3 v4 w' => ∃ (qbx : List Int) (qcP : Int), v4 = .int .i64 qcP ∧ qai (qcV.l0 kq a0 qbx qcP = some r) ∧ qai (kq ≤ k) ∧ qai (Kd.R (Kd.int .i64) 3 w' w.heap.size (fun _ => True) v3 qbx) ∧ qai (Below w.heap.size w w'))
 case atStart => exact ⟨(([] : List Int)), (2), qay, H', ⟨Nat.le_refl _⟩, ⟨qhg⟩, ⟨qao⟩⟩
 case round =>
  clear H'; obtain ⟨qbx, qcP, rfl, HA, HK1, qdu, HB⟩ := hrel
  cases gk with
  | zero => exact absurd HA.1 (by simp [qcV.l0])
  | succ k1 =>
   have H := HA.1; clear HA; simp only [qcV.l0] at H; by_cases c2 : (qbx.length : Int) < a0; rotate_left
   ·rw [if_neg c2] at H; have qfB := decide_eq_false c2; clear c2; obtain rfl := sj_ H; obtain ⟨Ao9, co9, eo9⟩ := Kd.qaI qdu.1; subst eo9; go_wp2
    go_ret
    exact ⟨_, qca, k64_, qao⟩
   rw [if_pos c2] at H; have qfB := decide_eq_true c2; clear c2; obtain ⟨qav, A3, H⟩ := qaB H; (try dsimp only at H); by_cases c4 : qav = true; rotate_left
   ·replace c4 := Bool.eq_false_iff.mpr c4; subst c4; rw [if_neg ff_] at H; have H' := ak_ H; clear H; obtain ⟨Ao8, co8, eo8⟩ := Kd.qaI qdu.1; subst eo8
    go_wp2_with (first | (refine gl_ 12 Tryz.func210 #[.int .i64 qcP] rfl qbJ ?_; (with_reducible refine (qfe.calls k1 qcP false _ A3.1).mono ?_); rintro e w' ⟨rfl, ⟨nd, rfl⟩⟩; refine ⟨_, rfl, ?_⟩))
    go_roundg k1
    case measure => have := HK1.1; omega
    case rel => exact ⟨(qbx), (wrap64 (qcP + 1)), qay, H', ⟨qc9⟩, ⟨qib⟩, ⟨qao⟩⟩
   subst c4; rw [if_pos rfl] at H; obtain ⟨c5, H⟩ := qct H; have LMc5 := ak_ c5; clear c5
   obtain ⟨qim, hy_⟩ : ∃ y_ : List Int, y_ = (qbx ++ [qcP]) := ⟨_, rfl⟩
   replace H : (qcV.l0 k1 a0 qim (wrap64 (qcP + 1))) = some r := qfb; have qgI := ak_ hy_; clear hy_; have H' := ak_ H; clear H; obtain ⟨Ao6, co6, eo6⟩ := Kd.qaI qdu.1; subst eo6
   go_wp2_with (first | (refine gl_ 12 Tryz.func210 #[.int .i64 qcP] rfl qbJ ?_; (with_reducible refine (qfe.calls k1 qcP true _ A3.1).mono ?_); rintro e w' ⟨rfl, ⟨nd, rfl⟩⟩; refine ⟨_, rfl, ?_⟩) | ((with_reducible refine qa5 (b := .append) (xs := #[.tmp 13, .tmp 15]) rfl ?_); at_builtin; refine Kd.qc8 (Kd.int .i64) (w0 := w) w.heap.size rfl (.tmp 13) (.tmp 15) 48 3 (.int .i64 0) 8 rfl Tryz.underlying48 info3 rfl (by decide) (by omega) (.slice Ao6 qbx.length co6) qbx qcP [.int .i64 qcP] (fun _ => True) (fun _ => False) rfl rfl ?aP (fun _ hk => hk.elim) ?aF ?aO ?aB ?aS ?aL ?_; (case aP => exact rfl); (case aB => exact qao); (case aF => exact (fun _ _ => trivial)); (case aO => exact qib); (case aS => exact (qab qao)); (case aL => have := LMc5.1; omega); intro qht w7 ho hb hg hat; rw [← qgI.1] at ho; replace HB := ak_ (hb); have qbZ := ak_ (ho); clear qdu; clear ho hb hg hat))
   go_roundg k1
   case measure => have := HK1.1; omega
   case rel => exact ⟨(qim), (wrap64 (qcP + 1)), qay, H', ⟨qc9⟩, ⟨k83_⟩, ⟨qao⟩⟩
def qcl.l0 : Nat → List (qac) → List Int → Int → Int → Option ((List (qac)))
 | 0, _, _, _, _ => none
 | k + 1, x3, x7, x8, x9 => if x9 < x8 then (if 0 ≤ x9 then (if x9 < (x7.length : Int) then (if x3.length < 8796093022208 then (qcl.l0 k (x3 ++ [(⟨rd x7 x9, 0⟩ : qac)]) x7 x8 (wrap64 (x9 + 1))) else (none)) else (none)) else (none)) else (some x3)
def qcl.f (k : Nat) (a0 : Int) : Option ((List (qac))) := (qcV.f k a0).bind fun qav => (qcl.l0 k ([] : List (qac)) qav (qav.length : Int) 0)
theorem qcl.calls (k : Nat) (a0 : Int) (r : List (qac)) (w : World) (h : qcl.f k a0 = some r) :
  Calls Tryz.prog 143 #[.int .i64 a0] w fun e w' => ∃ v0_ : Value, e = .returned (v0_) ∧ Kd.R qaG 85 w' w.heap.size (fun _ => True) v0_ r ∧ Below w.heap.size w w' := by
 have qme := Tryz.underlying85; have HB := br_ w; have H : ((qcV.f k a0).bind fun qav => (qcl.l0 k ([] : List (qac)) qav (qav.length : Int) 0)) = some r := h; clear h; obtain ⟨qav, A2, H⟩ := qaB H; (try dsimp only at H); have H' := ak_ H; clear H; go_enter Tryz.func143, Tryz.ntmps143
 go_wp2_with (first | (refine gl_ 7 Tryz.func202 #[.int .i64 a0] rfl qbJ ?_; (with_reducible refine (qcV.calls k a0 qav _ A2.1).mono ?_); rintro e w3 ⟨qjd, rfl, ho0, hb⟩; refine ⟨_, rfl, ?_⟩; have qcI := ak_ (Kd.qaw ho0 (qab qao)); replace HB := HB.mw hb; (try clear hb ho0); obtain ⟨Ao4, co4, eo4⟩ := Kd.qaI qcI.1; subst eo4))
 go_loopg [3, 9] k (fun kq v3 v9 w' => ∃ (qbx : List (qac)) (qdt : Int), v9 = .int .i64 qdt ∧ qai (qcl.l0 kq qbx qav (qav.length : Int) qdt = some r) ∧ qai (kq ≤ k) ∧ qai (Kd.R qaG 85 w' w.heap.size (fun _ => True) v3 qbx) ∧ qai (Kd.R (Kd.int .i64) 3 w' w.heap.size (fun _ => True) (.slice Ao4 qav.length co4) qav) ∧ qai (Below w.heap.size w w'))
 case atStart => exact ⟨(([] : List (qac))), (0), qay, H', ⟨Nat.le_refl _⟩, ⟨qhg⟩, ⟨qoL⟩, ⟨qao⟩⟩
 case round =>
  clear H'; obtain ⟨qbx, qdt, rfl, HA, HK1, qdu, qiP, HB⟩ := hrel
  cases gk with
  | zero => exact absurd HA.1 (by simp [qcl.l0])
  | succ k1 =>
   have H := HA.1; clear HA; simp only [qcl.l0] at H; by_cases c5 : qdt < (qav.length : Int); rotate_left
   ·rw [if_neg c5] at H; have qgL := decide_eq_false c5; clear c5; obtain rfl := sj_ H; go_wp2
    go_ret
    exact ⟨_, qca, k64_, qao⟩
   rw [if_pos c5] at H; have qgL := decide_eq_true c5; clear c5; obtain ⟨c6, H⟩ := qct H; have qgc := decide_eq_true c6; clear c6; obtain ⟨c7, H⟩ := qct H; have qhx := decide_eq_true c7; clear c7; obtain ⟨c8, H⟩ := qct H; have LMc8 := ak_ c8; clear c8
   obtain ⟨qic, hy_⟩ : ∃ y_ : List (qac), y_ = (qbx ++ [(⟨rd qav qdt, 0⟩ : qac)]) := ⟨_, rfl⟩
   replace H : (qcl.l0 k1 qic qav (qav.length : Int) (wrap64 (qdt + 1))) = some r := qfb; have qhG := ak_ hy_; clear hy_; have H' := ak_ H; clear H; have qhz : 0 ≤ (qdt : Int) := of_decide_eq_true qaL; have qhA : qdt < (qav.length : Int) := of_decide_eq_true qaL; obtain ⟨qia, qnT, qd5⟩ := Kd.qew (Kd.qan qiP.1).2.2 qdt qhz qhA
   cases qnT
   replace qhz := eq_true qhz; replace qhA := eq_true qhA
   go_wp2_with (first | ((with_reducible refine qa5 (b := .append) (xs := #[.tmp 13, .tmp 16]) rfl ?_); at_builtin; refine Kd.qc8 qaG (w0 := w) w.heap.size rfl (.tmp 13) (.tmp 16) 26 85 (.agg #[(.int .i64 0), (.int .i64 0)]) 16 rfl Tryz.underlying26 qfV rfl (by decide) (by omega) u3 qbx (⟨rd qav qdt, 0⟩ : qac) [.int .i64 (rd qav qdt), .int .i64 0] (fun _ => True) (fun _ => False) rfl rfl ?aP (fun _ hk => hk.elim) ?aF ?aO ?aB ?aS ?aL ?_; (case aP => exact qc7 _ _ _ (⟨rd qav qdt, 0⟩ : qac)); (case aB => exact qao); (case aF => exact (fun _ _ => trivial)); (case aO => exact qib); (case aS => exact (qab qao)); (case aL => have := LMc8.1; omega); intro qrK w9 ho hb hg hat; rw [← qhG.1] at ho; replace qiP := ak_ (Kd.qkF k91_ (Kd.qin qib) (by decide) hg); replace HB := ak_ (hb); have qfa := ak_ (ho); clear qdu; clear ho hb hg hat))
   go_roundg k1
   case measure => have := HK1.1; omega
   case rel => exact ⟨(qic), (wrap64 (qdt + 1)), qay, H', ⟨qc9⟩, ⟨by apply_rules only [qfa.1, Kd.qaq, Kd.qar, Kd.qax]⟩, ⟨k91_⟩, ⟨qao⟩⟩
def qgG.f (a0 : Int) : Option (Bool) := (qbi.f a0 0 12).bind fun qav => (some qav)
theorem qgG.calls (a0 : Int) (r : Bool) (w : World) (h : qgG.f a0 = some r) :
  Calls Tryz.prog 157 #[.int .i64 a0] w fun e w' => e = .returned (.bool r) ∧ qcY w w' := by
 have H : ((qbi.f a0 0 12).bind fun qav => (some qav)) = some r := h; clear h; obtain ⟨qav, A2, H⟩ := qaB H; (try dsimp only at H); obtain rfl := sj_ H; go_enter Tryz.func157, Tryz.ntmps157
 go_wp2_with (first | (refine gl_ 4 Tryz.func93 #[.int .i64 a0, .int .i64 0, .int .i64 12] rfl qbJ ?_; (with_reducible refine (qbi.calls a0 0 12 qav _ A2.1).mono ?_); rintro e w' ⟨rfl, ⟨nd, rfl⟩⟩; refine ⟨_, rfl, ?_⟩))
 go_ret
 exact ⟨qay, qc3⟩
def qcG.f (k : Nat) (a0 : Int) : Option ((List (qac)) × Bool) := (qgG.f a0).bind fun qav => (if qav = true then ((qcl.f k a0).bind fun qaQ => (some (qaQ, true))) else (some (([] : List (qac)), false)))
theorem qcG.calls (k : Nat) (a0 : Int) (r1 : List (qac)) (r2 : Bool) (w : World) (h : qcG.f k a0 = some (r1, r2)) :
  Calls Tryz.prog 103 #[.int .i64 a0] w fun e w' => ∃ v0_ : Value, e = .returned (.tuple #[v0_, .bool r2]) ∧ Kd.R qaG 85 w' w.heap.size (fun _ => True) v0_ r1 ∧ Below w.heap.size w w' := by
 have HB := br_ w; have H : ((qgG.f a0).bind fun qav => (if qav = true then ((qcl.f k a0).bind fun qaQ => (some (qaQ, true))) else (some (([] : List (qac)), false)))) = some (r1, r2) := h; clear h; obtain ⟨qav, A2, H⟩ := qaB H; (try dsimp only at H); by_cases c3 : qav = true
 ·subst c3; rw [if_pos rfl] at H; obtain ⟨qaQ, A4, H⟩ := qaB H; (try dsimp only at H); obtain ⟨rfl, rfl⟩ := qdQ H; go_enter Tryz.func103, Tryz.ntmps103
  go_wp2_with (first | (refine gl_ 5 Tryz.func157 #[.int .i64 a0] rfl qbJ ?_; (with_reducible refine (qgG.calls a0 true _ A2.1).mono ?_); rintro e w' ⟨rfl, ⟨nd, rfl⟩⟩; refine ⟨_, rfl, ?_⟩) | (refine gl_ 8 Tryz.func143 #[.int .i64 a0] rfl qbJ ?_; (with_reducible refine (qcl.calls k a0 qaQ _ A4.1).mono ?_); rintro e w5 ⟨qht, rfl, ho0, hb⟩; refine ⟨_, rfl, ?_⟩; have qbZ := ak_ (Kd.qaw ho0 (qab qao)); replace HB := HB.mw hb; (try clear hb ho0)))
  go_ret2
  exact ⟨_, qca, k63_, qao⟩
 replace c3 := Bool.eq_false_iff.mpr c3; subst c3; rw [if_neg ff_] at H; obtain ⟨rfl, rfl⟩ := qdQ H; go_enter Tryz.func103, Tryz.ntmps103
 go_wp2_with (first | (refine gl_ 5 Tryz.func157 #[.int .i64 a0] rfl qbJ ?_; (with_reducible refine (qgG.calls a0 false _ A2.1).mono ?_); rintro e w' ⟨rfl, ⟨nd, rfl⟩⟩; refine ⟨_, rfl, ?_⟩))
 go_ret2
 exact ⟨_, qca, qhg, qao⟩
def qfk.f (a0 : Int) : Option (Bool) := (qbi.f a0 0 600).bind fun qav => (some qav)
theorem qfk.calls (a0 : Int) (r : Bool) (w : World) (h : qfk.f a0 = some r) :
  Calls Tryz.prog 61 #[.int .i64 a0] w fun e w' => e = .returned (.bool r) ∧ qcY w w' := by
 have H : ((qbi.f a0 0 600).bind fun qav => (some qav)) = some r := h; clear h; obtain ⟨qav, A2, H⟩ := qaB H; (try dsimp only at H); obtain rfl := sj_ H; go_enter Tryz.func61, Tryz.ntmps61
 go_wp2_with (first | (refine gl_ 4 Tryz.func93 #[.int .i64 a0, .int .i64 0, .int .i64 600] rfl qbJ ?_; (with_reducible refine (qbi.calls a0 0 600 qav _ A2.1).mono ?_); rintro e w' ⟨rfl, ⟨nd, rfl⟩⟩; refine ⟨_, rfl, ?_⟩))
 go_ret
 exact ⟨qay, qc3⟩
def qeK.f (k : Nat) (l0 : List (qac)) : Option (ByteArray × Bool) := (qaP.f k l0).bind fun qav => (if qav = true then ((qbp.f k l0).bind fun qaQ => (some (qaQ, true))) else (some ((⟨#[]⟩ : ByteArray), false)))
theorem qeK.calls (k : Nat) (A0 : Option Addr) (c0 : Nat) (l0 : List (qac)) (r1 : ByteArray) (r2 : Bool) (w : World) (hr0 : Kd.C qaG w A0 l0.length l0) (hc0 : l0.length ≤ c0) (h : qeK.f k l0 = some (r1, r2)) :
  Calls Tryz.prog 152 #[.slice A0 l0.length c0] w fun e w' => e = .returned (.tuple #[.string r1, .bool r2]) ∧ Below w.heap.size w w' := by
 have HR0 := ak_ hr0; have HC0 := ak_ hc0; clear hr0 hc0; have HB := br_ w; have H : ((qaP.f k l0).bind fun qav => (if qav = true then ((qbp.f k l0).bind fun qaQ => (some (qaQ, true))) else (some ((⟨#[]⟩ : ByteArray), false)))) = some (r1, r2) := h; clear h; obtain ⟨qav, A2, H⟩ := qaB H; (try dsimp only at H); by_cases c3 : qav = true
 ·subst c3; rw [if_pos rfl] at H; obtain ⟨qaQ, A4, H⟩ := qaB H; (try dsimp only at H); obtain ⟨rfl, rfl⟩ := qdQ H; go_enter Tryz.func152, Tryz.ntmps152
  go_wp2_with (first | (refine gl_ 5 Tryz.func60 #[.slice A0 l0.length c0] rfl qbJ ?_; (with_reducible refine (qaP.calls k _ _ l0 true _ ?qaz ?qaA A2.1).mono ?_); (case qaz => exact qf0); (case qaA => exact qb9); rintro e w5 ⟨rfl, hb⟩; refine ⟨_, rfl, ?_⟩; replace HB := HB.mw hb; (try clear hb)) | (refine gl_ 8 Tryz.func207 #[.slice A0 l0.length c0] rfl qbJ ?_; (with_reducible refine (qbp.calls k _ _ l0 qaQ _ ?qaz ?qaA A4.1).mono ?_); (case qaz => exact qhr); (case qaA => exact qb9); rintro e w6 ⟨rfl, hb⟩; refine ⟨_, rfl, ?_⟩; replace HB := HB.mw hb; (try clear hb)))
  go_ret2
  exact ⟨qca, qao⟩
 replace c3 := Bool.eq_false_iff.mpr c3; subst c3; rw [if_neg ff_] at H; obtain ⟨rfl, rfl⟩ := qdQ H; go_enter Tryz.func152, Tryz.ntmps152
 go_wp2_with (first | (refine gl_ 5 Tryz.func60 #[.slice A0 l0.length c0] rfl qbJ ?_; (with_reducible refine (qaP.calls k _ _ l0 false _ ?qaz ?qaA A2.1).mono ?_); (case qaz => exact qf0); (case qaA => exact qb9); rintro e w7 ⟨rfl, hb⟩; refine ⟨_, rfl, ?_⟩; replace HB := HB.mw hb; (try clear hb)))
 go_ret2
 exact ⟨qca, qao⟩
def qck.f (k : Nat) (l0 : List (qac)) (a1 : Bool) : Option (ByteArray) := if a1 = true then ((qeK.f k l0).bind fun qdw => (some qdw.1)) else (some (⟨#[110, 111]⟩ : ByteArray))
theorem qck.calls (k : Nat) (A0 : Option Addr) (c0 : Nat) (l0 : List (qac)) (a1 : Bool) (r : ByteArray) (w : World) (hr0 : Kd.C qaG w A0 l0.length l0) (hc0 : l0.length ≤ c0) (h : qck.f k l0 a1 = some r) :
  Calls Tryz.prog 99 #[.slice A0 l0.length c0, .bool a1] w fun e w' => e = .returned (.string r) ∧ Below w.heap.size w w' := by
 have HR0 := ak_ hr0; have HC0 := ak_ hc0; clear hr0 hc0; have HB := br_ w; have H : (if a1 = true then ((qeK.f k l0).bind fun qdw => (some qdw.1)) else (some (⟨#[110, 111]⟩ : ByteArray))) = some r := h; clear h; by_cases c3 : a1 = true
 ·subst c3; rw [if_pos rfl] at H; obtain ⟨⟨qav, qaQ⟩, A4, H⟩ := qaB H; (try dsimp only at H); obtain rfl := sj_ H; go_enter Tryz.func99, Tryz.ntmps99
  go_wp2_with (first | (refine gl_ 11 Tryz.func152 #[.slice A0 l0.length c0] rfl qbJ ?_; (with_reducible refine (qeK.calls k _ _ l0 qav qaQ _ ?qaz ?qaA A4.1).mono ?_); (case qaz => exact qf0); (case qaA => exact qb9); rintro e w5 ⟨rfl, hb⟩; refine ⟨_, rfl, ?_⟩; replace HB := HB.mw hb; (try clear hb)))
  go_ret
  exact ⟨qca, qao⟩
 replace c3 := Bool.eq_false_iff.mpr c3; subst c3; rw [if_neg ff_] at H; obtain rfl := sj_ H; go_enter Tryz.func99, Tryz.ntmps99; go_wp2
 go_ret
 exact ⟨qca, qao⟩
def qkz (w : World) (base g : Nat) (rs : List qac) (mo : Int) (lr : List qac) (tx : ByteArray) (n : Int) : Prop := ∃ A0 c0 A1 c1, w.heap[g]? = some (.cells #[.slice A0 rs.length c0, .int .i64 mo, .slice A1 lr.length c1, .string tx, .int .i64 n] 81 (0, 0)) ∧ Kd.R qaG 85 w base (fun _ => True) (.slice A0 rs.length c0) rs ∧ Kd.R qaG 85 w base (fun _ => True) (.slice A1 lr.length c1) lr
def qjp (k : Nat) (rs xs : List qac) (ok : Bool) : Option (List qac × ByteArray) := (qck.f k xs ok).bind fun s => some (if ok = true then xs else rs, s)
theorem qfM (k base g : Nat) (A : Option Addr) (c : Nat) (xs : List qac) (ok : Bool) (rs : List qac) (mo : Int) (lr : List qac) (tx : ByteArray) (n : Int) (rs' : List qac) (txt : ByteArray) (w : World) (hD : qkz w base g rs mo lr tx n) (hR : Kd.R qaG 85 w base (fun _ => True) (.slice A xs.length c) xs) (h : qjp k rs xs ok = some (rs', txt)) :
    Calls Tryz.prog 97 #[.pointer (some ⟨g, 0, none⟩), .slice A xs.length c, .bool ok] w fun e w' => e = .returned (.string txt) ∧ qkz w' base g rs' mo lr tx n ∧ qcA w w' g := by
  obtain ⟨A0, c0, A1_, c1, hC, hO, hL⟩ := hD; have HCw := ak_ hC; have HOw := ak_ hO; have HLw := ak_ hL; have HC := ak_ hC; have HO := ak_ hO; have HL := ak_ hL; have HB := br_ w; obtain ⟨qrm, qrg⟩ := qcx HC.1; have qrn := qbA HC.1; have qrh := qae HC.1 1; have hzw_2 := qfx HC.1; have hfw_2 := qae HC.1 2; have hzw_3 := qfF HC.1; have hfw_3 := qae HC.1 3; have hzw_4 := qfG HC.1; have hfw_4 := qae HC.1 4; clear hC hO hL; have HX := ak_ hR; clear hR; unfold qjp at h; obtain ⟨s, A1, h⟩ := qaB h; simp only [Option.some.injEq, Prod.mk.injEq] at h
  cases ok with
  | false =>
    rw [if_neg (by decide)] at h; obtain ⟨rfl, rfl⟩ := h; go_enter Tryz.func97, Tryz.ntmps97
    go_wp2_with (first | (refine gl_ 15 Tryz.func99 #[.slice A xs.length c, .bool false] rfl qb6 ?_; (refine (qck.calls k _ _ xs false s _ qrr (Kd.qan HX.1).2.1 A1.1).mono ?_); rintro e wa ⟨rfl, hb⟩; refine ⟨_, rfl, ?_⟩; have HB2 := ak_ hb; clear hb))
    go_ret
    exact ⟨rfl, ⟨A0, c0, A1_, c1, qap qrt HB2.1, Kd.qbs k94_ HB2.1, Kd.qbs (by apply_rules only [HL.1, Kd.qaq, Kd.qar, Kd.qax]) HB2.1⟩, (qcA.qbR qao g).trans (qcA.qbR HB2.1 g)⟩
  | true =>
    rw [if_pos rfl] at h; obtain ⟨rfl, rfl⟩ := h; go_enter Tryz.func97, Tryz.ntmps97
    go_wp2_with (first | (refine gl_ 15 Tryz.func99 #[.slice A xs.length c, .bool true] rfl qb6 ?_; (refine (qck.calls k _ _ xs true s _ k23_ (Kd.qan HX.1).2.1 A1.1).mono ?_); rintro e wa ⟨rfl, hb⟩; refine ⟨_, rfl, ?_⟩; have HB2 := ak_ hb; clear hb))
    go_ret
    exact ⟨rfl, ⟨A, c, A1_, c1, qap (qa9 qrt 0 _ rfl) HB2.1, Kd.qbs (Kd.qg2 qnq qrt (by decide) 0 _) HB2.1, Kd.qbs (Kd.qg2 (by apply_rules only [HL.1, Kd.qaq, Kd.qar, Kd.qax]) qrt (by decide) 0 _) HB2.1⟩, (qcA.set_ (qcA.qbR qao g) 0 _).trans (qcA.qbR HB2.1 g)⟩
theorem R_empty (w : World) : Kd.R qaG 85 (w.alloc (.cells #[] 85)) w.heap.size (fun _ => True) (.slice (some ⟨w.heap.size, 0, none⟩) 0 0) [] := by
  have h := World.ownsRow_lit (base := w.heap.size) (e := 85) (size := 2) w #[] 0 (Nat.le_refl _) (by decide) rfl; exact ⟨fun _ _ => trivial, [], h, qep.none _ _⟩
def qdK.f (k : Nat) (rs : List qac) (mo : Int) (lr : List qac) (n : Int) (c : Cmd) : Option (List qac × Int × ByteArray) := match c with
  | .cRules => (qjp k rs lr true).bind fun p => some (p.1, mo, p.2)
  | .cAdd => if rs.length + lr.length < 8796093022208 then (qjp k rs (rs ++ lr) (decide (((rs ++ lr).length : Int) ≤ 12))).bind fun p => some (p.1, mo, p.2) else none
  | .cDrop => if n ≥ (rs.length : Int) then some (rs, mo, (⟨#[110, 111]⟩ : ByteArray)) else (qbG.f rs n).bind fun xs => (qjp k rs xs true).bind fun p => some (p.1, mo, p.2)
  | .cMost => (qfk.f n).bind fun t => if t = true then ((qck.f k rs true).bind fun s => some (rs, n, s)) else some (rs, mo, (⟨#[110, 111]⟩ : ByteArray))
  | .cMove => (qaO.f k rs n).bind fun q => (qjp k rs q.1 q.2).bind fun p => some (p.1, mo, p.2)
  | .cMirror => (qa3.f k rs).bind fun q => (qjp k rs q.1 q.2).bind fun p => some (p.1, mo, p.2)
  | .cTidy => (qaM.f k rs).bind fun q => (qjp k rs q.1 q.2).bind fun p => some (p.1, mo, p.2)
  | .cPrimes => (qcG.f k n).bind fun q => (qjp k rs q.1 q.2).bind fun p => some (p.1, mo, p.2)
  | _ => none
theorem qpR (k base g : Nat) (rs : List qac) (mo : Int) (lr : List qac) (tx : ByteArray) (n : Int) (c : Cmd) (rs' : List qac) (mo' : Int) (txt : ByteArray) (w : World) (hbase : base ≤ w.heap.size) (hD : qkz w base g rs mo lr tx n) (hl : rs.length < 8796093022208) (h : qdK.f k rs mo lr n c = some (rs', mo', txt)) :
    Calls Tryz.prog 63 #[.pointer (some ⟨g, 0, none⟩), .string c.word] w fun e w' => e = .returned (.string txt) ∧ qkz w' base g rs' mo' lr tx n ∧ qcA w w' g := by
  obtain ⟨A0, c0, A1_, c1, hC, hO, hL⟩ := hD; have HCw := ak_ hC; have HOw := ak_ hO; have HLw := ak_ hL; have HC := ak_ hC; have HO := ak_ hO; have HL := ak_ hL; have HB := br_ w; obtain ⟨qrm, qrg⟩ := qcx HC.1; have qrn := qbA HC.1; have qrh := qae HC.1 1; have hzw_2 := qfx HC.1; have hfw_2 := qae HC.1 2; have hzw_3 := qfF HC.1; have hfw_3 := qae HC.1 3; have hzw_4 := qfG HC.1; have hfw_4 := qae HC.1 4; have HBS := ak_ hbase; have HLn := ak_ hl; have SM := ak_ (show ∀ w' : World, Below w.heap.size w w' → qkz w' base g rs mo lr tx n ∧ qcA w w' g from fun w' h_ => ⟨⟨A0, c0, A1_, c1, qap HCw.1 h_, Kd.qbs HOw.1 h_, Kd.qbs HLw.1 h_⟩, qcA.qbR h_ g⟩); clear hC hO hL hbase hl; unfold qdK.f at h
  match c, h with
  | .cRules, h =>
    simp only [Cmd.word, Cmd.bytes]; dsimp only at h; obtain ⟨⟨rs1, qjD⟩, A1, h⟩ := qaB h; (try dsimp only at h); obtain ⟨rfl, rfl, rfl⟩ := qfI h; have HX := HL; go_enter Tryz.func63, Tryz.ntmps63
    go_wp2_with (first | (refine gl_ 20 Tryz.func97 #[.pointer (some ⟨g, 0, none⟩), .slice A1_ lr.length c1, .bool true] rfl qb6 ?_; (refine (qfM k base g A1_ c1 lr true rs mo lr tx n rs1 qjD _ (SM.1 _ qao).1 qnq A1.1).mono ?_); rintro e w9 ⟨rfl, hD, hk⟩; refine ⟨_, rfl, ?_⟩; have HD := ak_ hD; have HKb := ak_ (qcA.trans (qcA.qbR qao g) hk); clear hD hk))
    go_ret
    exact ⟨rfl, HD.1, HKb.1⟩
  | .cAdd, h =>
    simp only [Cmd.word, Cmd.bytes]; dsimp only at h; by_cases hlq : rs.length + lr.length < 8796093022208; rotate_left
    ·rw [if_neg hlq] at h; exact absurd h (by simp)
    rw [if_pos hlq] at h; have HLq := ak_ hlq
    obtain ⟨ys, hys⟩ : ∃ ys, rs ++ lr = ys := ⟨_, rfl⟩
    rw [hys] at h; have HYE := ak_ hys; clear hlq hys; obtain ⟨⟨rs1, qjD⟩, A1, h⟩ := qaB h; (try dsimp only at h); obtain ⟨rfl, rfl, rfl⟩ := qfI h; have hqA_ : (w.alloc (.cells #[] 85)).cell? ⟨g, 2, none⟩ = some (.slice A1_ lr.length c1) := (qba (qap HCw.1 (qal (Below.refl _ _) _)) 2).trans rfl; have hnA_ := World.new_ne w _ hzw_2; go_enter Tryz.func63, Tryz.ntmps63; go_wp2
    go_region_law (first | (refine Kd.qbQ qaG (w0 := w) w.heap.size ?hw (.tmp 23) (.tmp 24) 26 85 (.agg #[(.int .i64 0), (.int .i64 0)]) 16 rfl Tryz.underlying26 qcX rfl ?h2 ?h3 (.slice (some ⟨w.heap.size, 0, none⟩) 0 0) [] rs _ _ _ (fun _ => True) (fun _ => False) rfl rfl ?aO ?aR (fun _ _ h => h) (fun _ h => h.elim) ?aF ?aB ?aS ?aL ?_; (case hw => rfl); (case h2 => decide); (case h3 => omega); (case aR => exact (Kd.qan (Kd.qbs HOw.1 qao)).2.2); (case aB => exact qao); (case aF => exact (fun _ _ => trivial)); (case aO => exact (by apply_rules only [R_empty, Kd.qaq, Kd.qar, Kd.qax])); (case aS => exact (qab qao)); (case aL => have := HLn.1; have := HLq.1; (try simp only [List.length_nil]); omega); intro v25 w25 ho hb _ _; rw [List.nil_append] at ho; have HV2 := ak_ ho; obtain ⟨Ay, cy, ey⟩ := Kd.qaI HV2.1; subst ey; replace HB := ak_ hb; have hqw25_2 : w25.cell? ⟨g, 2, none⟩ = some (.slice A1_ lr.length c1) := (qba (qap HCw.1 hb) 2).trans rfl; clear ho hb) | (refine Kd.qbQ qaG (w0 := w) w.heap.size ?hw (.tmp 25) (.tmp 29) 26 85 (.agg #[(.int .i64 0), (.int .i64 0)]) 16 rfl Tryz.underlying26 qcX rfl ?h2 ?h3 (.slice Ay rs.length cy) rs lr _ _ _ (fun _ => True) (fun _ => False) rfl rfl ?aO ?aR (fun _ _ h => h) (fun _ h => h.elim) ?aF ?aB ?aS ?aL ?_; (case hw => rfl); (case h2 => decide); (case h3 => omega); (case aR => exact (Kd.qan (Kd.qbs HLw.1 qao)).2.2); (case aB => exact qao); (case aF => exact (fun _ _ => trivial)); (case aO => exact (by apply_rules only [HV2.1, Kd.qaq, Kd.qar, Kd.qax])); (case aS => exact (qab qao)); (case aL => have := HLn.1; have := HLq.1; (try simp only [List.length_nil]); omega); intro v30 w30 ho hb _ _; rw [HYE.1] at ho; have HX := ak_ (Kd.qaw ho HBS.1); obtain ⟨Ax, cx, ex⟩ := Kd.qaI HX.1; subst ex; replace HB := ak_ hb; have hqw30_2 : w30.cell? ⟨g, 2, none⟩ = some (.slice A1_ lr.length c1) := (qba (qap HCw.1 hb) 2).trans rfl; clear ho hb))
    all_goals (go_wp2_with (first | (refine gl_ 36 Tryz.func97 #[.pointer (some ⟨g, 0, none⟩), .slice Ax ys.length cx, .bool (decide ((ys.length : Int) ≤ 12))] rfl qb6 ?_; (refine (qfM k base g Ax cx ys (decide ((ys.length : Int) ≤ 12)) rs mo lr tx n rs1 qjD _ (SM.1 _ qao).1 qnq A1.1).mono ?_); rintro e w9 ⟨rfl, hD, hk⟩; refine ⟨_, rfl, ?_⟩; have HD := ak_ hD; have HKb := ak_ (qcA.trans (qcA.qbR qao g) hk); clear hD hk)); go_ret; exact ⟨rfl, HD.1, HKb.1⟩)
  | .cDrop, h =>
    simp only [Cmd.word, Cmd.bytes]; dsimp only at h; by_cases hn : n ≥ (rs.length : Int)
    ·rw [if_pos hn] at h; obtain ⟨rfl, rfl, rfl⟩ := qfI h; have hnb : decide ((rs.length : Int) ≤ n) = true := decide_eq_true hn; clear hn; go_enter Tryz.func63, Tryz.ntmps63; go_wp2
     go_ret
     exact ⟨rfl, SM.1 _ qao⟩
    rw [if_neg hn] at h; obtain ⟨xs, A1, h⟩ := qaB h; (try dsimp only at h); obtain ⟨⟨rs1, qjD⟩, A2, h⟩ := qaB h; (try dsimp only at h); obtain ⟨rfl, rfl, rfl⟩ := qfI h; have hnb : decide ((rs.length : Int) ≤ n) = false := decide_eq_false hn; clear hn; go_enter Tryz.func63, Tryz.ntmps63
    go_wp2_with (first | (refine gl_ 52 Tryz.func98 #[.slice A0 rs.length c0, .int .i64 n] rfl qb6 ?_; (refine (qbG.calls _ _ rs n xs _ qjW (Kd.qan HO.1).2.1 A1.1).mono ?_); rintro e w2 ⟨vx, rfl, hox, hb⟩; refine ⟨_, rfl, ?_⟩; have HX := ak_ (Kd.qaw hox (Nat.le_trans HBS.1 (qab qao))); clear hox; obtain ⟨Ax, cx, ex⟩ := Kd.qaI HX.1; subst ex; replace HB := ak_ (qaa qao hb); clear hb) | (refine gl_ 53 Tryz.func97 #[.pointer (some ⟨g, 0, none⟩), .slice Ax xs.length cx, .bool true] rfl qb6 ?_; (refine (qfM k base g Ax cx xs true rs mo lr tx n rs1 qjD _ (SM.1 _ qao).1 qnq A2.1).mono ?_); rintro e w9 ⟨rfl, hD, hk⟩; refine ⟨_, rfl, ?_⟩; have HD := ak_ hD; have HKb := ak_ (qcA.trans (qcA.qbR qao g) hk); clear hD hk))
    go_ret
    exact ⟨rfl, HD.1, HKb.1⟩
  | .cMost, h =>
    simp only [Cmd.word, Cmd.bytes]; dsimp only at h; obtain ⟨t, A1, h⟩ := qaB h
    cases t with
    | false =>
      rw [if_neg (by decide)] at h; obtain ⟨rfl, rfl, rfl⟩ := qfI h; go_enter Tryz.func63, Tryz.ntmps63
      go_wp2_with (first | (refine gl_ 60 Tryz.func61 #[.int .i64 n] rfl qb6 ?_; (refine ((qfk.calls n false _ A1.1)).mono ?_); rintro e w4 ⟨rfl, hd_⟩; refine ⟨_, rfl, ?_⟩; have hb := hd_.below; clear hd_; replace HB := ak_ (qaa qao hb); clear HC HO HL; have HC := ak_ (qap HCw.1 HB.1); have HO := ak_ (Kd.qbs HOw.1 HB.1); have HL := ak_ (Kd.qbs HLw.1 HB.1); obtain ⟨qtu, qs1⟩ := qcx HC.1; have qtv := qbA HC.1; have qs2 := qae HC.1 1; have hzw4_2 := qfx HC.1; have hfw4_2 := qae HC.1 2; have hzw4_3 := qfF HC.1; have hfw4_3 := qae HC.1 3; have hzw4_4 := qfG HC.1; have hfw4_4 := qae HC.1 4; clear hb))
      go_ret
      exact ⟨rfl, SM.1 _ qao⟩
    | true =>
      rw [if_pos rfl] at h; obtain ⟨s, A2, h⟩ := qaB h; obtain ⟨rfl, rfl, rfl⟩ := qfI h; go_enter Tryz.func63, Tryz.ntmps63
      go_wp2_with (first | (refine gl_ 60 Tryz.func61 #[.int .i64 n] rfl qb6 ?_; (refine ((qfk.calls n true _ A1.1)).mono ?_); rintro e w4 ⟨rfl, hd_⟩; refine ⟨_, rfl, ?_⟩; have hb := hd_.below; clear hd_; replace HB := ak_ (qaa qao hb); clear HC HO HL; have HC := ak_ (qap HCw.1 HB.1); have HO := ak_ (Kd.qbs HOw.1 HB.1); have HL := ak_ (Kd.qbs HLw.1 HB.1); obtain ⟨qtu, qs1⟩ := qcx HC.1; have qtv := qbA HC.1; have qs2 := qae HC.1 1; have hzw4_2 := qfx HC.1; have hfw4_2 := qae HC.1 2; have hzw4_3 := qfF HC.1; have hfw4_3 := qae HC.1 3; have hzw4_4 := qfG HC.1; have hfw4_4 := qae HC.1 4; clear hb) | (refine gl_ 71 Tryz.func99 #[.slice A0 rs.length c0, .bool true] rfl qb6 ?_; (refine (qck.calls k _ _ rs true s _ k22_ (Kd.qan HO.1).2.1 A2.1).mono ?_); rintro e wb ⟨rfl, hb⟩; refine ⟨_, rfl, ?_⟩; have HB2 := ak_ hb; clear hb))
      go_ret
      exact ⟨rfl, ⟨A0, c0, A1_, c1, qap (qa9 qrt 1 _ rfl) HB2.1, Kd.qbs (Kd.qg2 k94_ qrt (by decide) 1 _) HB2.1, Kd.qbs (Kd.qg2 (by apply_rules only [HL.1, Kd.qaq, Kd.qar, Kd.qax]) qrt (by decide) 1 _) HB2.1⟩, (qcA.set_ (qcA.qbR qao g) 1 _).trans (qcA.qbR HB2.1 g)⟩
  | .cMove, h =>
    simp only [Cmd.word, Cmd.bytes]; dsimp only at h; obtain ⟨⟨xs, ok⟩, A1, h⟩ := qaB h; (try dsimp only at h); obtain ⟨⟨rs1, qjD⟩, A2, h⟩ := qaB h; (try dsimp only at h); obtain ⟨rfl, rfl, rfl⟩ := qfI h; go_enter Tryz.func63, Tryz.ntmps63
    go_wp2_with (first | (refine gl_ 80 Tryz.func100 #[.slice A0 rs.length c0, .int .i64 n] rfl qb6 ?_; (refine (qaO.calls k _ _ rs n xs ok _ qjW (Kd.qan HO.1).2.1 A1.1).mono ?_); rintro e w2 ⟨vx, rfl, hox, hb⟩; refine ⟨_, rfl, ?_⟩; have HX := ak_ (Kd.qaw hox (Nat.le_trans HBS.1 (qab qao))); clear hox; obtain ⟨Ax, cx, ex⟩ := Kd.qaI HX.1; subst ex; replace HB := ak_ (qaa qao hb); clear hb) | (refine gl_ 83 Tryz.func97 #[.pointer (some ⟨g, 0, none⟩), .slice Ax xs.length cx, .bool ok] rfl qb6 ?_; (refine (qfM k base g Ax cx xs ok rs mo lr tx n rs1 qjD _ (SM.1 _ qao).1 qnq A2.1).mono ?_); rintro e w9 ⟨rfl, hD, hk⟩; refine ⟨_, rfl, ?_⟩; have HD := ak_ hD; have HKb := ak_ (qcA.trans (qcA.qbR qao g) hk); clear hD hk))
    go_ret
    exact ⟨rfl, HD.1, HKb.1⟩
  | .cMirror, h =>
    simp only [Cmd.word, Cmd.bytes]; dsimp only at h; obtain ⟨⟨xs, ok⟩, A1, h⟩ := qaB h; (try dsimp only at h); obtain ⟨⟨rs1, qjD⟩, A2, h⟩ := qaB h; (try dsimp only at h); obtain ⟨rfl, rfl, rfl⟩ := qfI h; go_enter Tryz.func63, Tryz.ntmps63
    go_wp2_with (first | (refine gl_ 88 Tryz.func101 #[.slice A0 rs.length c0] rfl qb6 ?_; (refine (qa3.calls k _ _ rs xs ok _ qjW (Kd.qan HO.1).2.1 A1.1).mono ?_); rintro e w2 ⟨vx, rfl, hox, hb⟩; refine ⟨_, rfl, ?_⟩; have HX := ak_ (Kd.qaw hox (Nat.le_trans HBS.1 (qab qao))); clear hox; obtain ⟨Ax, cx, ex⟩ := Kd.qaI HX.1; subst ex; replace HB := ak_ (qaa qao hb); clear hb) | (refine gl_ 91 Tryz.func97 #[.pointer (some ⟨g, 0, none⟩), .slice Ax xs.length cx, .bool ok] rfl qb6 ?_; (refine (qfM k base g Ax cx xs ok rs mo lr tx n rs1 qjD _ (SM.1 _ qao).1 qnq A2.1).mono ?_); rintro e w9 ⟨rfl, hD, hk⟩; refine ⟨_, rfl, ?_⟩; have HD := ak_ hD; have HKb := ak_ (qcA.trans (qcA.qbR qao g) hk); clear hD hk))
    go_ret
    exact ⟨rfl, HD.1, HKb.1⟩
  | .cTidy, h =>
    simp only [Cmd.word, Cmd.bytes]; dsimp only at h; obtain ⟨⟨xs, ok⟩, A1, h⟩ := qaB h; (try dsimp only at h); obtain ⟨⟨rs1, qjD⟩, A2, h⟩ := qaB h; (try dsimp only at h); obtain ⟨rfl, rfl, rfl⟩ := qfI h; go_enter Tryz.func63, Tryz.ntmps63
    go_wp2_with (first | (refine gl_ 96 Tryz.func102 #[.slice A0 rs.length c0] rfl qb6 ?_; (refine (qaM.calls k _ _ rs xs ok _ qjW (Kd.qan HO.1).2.1 A1.1).mono ?_); rintro e w2 ⟨vx, rfl, hox, hb⟩; refine ⟨_, rfl, ?_⟩; have HX := ak_ (Kd.qaw hox (Nat.le_trans HBS.1 (qab qao))); clear hox; obtain ⟨Ax, cx, ex⟩ := Kd.qaI HX.1; subst ex; replace HB := ak_ (qaa qao hb); clear hb) | (refine gl_ 99 Tryz.func97 #[.pointer (some ⟨g, 0, none⟩), .slice Ax xs.length cx, .bool ok] rfl qb6 ?_; (refine (qfM k base g Ax cx xs ok rs mo lr tx n rs1 qjD _ (SM.1 _ qao).1 qnq A2.1).mono ?_); rintro e w9 ⟨rfl, hD, hk⟩; refine ⟨_, rfl, ?_⟩; have HD := ak_ hD; have HKb := ak_ (qcA.trans (qcA.qbR qao g) hk); clear hD hk))
    go_ret
    exact ⟨rfl, HD.1, HKb.1⟩
  | .cPrimes, h =>
    simp only [Cmd.word, Cmd.bytes]; dsimp only at h; obtain ⟨⟨xs, ok⟩, A1, h⟩ := qaB h; (try dsimp only at h); obtain ⟨⟨rs1, qjD⟩, A2, h⟩ := qaB h; (try dsimp only at h); obtain ⟨rfl, rfl, rfl⟩ := qfI h; go_enter Tryz.func63, Tryz.ntmps63
    go_wp2_with (first | (refine gl_ 105 Tryz.func103 #[.int .i64 n] rfl qb6 ?_; (refine (qcG.calls k n xs ok _ A1.1).mono ?_); rintro e w2 ⟨vx, rfl, hox, hb⟩; refine ⟨_, rfl, ?_⟩; have HX := ak_ (Kd.qaw hox (Nat.le_trans HBS.1 (qab qao))); clear hox; obtain ⟨Ax, cx, ex⟩ := Kd.qaI HX.1; subst ex; replace HB := ak_ (qaa qao hb); clear hb) | (refine gl_ 108 Tryz.func97 #[.pointer (some ⟨g, 0, none⟩), .slice Ax xs.length cx, .bool ok] rfl qb6 ?_; (refine (qfM k base g Ax cx xs ok rs mo lr tx n rs1 qjD _ (SM.1 _ qao).1 qnq A2.1).mono ?_); rintro e w9 ⟨rfl, hD, hk⟩; refine ⟨_, rfl, ?_⟩; have HD := ak_ hD; have HKb := ak_ (qcA.trans (qcA.qbR qao g) hk); clear hD hk))
    go_ret
    exact ⟨rfl, HD.1, HKb.1⟩
def qb0.l0 : Nat → ByteArray → List Int → Int → Int → Option (ByteArray)
 | 0, _, _, _, _ => none
 | k + 1, x3, x9, x10, x11 => if x11 < x10 then (if 0 ≤ x11 then (if x11 < (x9.length : Int) then (if x11 > 0 then (if x3.size + 1 ≤ 9223372036854775807 then ((qbt.f k (rd x9 x11)).bind fun qaQ => (if (x3 ++ (⟨#[44]⟩ : ByteArray)).size + qaQ.size ≤ 9223372036854775807 then (qb0.l0 k ((x3 ++ (⟨#[44]⟩ : ByteArray)) ++ qaQ) x9 x10 (wrap64 (x11 + 1))) else (none))) else (none)) else ((qbt.f k (rd x9 x11)).bind fun qcb => (if x3.size + qcb.size ≤ 9223372036854775807 then (qb0.l0 k (x3 ++ qcb) x9 x10 (wrap64 (x11 + 1))) else (none)))) else (none)) else (none)) else (some x3)
def qb0.f (k : Nat) (l0 : List Int) : Option (ByteArray) := if (l0.length : Int) = 0 then (some (⟨#[45]⟩ : ByteArray)) else (qb0.l0 k (⟨#[]⟩ : ByteArray) l0 (l0.length : Int) 0)
theorem qb0.calls (k : Nat) (A0 : Option Addr) (c0 : Nat) (l0 : List Int) (r : ByteArray) (w : World) (hr0 : Kd.C (Kd.int .i64) w A0 l0.length l0) (hc0 : l0.length ≤ c0) (h : qb0.f k l0 = some r) :
  Calls Tryz.prog 158 #[.slice A0 l0.length c0] w fun e w' => e = .returned (.string r) ∧ Below w.heap.size w w' := by
 have HR0 := ak_ hr0; have HC0 := ak_ hc0; clear hr0 hc0; have HB := br_ w; have H : (if (l0.length : Int) = 0 then (some (⟨#[45]⟩ : ByteArray)) else (qb0.l0 k (⟨#[]⟩ : ByteArray) l0 (l0.length : Int) 0)) = some r := h; clear h; by_cases c2 : (l0.length : Int) = 0
 ·rw [if_pos c2] at H; have qfB : ((l0.length : Int) == 0) = true := beq_iff_eq.mpr c2; have qnI : ((l0.length : Int) != 0) = false := bne_eq_false_iff_eq.mpr c2; clear c2; obtain rfl := sj_ H; go_enter Tryz.func158, Tryz.ntmps158; go_wp2
  go_ret
  exact ⟨qca, qao⟩
 rw [if_neg c2] at H; have qfB : ((l0.length : Int) == 0) = false := beq_eq_false_iff_ne.mpr c2; have qnI : ((l0.length : Int) != 0) = true := bne_iff_ne.mpr c2
 have c2b2 : ¬ (l0 = []) := fun h_ => c2 (by rw [h_]; rfl)
 have H' := ak_ H; clear H; go_enter Tryz.func158, Tryz.ntmps158; go_wp2
 go_loopg [3, 11] k (fun kq v3 v11 w' => ∃ (qbx : ByteArray) (qcv : Int), v3 = .string qbx ∧ v11 = .int .i64 qcv ∧ qai (qb0.l0 kq qbx l0 (l0.length : Int) qcv = some r) ∧ qai (kq ≤ k) ∧ qai (Below w.heap.size w w'))
 case atStart => exact ⟨((⟨#[]⟩ : ByteArray)), (0), qay, qay, H', ⟨Nat.le_refl _⟩, ⟨qao⟩⟩
 case round =>
  clear H'; (try clear c2); (try clear qfB); (try clear qnI); (try clear c2b2); obtain ⟨qbx, qcv, rfl, rfl, HA, HK1, HB⟩ := hrel
  cases gk with
  | zero => exact absurd HA.1 (by simp [qb0.l0])
  | succ k1 =>
   have H := HA.1; clear HA; simp only [qb0.l0] at H; by_cases c3 : qcv < (l0.length : Int); rotate_left
   ·rw [if_neg c3] at H; have qfr := decide_eq_false c3; clear c3; obtain rfl := sj_ H; go_wp2
    go_ret
    exact ⟨qca, qao⟩
   rw [if_pos c3] at H; have qfr := decide_eq_true c3; clear c3; obtain ⟨c4, H⟩ := qct H; have qfw := decide_eq_true c4; clear c4; obtain ⟨c5, H⟩ := qct H; have qgL := decide_eq_true c5; clear c5; by_cases c6 : qcv > 0; rotate_left
   ·rw [if_neg c6] at H; have qgc : decide (0 < qcv) = false := decide_eq_false c6; clear c6; obtain ⟨qcb, A11, H⟩ := qaB H; (try dsimp only at H); obtain ⟨c12, H⟩ := qct H; have qhN := eq_true c12; have c12b1 := decide_eq_true c12
    try have c12b2 : (9223372036854775807 < qbx.size + qcb.size) = False := eq_false (Nat.not_lt.2 c12)
    have H' := ak_ H; clear H; have qeC : 0 ≤ (qcv : Int) := of_decide_eq_true qaL; have qeJ : qcv < (l0.length : Int) := of_decide_eq_true qaL; obtain ⟨qfL, qg7, qbk⟩ := Kd.qew HR0.1 qcv qeC qeJ
    cases qg7
    replace qbk := (HB.1.cell (World.block_lt_of_cell? w _ qbk)).trans qbk; replace qeC := eq_true qeC; replace qeJ := eq_true qeJ
    go_wp2_with (first | (refine gl_ 22 Tryz.func83 #[.int .i64 (rd l0 qcv)] rfl qbJ ?_; (with_reducible refine (qbt.calls k1 (rd l0 qcv) qcb _ A11.1).mono ?_); rintro e w13 ⟨rfl, hb⟩; refine ⟨_, rfl, ?_⟩; replace HB := HB.mw hb; (try clear hb)))
    go_roundg k1
    case measure => have := HK1.1; omega
    case rel => exact ⟨(qbx ++ qcb), (wrap64 (qcv + 1)), qay, qay, H', ⟨qc9⟩, ⟨qao⟩⟩
   rw [if_pos c6] at H; have qgc : decide (0 < qcv) = true := decide_eq_true c6; clear c6; obtain ⟨c7, H⟩ := qct H; have qhx := eq_true c7; have qoH := decide_eq_true c7
   try have c7b2 : (9223372036854775807 < qbx.size + 1) = False := eq_false (Nat.not_lt.2 c7)
   obtain ⟨qaQ, A8, H⟩ := qaB H; (try dsimp only at H); obtain ⟨c9, H⟩ := qct H; have qmQ := eq_true c9; have c9b1 := decide_eq_true c9
   try have c9b2 : (9223372036854775807 < (qbx ++ (⟨#[44]⟩ : ByteArray)).size + qaQ.size) = False := eq_false (Nat.not_lt.2 c9)
   have c9b3 := c9b2; simp only [ByteArray.size_append, show (⟨#[44]⟩ : ByteArray).size = 1 from rfl, show (⟨#[47]⟩ : ByteArray).size = 1 from rfl, show (⟨#[58]⟩ : ByteArray).size = 1 from rfl] at c9b3; have H' := ak_ H; clear H; have qeC : 0 ≤ (qcv : Int) := of_decide_eq_true qaL; have qeJ : qcv < (l0.length : Int) := of_decide_eq_true qaL; obtain ⟨qfL, qg7, qbk⟩ := Kd.qew HR0.1 qcv qeC qeJ
   cases qg7
   replace qbk := (HB.1.cell (World.block_lt_of_cell? w _ qbk)).trans qbk; replace qeC := eq_true qeC; replace qeJ := eq_true qeJ
   go_wp2_with (first | (refine gl_ 22 Tryz.func83 #[.int .i64 (rd l0 qcv)] rfl qbJ ?_; (with_reducible refine (qbt.calls k1 (rd l0 qcv) qaQ _ A8.1).mono ?_); rintro e w10 ⟨rfl, hb⟩; refine ⟨_, rfl, ?_⟩; replace HB := HB.mw hb; (try clear hb)))
   go_roundg k1
   case measure => have := HK1.1; omega
   case rel => exact ⟨((qbx ++ (⟨#[44]⟩ : ByteArray)) ++ qaQ), (wrap64 (qcv + 1)), qay, qay, H', ⟨qc9⟩, ⟨qao⟩⟩
def qdL.f (k : Nat) (l0 : List Int) (a1 : Bool) : Option (ByteArray) := if a1 = true then ((qb0.f k l0).bind fun qav => (some qav)) else (some (⟨#[110, 111]⟩ : ByteArray))
theorem qdL.calls (k : Nat) (A0 : Option Addr) (c0 : Nat) (l0 : List Int) (a1 : Bool) (r : ByteArray) (w : World) (hr0 : Kd.C (Kd.int .i64) w A0 l0.length l0) (hc0 : l0.length ≤ c0) (h : qdL.f k l0 a1 = some r) :
  Calls Tryz.prog 104 #[.slice A0 l0.length c0, .bool a1] w fun e w' => e = .returned (.string r) ∧ Below w.heap.size w w' := by
 have HR0 := ak_ hr0; have HC0 := ak_ hc0; clear hr0 hc0; have HB := br_ w; have H : (if a1 = true then ((qb0.f k l0).bind fun qav => (some qav)) else (some (⟨#[110, 111]⟩ : ByteArray))) = some r := h; clear h; by_cases c3 : a1 = true
 ·subst c3; rw [if_pos rfl] at H; obtain ⟨qav, A4, H⟩ := qaB H; (try dsimp only at H); obtain rfl := sj_ H; go_enter Tryz.func104, Tryz.ntmps104
  go_wp2_with (first | (refine gl_ 8 Tryz.func158 #[.slice A0 l0.length c0] rfl qbJ ?_; (with_reducible refine (qb0.calls k _ _ l0 qav _ ?qaz ?qaA A4.1).mono ?_); (case qaz => exact qf0); (case qaA => exact qb9); rintro e w5 ⟨rfl, hb⟩; refine ⟨_, rfl, ?_⟩; replace HB := HB.mw hb; (try clear hb)))
  go_ret
  exact ⟨qca, qao⟩
 replace c3 := Bool.eq_false_iff.mpr c3; subst c3; rw [if_neg ff_] at H; obtain rfl := sj_ H; go_enter Tryz.func104, Tryz.ntmps104; go_wp2
 go_ret
 exact ⟨qca, qao⟩
def qdM.f (k : Nat) (l0 : List (qac)) (a1 : Int) : Option (Bool) := (qaP.f k l0).bind fun qav => (if qav = true then ((qbi.f a1 0 600).bind fun qaQ => (some qaQ)) else (some false))
theorem qdM.calls (k : Nat) (A0 : Option Addr) (c0 : Nat) (l0 : List (qac)) (a1 : Int) (r : Bool) (w : World) (hr0 : Kd.C qaG w A0 l0.length l0) (hc0 : l0.length ≤ c0) (h : qdM.f k l0 a1 = some r) :
  Calls Tryz.prog 159 #[.slice A0 l0.length c0, .int .i64 a1] w fun e w' => e = .returned (.bool r) ∧ Below w.heap.size w w' := by
 have HR0 := ak_ hr0; have HC0 := ak_ hc0; clear hr0 hc0; have HB := br_ w; have H : ((qaP.f k l0).bind fun qav => (if qav = true then ((qbi.f a1 0 600).bind fun qaQ => (some qaQ)) else (some false))) = some r := h; clear h; obtain ⟨qav, A3, H⟩ := qaB H; (try dsimp only at H); by_cases c4 : qav = true
 ·subst c4; rw [if_pos rfl] at H; obtain ⟨qaQ, A5, H⟩ := qaB H; (try dsimp only at H); obtain rfl := sj_ H; go_enter Tryz.func159, Tryz.ntmps159
  go_wp2_with (first | (refine gl_ 6 Tryz.func60 #[.slice A0 l0.length c0] rfl qbJ ?_; (with_reducible refine (qaP.calls k _ _ l0 true _ ?qaz ?qaA A3.1).mono ?_); (case qaz => exact qf0); (case qaA => exact qb9); rintro e w6 ⟨rfl, hb⟩; refine ⟨_, rfl, ?_⟩; replace HB := HB.mw hb; (try clear hb)) | (go_at_call 93; (with_reducible refine (qbi.calls a1 0 600 qaQ _ A5.1).mono ?_); rintro e w' ⟨rfl, ⟨nd, rfl⟩⟩))
  go_ret
  exact ⟨qca, qao⟩
 replace c4 := Bool.eq_false_iff.mpr c4; subst c4; rw [if_neg ff_] at H; obtain rfl := sj_ H; go_enter Tryz.func159, Tryz.ntmps159
 go_wp2_with (first | (refine gl_ 6 Tryz.func60 #[.slice A0 l0.length c0] rfl qbJ ?_; (with_reducible refine (qaP.calls k _ _ l0 false _ ?qaz ?qaA A3.1).mono ?_); (case qaz => exact qf0); (case qaA => exact qb9); rintro e w7 ⟨rfl, hb⟩; refine ⟨_, rfl, ?_⟩; replace HB := HB.mw hb; (try clear hb)))
 go_ret
 exact ⟨qca, qao⟩
def qb1.l0 : Nat → List (qac) → Int → List Int → Int → Option (List Int)
 | 0, _, _, _, _ => none
 | k + 1, x0, x1, x5, x6 => if x6 ≤ x1 then ((qcj.f k x0 x6).bind fun qav => (if qav = true then (if x5.length < 17592186044416 then (qb1.l0 k x0 x1 (x5 ++ [x6]) (wrap64 (x6 + 1))) else (none)) else (qb1.l0 k x0 x1 x5 (wrap64 (x6 + 1))))) else (some x5)
def qb1.f (k : Nat) (l0 : List (qac)) (a1 : Int) : Option (List Int) := qb1.l0 k l0 a1 ([] : List Int) 1
theorem qb1.calls (k : Nat) (A0 : Option Addr) (c0 : Nat) (l0 : List (qac)) (a1 : Int) (r : List Int) (w : World) (hr0 : Kd.C qaG w A0 l0.length l0) (hc0 : l0.length ≤ c0) (h : qb1.f k l0 a1 = some r) :
  Calls Tryz.prog 160 #[.slice A0 l0.length c0, .int .i64 a1] w fun e w' => ∃ v0_ : Value, e = .returned (v0_) ∧ Kd.R (Kd.int .i64) 3 w' w.heap.size (fun _ => True) v0_ r ∧ Below w.heap.size w w' := by
 have HR0 := ak_ hr0; have HC0 := ak_ hc0; clear hr0 hc0; have HB := br_ w; have H : (qb1.l0 k l0 a1 ([] : List Int) 1) = some r := h; clear h; have H' := ak_ H; clear H; go_enter Tryz.func160, Tryz.ntmps160; go_wp2
 go_loopg [5, 6] k (fun kq v5 v6 w' => ∃ (qbC : List Int) (qdq : Int), v6 = .int .i64 qdq ∧ qai (qb1.l0 kq l0 a1 qbC qdq = some r) ∧ qai (kq ≤ k) ∧ qai (Kd.R (Kd.int .i64) 3 w' w.heap.size (fun _ => True) v5 qbC) ∧ qai (Below w.heap.size w w'))
 case atStart => exact ⟨(([] : List Int)), (1), qay, H', ⟨Nat.le_refl _⟩, ⟨qhg⟩, ⟨qao⟩⟩
 case round =>
  clear H'; obtain ⟨qbC, qdq, rfl, HA, HK1, qgT, HB⟩ := hrel
  cases gk with
  | zero => exact absurd HA.1 (by simp [qb1.l0])
  | succ k1 =>
   have H := HA.1; clear HA; simp only [qb1.l0] at H; by_cases c3 : qdq ≤ a1; rotate_left
   ·rw [if_neg c3] at H; have qfr := decide_eq_false c3; clear c3; obtain rfl := sj_ H; go_wp2
    go_ret
    exact ⟨_, qca, k65_, qao⟩
   rw [if_pos c3] at H; have qfr := decide_eq_true c3; clear c3; obtain ⟨qav, A4, H⟩ := qaB H; (try dsimp only at H); by_cases c5 : qav = true; rotate_left
   ·replace c5 := Bool.eq_false_iff.mpr c5; subst c5; rw [if_neg ff_] at H; have H' := ak_ H; clear H
    go_wp2_with (first | (refine gl_ 14 Tryz.func173 #[.slice A0 l0.length c0, .int .i64 qdq] rfl qbJ ?_; (with_reducible refine (qcj.calls k1 _ _ l0 qdq false _ ?qaz ?qaA A4.1).mono ?_); (case qaz => exact qhr); (case qaA => exact qb9); rintro e w9 ⟨rfl, hb⟩; refine ⟨_, rfl, ?_⟩; replace qgT := qgT.mw hb; replace HB := HB.mw hb; (try clear hb)))
    go_roundg k1
    case measure => have := HK1.1; omega
    case rel => exact ⟨(qbC), (wrap64 (qdq + 1)), qay, H', ⟨qc9⟩, ⟨qoM⟩, ⟨qao⟩⟩
   subst c5; rw [if_pos rfl] at H; obtain ⟨c6, H⟩ := qct H; have LMc6 := ak_ c6; clear c6
   obtain ⟨qim, hy_⟩ : ∃ y_ : List Int, y_ = (qbC ++ [qdq]) := ⟨_, rfl⟩
   replace H : (qb1.l0 k1 l0 a1 qim (wrap64 (qdq + 1))) = some r := qfb; have qgI := ak_ hy_; clear hy_; have H' := ak_ H; clear H
   go_wp2_with (first | (refine gl_ 14 Tryz.func173 #[.slice A0 l0.length c0, .int .i64 qdq] rfl qbJ ?_; (with_reducible refine (qcj.calls k1 _ _ l0 qdq true _ ?qaz ?qaA A4.1).mono ?_); (case qaz => exact qhr); (case qaA => exact qb9); rintro e w7 ⟨rfl, hb⟩; refine ⟨_, rfl, ?_⟩; replace qgT := qgT.mw hb; replace HB := HB.mw hb; (try clear hb)) | ((with_reducible refine qa5 (b := .append) (xs := #[.tmp 15, .tmp 17]) rfl ?_); at_builtin; refine Kd.qc8 (Kd.int .i64) (w0 := w) w.heap.size rfl (.tmp 15) (.tmp 17) 48 3 (.int .i64 0) 8 rfl Tryz.underlying48 info3 rfl (by decide) (by omega) u5 qbC qdq [.int .i64 qdq] (fun _ => True) (fun _ => False) rfl rfl ?aP (fun _ hk => hk.elim) ?aF ?aO ?aB ?aS ?aL ?_; (case aP => exact rfl); (case aB => exact qao); (case aF => exact (fun _ _ => trivial)); (case aO => exact qoM); (case aS => exact (qab qao)); (case aL => have := LMc6.1; omega); intro qht w8 ho hb hg hat; rw [← qgI.1] at ho; replace HB := ak_ (hb); have qbZ := ak_ (ho); clear qgT; clear ho hb hg hat))
   go_roundg k1
   case measure => have := HK1.1; omega
   case rel => exact ⟨(qim), (wrap64 (qdq + 1)), qay, H', ⟨qc9⟩, ⟨k83_⟩, ⟨qao⟩⟩
def qeE.f (k : Nat) (l0 : List (qac)) (a1 : Int) : Option (List Int × Bool) := (qdM.f k l0 a1).bind fun qav => (if qav = true then ((qb1.f k l0 a1).bind fun qaQ => (some (qaQ, true))) else (some (([] : List Int), false)))
theorem qeE.calls (k : Nat) (A0 : Option Addr) (c0 : Nat) (l0 : List (qac)) (a1 : Int) (r1 : List Int) (r2 : Bool) (w : World) (hr0 : Kd.C qaG w A0 l0.length l0) (hc0 : l0.length ≤ c0) (h : qeE.f k l0 a1 = some (r1, r2)) :
  Calls Tryz.prog 105 #[.slice A0 l0.length c0, .int .i64 a1] w fun e w' => ∃ v0_ : Value, e = .returned (.tuple #[v0_, .bool r2]) ∧ Kd.R (Kd.int .i64) 3 w' w.heap.size (fun _ => True) v0_ r1 ∧ Below w.heap.size w w' := by
 have HR0 := ak_ hr0; have HC0 := ak_ hc0; clear hr0 hc0; have HB := br_ w; have H : ((qdM.f k l0 a1).bind fun qav => (if qav = true then ((qb1.f k l0 a1).bind fun qaQ => (some (qaQ, true))) else (some (([] : List Int), false)))) = some (r1, r2) := h; clear h; obtain ⟨qav, A3, H⟩ := qaB H; (try dsimp only at H); by_cases c4 : qav = true
 ·subst c4; rw [if_pos rfl] at H; obtain ⟨qaQ, A5, H⟩ := qaB H; (try dsimp only at H); obtain ⟨rfl, rfl⟩ := qdQ H; go_enter Tryz.func105, Tryz.ntmps105
  go_wp2_with (first | (refine gl_ 8 Tryz.func159 #[.slice A0 l0.length c0, .int .i64 a1] rfl qbJ ?_; (with_reducible refine (qdM.calls k _ _ l0 a1 true _ ?qaz ?qaA A3.1).mono ?_); (case qaz => exact qf0); (case qaA => exact qb9); rintro e w6 ⟨rfl, hb⟩; refine ⟨_, rfl, ?_⟩; replace HB := HB.mw hb; (try clear hb)) | (refine gl_ 12 Tryz.func160 #[.slice A0 l0.length c0, .int .i64 a1] rfl qbJ ?_; (with_reducible refine (qb1.calls k _ _ l0 a1 qaQ _ ?qaz ?qaA A5.1).mono ?_); (case qaz => exact qhr); (case qaA => exact qb9); rintro e w7 ⟨qht, rfl, ho0, hb⟩; refine ⟨_, rfl, ?_⟩; have qbZ := ak_ (Kd.qaw ho0 (qab qao)); replace HB := HB.mw hb; (try clear hb ho0)))
  go_ret2
  exact ⟨_, qca, k63_, qao⟩
 replace c4 := Bool.eq_false_iff.mpr c4; subst c4; rw [if_neg ff_] at H; obtain ⟨rfl, rfl⟩ := qdQ H; go_enter Tryz.func105, Tryz.ntmps105
 go_wp2_with (first | (refine gl_ 8 Tryz.func159 #[.slice A0 l0.length c0, .int .i64 a1] rfl qbJ ?_; (with_reducible refine (qdM.calls k _ _ l0 a1 false _ ?qaz ?qaA A3.1).mono ?_); (case qaz => exact qf0); (case qaA => exact qb9); rintro e w8 ⟨rfl, hb⟩; refine ⟨_, rfl, ?_⟩; replace HB := HB.mw hb; (try clear hb)))
 go_ret2
 exact ⟨_, qca, qhg, qao⟩
def qfo.f (k : Nat) (a0 : Int) : Option (ByteArray) := if a0 < 0 then ((qbt.f k (wrap64 (-a0))).bind fun qav => (if 1 + qav.size ≤ 9223372036854775807 then (some ((⟨#[45]⟩ : ByteArray) ++ qav)) else (none))) else ((qbt.f k a0).bind fun qaQ => (some qaQ))
theorem qfo.calls (k : Nat) (a0 : Int) (r : ByteArray) (w : World) (h : qfo.f k a0 = some r) :
  Calls Tryz.prog 161 #[.int .i64 a0] w fun e w' => e = .returned (.string r) ∧ Below w.heap.size w w' := by
 have HB := br_ w; have H : (if a0 < 0 then ((qbt.f k (wrap64 (-a0))).bind fun qav => (if 1 + qav.size ≤ 9223372036854775807 then (some ((⟨#[45]⟩ : ByteArray) ++ qav)) else (none))) else ((qbt.f k a0).bind fun qaQ => (some qaQ))) = some r := h; clear h; by_cases c2 : a0 < 0; rotate_left
 ·rw [if_neg c2] at H; have qfB := decide_eq_false c2; clear c2; obtain ⟨qaQ, A6, H⟩ := qaB H; (try dsimp only at H); obtain rfl := sj_ H; go_enter Tryz.func161, Tryz.ntmps161
  go_wp2_with (first | (refine gl_ 10 Tryz.func83 #[.int .i64 a0] rfl qbJ ?_; (with_reducible refine (qbt.calls k a0 qaQ _ A6.1).mono ?_); rintro e w7 ⟨rfl, hb⟩; refine ⟨_, rfl, ?_⟩; replace HB := HB.mw hb; (try clear hb)))
  go_ret
  exact ⟨qca, qao⟩
 rw [if_pos c2] at H; have qfB := decide_eq_true c2; clear c2; obtain ⟨qav, A3, H⟩ := qaB H; (try dsimp only at H); obtain ⟨c4, H⟩ := qct H; have qfw := eq_true c4; have qlY := decide_eq_true c4
 try have c4b2 : (9223372036854775807 < 1 + qav.size) = False := eq_false (Nat.not_lt.2 c4)
 obtain rfl := sj_ H; go_enter Tryz.func161, Tryz.ntmps161
 go_wp2_with (first | (refine gl_ 7 Tryz.func83 #[.int .i64 (wrap64 (-a0))] rfl qbJ ?_; (with_reducible refine (qbt.calls k (wrap64 (-a0)) qav _ A3.1).mono ?_); rintro e w5 ⟨rfl, hb⟩; refine ⟨_, rfl, ?_⟩; replace HB := HB.mw hb; (try clear hb)))
 go_ret
 exact ⟨qca, qao⟩
def qcH.f (k : Nat) (a0 : Int) (a1 : Bool) : Option (ByteArray) := if a1 = true then ((qfo.f k a0).bind fun qav => (some qav)) else (some (⟨#[110, 111]⟩ : ByteArray))
theorem qcH.calls (k : Nat) (a0 : Int) (a1 : Bool) (r : ByteArray) (w : World) (h : qcH.f k a0 a1 = some r) :
  Calls Tryz.prog 106 #[.int .i64 a0, .bool a1] w fun e w' => e = .returned (.string r) ∧ Below w.heap.size w w' := by
 have HB := br_ w; have H : (if a1 = true then ((qfo.f k a0).bind fun qav => (some qav)) else (some (⟨#[110, 111]⟩ : ByteArray))) = some r := h; clear h; by_cases c3 : a1 = true
 ·subst c3; rw [if_pos rfl] at H; obtain ⟨qav, A4, H⟩ := qaB H; (try dsimp only at H); obtain rfl := sj_ H; go_enter Tryz.func106, Tryz.ntmps106
  go_wp2_with (first | (refine gl_ 8 Tryz.func161 #[.int .i64 a0] rfl qbJ ?_; (with_reducible refine (qfo.calls k a0 qav _ A4.1).mono ?_); rintro e w5 ⟨rfl, hb⟩; refine ⟨_, rfl, ?_⟩; replace HB := HB.mw hb; (try clear hb)))
  go_ret
  exact ⟨qca, qao⟩
 replace c3 := Bool.eq_false_iff.mpr c3; subst c3; rw [if_neg ff_] at H; obtain rfl := sj_ H; go_enter Tryz.func106, Tryz.ntmps106; go_wp2
 go_ret
 exact ⟨qca, qao⟩
def qem.f (k : Nat) (l0 : List (qac)) (a1 : Int) : Option (Int × Bool) := (qdM.f k l0 a1).bind fun qav => (if qav = true then ((qb1.f k l0 a1).bind fun qaQ => (some ((qaQ.length : Int), true))) else (some (0, false)))
theorem qem.calls (k : Nat) (A0 : Option Addr) (c0 : Nat) (l0 : List (qac)) (a1 : Int) (r1 : Int) (r2 : Bool) (w : World) (hr0 : Kd.C qaG w A0 l0.length l0) (hc0 : l0.length ≤ c0) (h : qem.f k l0 a1 = some (r1, r2)) :
  Calls Tryz.prog 107 #[.slice A0 l0.length c0, .int .i64 a1] w fun e w' => e = .returned (.tuple #[.int .i64 r1, .bool r2]) ∧ Below w.heap.size w w' := by
 have HR0 := ak_ hr0; have HC0 := ak_ hc0; clear hr0 hc0; have HB := br_ w; have H : ((qdM.f k l0 a1).bind fun qav => (if qav = true then ((qb1.f k l0 a1).bind fun qaQ => (some ((qaQ.length : Int), true))) else (some (0, false)))) = some (r1, r2) := h; clear h; obtain ⟨qav, A3, H⟩ := qaB H; (try dsimp only at H); by_cases c4 : qav = true
 ·subst c4; rw [if_pos rfl] at H; obtain ⟨qaQ, A5, H⟩ := qaB H; (try dsimp only at H); obtain ⟨rfl, rfl⟩ := qdQ H; go_enter Tryz.func107, Tryz.ntmps107
  go_wp2_with (first | (refine gl_ 8 Tryz.func159 #[.slice A0 l0.length c0, .int .i64 a1] rfl qbJ ?_; (with_reducible refine (qdM.calls k _ _ l0 a1 true _ ?qaz ?qaA A3.1).mono ?_); (case qaz => exact qf0); (case qaA => exact qb9); rintro e w6 ⟨rfl, hb⟩; refine ⟨_, rfl, ?_⟩; replace HB := HB.mw hb; (try clear hb)) | (refine gl_ 12 Tryz.func160 #[.slice A0 l0.length c0, .int .i64 a1] rfl qbJ ?_; (with_reducible refine (qb1.calls k _ _ l0 a1 qaQ _ ?qaz ?qaA A5.1).mono ?_); (case qaz => exact qhr); (case qaA => exact qb9); rintro e w7 ⟨qht, rfl, ho0, hb⟩; refine ⟨_, rfl, ?_⟩; have qbZ := ak_ (Kd.qaw ho0 (qab qao)); replace HB := HB.mw hb; (try clear hb ho0); obtain ⟨Ao8, co8, eo8⟩ := Kd.qaI qbZ.1; subst eo8))
  go_ret2
  exact ⟨qca, qao⟩
 replace c4 := Bool.eq_false_iff.mpr c4; subst c4; rw [if_neg ff_] at H; obtain ⟨rfl, rfl⟩ := qdQ H; go_enter Tryz.func107, Tryz.ntmps107
 go_wp2_with (first | (refine gl_ 8 Tryz.func159 #[.slice A0 l0.length c0, .int .i64 a1] rfl qbJ ?_; (with_reducible refine (qdM.calls k _ _ l0 a1 false _ ?qaz ?qaA A3.1).mono ?_); (case qaz => exact qf0); (case qaA => exact qb9); rintro e w9 ⟨rfl, hb⟩; refine ⟨_, rfl, ?_⟩; replace HB := HB.mw hb; (try clear hb)))
 go_ret2
 exact ⟨qca, qao⟩
def qcF.f (k : Nat) (l0 : List (qac)) : Option (Int × Bool) := (qaP.f k l0).bind fun qav => (if qav = true then ((qbg.f k l0).bind fun qaQ => (if qaQ = 0 then (some (0, false)) else ((qbg.f k l0).bind fun qcb => (some (qcb, true))))) else (some (0, false)))
theorem qcF.calls (k : Nat) (A0 : Option Addr) (c0 : Nat) (l0 : List (qac)) (r1 : Int) (r2 : Bool) (w : World) (hr0 : Kd.C qaG w A0 l0.length l0) (hc0 : l0.length ≤ c0) (h : qcF.f k l0 = some (r1, r2)) :
  Calls Tryz.prog 108 #[.slice A0 l0.length c0] w fun e w' => e = .returned (.tuple #[.int .i64 r1, .bool r2]) ∧ Below w.heap.size w w' := by
 have HR0 := ak_ hr0; have HC0 := ak_ hc0; clear hr0 hc0; have HB := br_ w; have H : ((qaP.f k l0).bind fun qav => (if qav = true then ((qbg.f k l0).bind fun qaQ => (if qaQ = 0 then (some (0, false)) else ((qbg.f k l0).bind fun qcb => (some (qcb, true))))) else (some (0, false)))) = some (r1, r2) := h; clear h; obtain ⟨qav, A2, H⟩ := qaB H; (try dsimp only at H); by_cases c3 : qav = true; rotate_left
 ·replace c3 := Bool.eq_false_iff.mpr c3; subst c3; rw [if_neg ff_] at H; obtain ⟨rfl, rfl⟩ := qdQ H; go_enter Tryz.func108, Tryz.ntmps108
  go_wp2_with (first | (refine gl_ 5 Tryz.func60 #[.slice A0 l0.length c0] rfl qbJ ?_; (with_reducible refine (qaP.calls k _ _ l0 false _ ?qaz ?qaA A2.1).mono ?_); (case qaz => exact qf0); (case qaA => exact qb9); rintro e w12 ⟨rfl, hb⟩; refine ⟨_, rfl, ?_⟩; replace HB := HB.mw hb; (try clear hb)))
  go_ret2
  exact ⟨qca, qao⟩
 subst c3; rw [if_pos rfl] at H; obtain ⟨qaQ, A4, H⟩ := qaB H; (try dsimp only at H); by_cases c5 : qaQ = 0
 ·rw [if_pos c5] at H; have qgL : (qaQ == 0) = true := beq_iff_eq.mpr c5; have qrb : (qaQ != 0) = false := bne_eq_false_iff_eq.mpr c5; clear c5; obtain ⟨rfl, rfl⟩ := qdQ H; go_enter Tryz.func108, Tryz.ntmps108
  go_wp2_with (first | (refine gl_ 5 Tryz.func60 #[.slice A0 l0.length c0] rfl qbJ ?_; (with_reducible refine (qaP.calls k _ _ l0 true _ ?qaz ?qaA A2.1).mono ?_); (case qaz => exact qf0); (case qaA => exact qb9); rintro e w6 ⟨rfl, hb⟩; refine ⟨_, rfl, ?_⟩; replace HB := HB.mw hb; (try clear hb)) | (go_at_call 155; (with_reducible refine (qbg.calls k _ _ l0 qaQ _ ?qaz ?qaA A4.1).mono ?_); (case qaz => exact qhr); (case qaA => exact qb9); rintro e w7 ⟨rfl, hb⟩; replace HB := HB.mw hb; (try clear hb)))
  go_ret2
  exact ⟨qca, qao⟩
 rw [if_neg c5] at H; have qgL : (qaQ == 0) = false := beq_eq_false_iff_ne.mpr c5; have qrb : (qaQ != 0) = true := bne_iff_ne.mpr c5; obtain ⟨qcb, A8, H⟩ := qaB H; (try dsimp only at H); obtain ⟨rfl, rfl⟩ := qdQ H; go_enter Tryz.func108, Tryz.ntmps108
 go_wp2_with (first | (refine gl_ 5 Tryz.func60 #[.slice A0 l0.length c0] rfl qbJ ?_; (with_reducible refine (qaP.calls k _ _ l0 true _ ?qaz ?qaA A2.1).mono ?_); (case qaz => exact qf0); (case qaA => exact qb9); rintro e w9 ⟨rfl, hb⟩; refine ⟨_, rfl, ?_⟩; replace HB := HB.mw hb; (try clear hb)) | (go_at_call 155; (with_reducible refine (qbg.calls k _ _ l0 qaQ _ ?qaz ?qaA A4.1).mono ?_); (case qaz => exact qhr); (case qaA => exact qb9); rintro e w10 ⟨rfl, hb⟩; replace HB := HB.mw hb; (try clear hb)) | (refine gl_ 13 Tryz.func155 #[.slice A0 l0.length c0] rfl qbJ ?_; (with_reducible refine (qbg.calls k _ _ l0 qcb _ ?qaz ?qaA A8.1).mono ?_); (case qaz => exact qhr); (case qaA => exact qb9); rintro e w11 ⟨rfl, hb⟩; refine ⟨_, rfl, ?_⟩; replace HB := HB.mw hb; (try clear hb)))
 go_ret2
 exact ⟨qca, qao⟩
def qaU.l0 : Nat → List (qac) → Int → Int → Option (Int)
 | 0, _, _, _ => none
 | k + 1, x0, x3, x4 => if x4 < x3 then ((qcj.f k x0 x4).bind fun qcb => (if qcb = true then (some x3) else (qaU.l0 k x0 x3 (wrap64 (x4 + 1))))) else (some 0)
def qaU.f (k : Nat) (l0 : List (qac)) : Option (Int) := (qaP.f k l0).bind fun qav => (if qav = true then ((qbg.f k l0).bind fun qaQ => (if qaQ > 5000 then (some 0) else (qaU.l0 k l0 qaQ 0))) else (some 0))
theorem qaU.calls (k : Nat) (A0 : Option Addr) (c0 : Nat) (l0 : List (qac)) (r : Int) (w : World) (hr0 : Kd.C qaG w A0 l0.length l0) (hc0 : l0.length ≤ c0) (h : qaU.f k l0 = some r) :
  Calls Tryz.prog 162 #[.slice A0 l0.length c0] w fun e w' => e = .returned (.int .i64 r) ∧ Below w.heap.size w w' := by
 have HR0 := ak_ hr0; have HC0 := ak_ hc0; clear hr0 hc0; have HB := br_ w; have H : ((qaP.f k l0).bind fun qav => (if qav = true then ((qbg.f k l0).bind fun qaQ => (if qaQ > 5000 then (some 0) else (qaU.l0 k l0 qaQ 0))) else (some 0))) = some r := h; clear h; obtain ⟨qav, A2, H⟩ := qaB H; (try dsimp only at H); by_cases c3 : qav = true; rotate_left
 ·replace c3 := Bool.eq_false_iff.mpr c3; subst c3; rw [if_neg ff_] at H; obtain rfl := sj_ H; go_enter Tryz.func162, Tryz.ntmps162
  go_wp2_with (first | (refine gl_ 6 Tryz.func60 #[.slice A0 l0.length c0] rfl qbJ ?_; (with_reducible refine (qaP.calls k _ _ l0 false _ ?qaz ?qaA A2.1).mono ?_); (case qaz => exact qf0); (case qaA => exact qb9); rintro e w15 ⟨rfl, hb⟩; refine ⟨_, rfl, ?_⟩; replace HB := HB.mw hb; (try clear hb)))
  go_ret
  exact ⟨qca, qao⟩
 subst c3; rw [if_pos rfl] at H; obtain ⟨qaQ, A4, H⟩ := qaB H; (try dsimp only at H); by_cases c5 : qaQ > 5000
 ·rw [if_pos c5] at H; have qgL : decide (5000 < qaQ) = true := decide_eq_true c5; clear c5; obtain rfl := sj_ H; go_enter Tryz.func162, Tryz.ntmps162
  go_wp2_with (first | (refine gl_ 6 Tryz.func60 #[.slice A0 l0.length c0] rfl qbJ ?_; (with_reducible refine (qaP.calls k _ _ l0 true _ ?qaz ?qaA A2.1).mono ?_); (case qaz => exact qf0); (case qaA => exact qb9); rintro e w6 ⟨rfl, hb⟩; refine ⟨_, rfl, ?_⟩; replace HB := HB.mw hb; (try clear hb)) | (refine gl_ 9 Tryz.func155 #[.slice A0 l0.length c0] rfl qbJ ?_; (with_reducible refine (qbg.calls k _ _ l0 qaQ _ ?qaz ?qaA A4.1).mono ?_); (case qaz => exact qhr); (case qaA => exact qb9); rintro e w7 ⟨rfl, hb⟩; refine ⟨_, rfl, ?_⟩; replace HB := HB.mw hb; (try clear hb)))
  go_ret
  exact ⟨qca, qao⟩
 rw [if_neg c5] at H; have qgL : decide (5000 < qaQ) = false := decide_eq_false c5; clear c5; have H' := ak_ H; clear H; go_enter Tryz.func162, Tryz.ntmps162
 go_wp2_with (first | (refine gl_ 6 Tryz.func60 #[.slice A0 l0.length c0] rfl qbJ ?_; (with_reducible refine (qaP.calls k _ _ l0 true _ ?qaz ?qaA A2.1).mono ?_); (case qaz => exact qf0); (case qaA => exact qb9); rintro e w8 ⟨rfl, hb⟩; refine ⟨_, rfl, ?_⟩; replace HB := HB.mw hb; (try clear hb)) | (refine gl_ 9 Tryz.func155 #[.slice A0 l0.length c0] rfl qbJ ?_; (with_reducible refine (qbg.calls k _ _ l0 qaQ _ ?qaz ?qaA A4.1).mono ?_); (case qaz => exact qhr); (case qaA => exact qb9); rintro e w9 ⟨rfl, hb⟩; refine ⟨_, rfl, ?_⟩; replace HB := HB.mw hb; (try clear hb)))
 go_loopg [4] k (fun kq v4 w' => ∃ (qcP : Int), v4 = .int .i64 qcP ∧ qai (qaU.l0 kq l0 qaQ qcP = some r) ∧ qai (kq ≤ k) ∧ qai (Below w.heap.size w w'))
 case atStart => exact ⟨(0), qay, H', ⟨Nat.le_refl _⟩, ⟨qao⟩⟩
 case round =>
  clear H'
  skip
  obtain ⟨qcP, rfl, HA, HK1, HB⟩ := hrel
  cases gk with
  | zero => exact absurd HA.1 (by simp [qaU.l0])
  | succ k1 =>
   have H := HA.1; clear HA; simp only [qaU.l0] at H; by_cases c10 : qcP < qaQ; rotate_left
   ·rw [if_neg c10] at H; have qgY := decide_eq_false c10; clear c10; obtain rfl := sj_ H; go_wp2
    go_ret
    exact ⟨qca, qao⟩
   rw [if_pos c10] at H; have qgY := decide_eq_true c10; clear c10; obtain ⟨qcb, A11, H⟩ := qaB H; (try dsimp only at H); by_cases c12 : qcb = true
   ·subst c12; rw [if_pos rfl] at H; obtain rfl := sj_ H
    go_wp2_with (first | (refine gl_ 19 Tryz.func173 #[.slice A0 l0.length c0, .int .i64 qcP] rfl qbJ ?_; (with_reducible refine (qcj.calls k1 _ _ l0 qcP true _ ?qaz ?qaA A11.1).mono ?_); (case qaz => exact qhr); (case qaA => exact qb9); rintro e w13 ⟨rfl, hb⟩; refine ⟨_, rfl, ?_⟩; replace HB := HB.mw hb; (try clear hb)))
    go_ret
    exact ⟨qca, qao⟩
   replace c12 := Bool.eq_false_iff.mpr c12; subst c12; rw [if_neg ff_] at H; have H' := ak_ H; clear H
   go_wp2_with (first | (refine gl_ 19 Tryz.func173 #[.slice A0 l0.length c0, .int .i64 qcP] rfl qbJ ?_; (with_reducible refine (qcj.calls k1 _ _ l0 qcP false _ ?qaz ?qaA A11.1).mono ?_); (case qaz => exact qhr); (case qaA => exact qb9); rintro e w14 ⟨rfl, hb⟩; refine ⟨_, rfl, ?_⟩; replace HB := HB.mw hb; (try clear hb)))
   go_roundg k1
   case measure => have := HK1.1; omega
   case rel => exact ⟨(wrap64 (qcP + 1)), qay, H', ⟨qc9⟩, ⟨qao⟩⟩
def qbr.l0 : Nat → List (qac) → Int → List Int → Int → Option (List Int)
 | 0, _, _, _, _ => none
 | k + 1, x0, x1, x5, x6 => if x6 ≤ x1 then ((qcj.f k x0 x6).bind fun qav => (if qav = true then (if x5.length < 17592186044416 then (qbr.l0 k x0 x1 (x5 ++ [x6]) (wrap64 (x6 + 1))) else (none)) else (qbr.l0 k x0 x1 x5 (wrap64 (x6 + 1))))) else (some x5)
def qbr.f (k : Nat) (l0 : List (qac)) (a1 : Int) : Option (List Int) := qbr.l0 k l0 a1 ([] : List Int) 1
theorem qbr.calls (k : Nat) (A0 : Option Addr) (c0 : Nat) (l0 : List (qac)) (a1 : Int) (r : List Int) (w : World) (hr0 : Kd.C qaG w A0 l0.length l0) (hc0 : l0.length ≤ c0) (h : qbr.f k l0 a1 = some r) :
  Calls Tryz.prog 163 #[.slice A0 l0.length c0, .int .i64 a1] w fun e w' => ∃ v0_ : Value, e = .returned (v0_) ∧ Kd.R (Kd.int .i64) 3 w' w.heap.size (fun _ => True) v0_ r ∧ Below w.heap.size w w' := by
 have HR0 := ak_ hr0; have HC0 := ak_ hc0; clear hr0 hc0; have HB := br_ w; have H : (qbr.l0 k l0 a1 ([] : List Int) 1) = some r := h; clear h; have H' := ak_ H; clear H; go_enter Tryz.func163, Tryz.ntmps163; go_wp2
 go_loopg [5, 6] k (fun kq v5 v6 w' => ∃ (qbC : List Int) (qdq : Int), v6 = .int .i64 qdq ∧ qai (qbr.l0 kq l0 a1 qbC qdq = some r) ∧ qai (kq ≤ k) ∧ qai (Kd.R (Kd.int .i64) 3 w' w.heap.size (fun _ => True) v5 qbC) ∧ qai (Below w.heap.size w w'))
 case atStart => exact ⟨(([] : List Int)), (1), qay, H', ⟨Nat.le_refl _⟩, ⟨qhg⟩, ⟨qao⟩⟩
 case round =>
  clear H'; obtain ⟨qbC, qdq, rfl, HA, HK1, qgT, HB⟩ := hrel
  cases gk with
  | zero => exact absurd HA.1 (by simp [qbr.l0])
  | succ k1 =>
   have H := HA.1; clear HA; simp only [qbr.l0] at H; by_cases c3 : qdq ≤ a1; rotate_left
   ·rw [if_neg c3] at H; have qfr := decide_eq_false c3; clear c3; obtain rfl := sj_ H; go_wp2
    go_ret
    exact ⟨_, qca, k65_, qao⟩
   rw [if_pos c3] at H; have qfr := decide_eq_true c3; clear c3; obtain ⟨qav, A4, H⟩ := qaB H; (try dsimp only at H); by_cases c5 : qav = true; rotate_left
   ·replace c5 := Bool.eq_false_iff.mpr c5; subst c5; rw [if_neg ff_] at H; have H' := ak_ H; clear H
    go_wp2_with (first | (refine gl_ 14 Tryz.func173 #[.slice A0 l0.length c0, .int .i64 qdq] rfl qbJ ?_; (with_reducible refine (qcj.calls k1 _ _ l0 qdq false _ ?qaz ?qaA A4.1).mono ?_); (case qaz => exact qhr); (case qaA => exact qb9); rintro e w9 ⟨rfl, hb⟩; refine ⟨_, rfl, ?_⟩; replace qgT := qgT.mw hb; replace HB := HB.mw hb; (try clear hb)))
    go_roundg k1
    case measure => have := HK1.1; omega
    case rel => exact ⟨(qbC), (wrap64 (qdq + 1)), qay, H', ⟨qc9⟩, ⟨qoM⟩, ⟨qao⟩⟩
   subst c5; rw [if_pos rfl] at H; obtain ⟨c6, H⟩ := qct H; have LMc6 := ak_ c6; clear c6
   obtain ⟨qim, hy_⟩ : ∃ y_ : List Int, y_ = (qbC ++ [qdq]) := ⟨_, rfl⟩
   replace H : (qbr.l0 k1 l0 a1 qim (wrap64 (qdq + 1))) = some r := qfb; have qgI := ak_ hy_; clear hy_; have H' := ak_ H; clear H
   go_wp2_with (first | (refine gl_ 14 Tryz.func173 #[.slice A0 l0.length c0, .int .i64 qdq] rfl qbJ ?_; (with_reducible refine (qcj.calls k1 _ _ l0 qdq true _ ?qaz ?qaA A4.1).mono ?_); (case qaz => exact qhr); (case qaA => exact qb9); rintro e w7 ⟨rfl, hb⟩; refine ⟨_, rfl, ?_⟩; replace qgT := qgT.mw hb; replace HB := HB.mw hb; (try clear hb)) | ((with_reducible refine qa5 (b := .append) (xs := #[.tmp 15, .tmp 17]) rfl ?_); at_builtin; refine Kd.qc8 (Kd.int .i64) (w0 := w) w.heap.size rfl (.tmp 15) (.tmp 17) 48 3 (.int .i64 0) 8 rfl Tryz.underlying48 info3 rfl (by decide) (by omega) u5 qbC qdq [.int .i64 qdq] (fun _ => True) (fun _ => False) rfl rfl ?aP (fun _ hk => hk.elim) ?aF ?aO ?aB ?aS ?aL ?_; (case aP => exact rfl); (case aB => exact qao); (case aF => exact (fun _ _ => trivial)); (case aO => exact qoM); (case aS => exact (qab qao)); (case aL => have := LMc6.1; omega); intro qht w8 ho hb hg hat; rw [← qgI.1] at ho; replace HB := ak_ (hb); have qbZ := ak_ (ho); clear qgT; clear ho hb hg hat))
   go_roundg k1
   case measure => have := HK1.1; omega
   case rel => exact ⟨(qim), (wrap64 (qdq + 1)), qay, H', ⟨qc9⟩, ⟨k83_⟩, ⟨qao⟩⟩
def qdV.f (k : Nat) (l0 : List (qac)) : Option (List Int × Bool) := (qaU.f k l0).bind fun qav => (if qav = 0 then (some (([] : List Int), false)) else ((qbr.f k l0 qav).bind fun qaQ => (some (qaQ, true))))
theorem qdV.calls (k : Nat) (A0 : Option Addr) (c0 : Nat) (l0 : List (qac)) (r1 : List Int) (r2 : Bool) (w : World) (hr0 : Kd.C qaG w A0 l0.length l0) (hc0 : l0.length ≤ c0) (h : qdV.f k l0 = some (r1, r2)) :
  Calls Tryz.prog 109 #[.slice A0 l0.length c0] w fun e w' => ∃ v0_ : Value, e = .returned (.tuple #[v0_, .bool r2]) ∧ Kd.R (Kd.int .i64) 3 w' w.heap.size (fun _ => True) v0_ r1 ∧ Below w.heap.size w w' := by
 have HR0 := ak_ hr0; have HC0 := ak_ hc0; clear hr0 hc0; have HB := br_ w; have H : ((qaU.f k l0).bind fun qav => (if qav = 0 then (some (([] : List Int), false)) else ((qbr.f k l0 qav).bind fun qaQ => (some (qaQ, true))))) = some (r1, r2) := h; clear h; obtain ⟨qav, A2, H⟩ := qaB H; (try dsimp only at H); by_cases c3 : qav = 0
 ·rw [if_pos c3] at H; have qfr : (qav == 0) = true := beq_iff_eq.mpr c3; have qlH : (qav != 0) = false := bne_eq_false_iff_eq.mpr c3; clear c3; obtain ⟨rfl, rfl⟩ := qdQ H; go_enter Tryz.func109, Tryz.ntmps109
  go_wp2_with (first | (refine gl_ 6 Tryz.func162 #[.slice A0 l0.length c0] rfl qbJ ?_; (with_reducible refine (qaU.calls k _ _ l0 qav _ ?qaz ?qaA A2.1).mono ?_); (case qaz => exact qf0); (case qaA => exact qb9); rintro e w4 ⟨rfl, hb⟩; refine ⟨_, rfl, ?_⟩; replace HB := HB.mw hb; (try clear hb)))
  go_ret2
  exact ⟨_, qca, qhg, qao⟩
 rw [if_neg c3] at H; have qfr : (qav == 0) = false := beq_eq_false_iff_ne.mpr c3; have qlH : (qav != 0) = true := bne_iff_ne.mpr c3; obtain ⟨qaQ, A5, H⟩ := qaB H; (try dsimp only at H); obtain ⟨rfl, rfl⟩ := qdQ H; go_enter Tryz.func109, Tryz.ntmps109
 go_wp2_with (first | (refine gl_ 6 Tryz.func162 #[.slice A0 l0.length c0] rfl qbJ ?_; (with_reducible refine (qaU.calls k _ _ l0 qav _ ?qaz ?qaA A2.1).mono ?_); (case qaz => exact qf0); (case qaA => exact qb9); rintro e w6 ⟨rfl, hb⟩; refine ⟨_, rfl, ?_⟩; replace HB := HB.mw hb; (try clear hb)) | (refine gl_ 11 Tryz.func163 #[.slice A0 l0.length c0, .int .i64 qav] rfl qbJ ?_; (with_reducible refine (qbr.calls k _ _ l0 qav qaQ _ ?qaz ?qaA A5.1).mono ?_); (case qaz => exact qhr); (case qaA => exact qb9); rintro e w7 ⟨qht, rfl, ho0, hb⟩; refine ⟨_, rfl, ?_⟩; have qbZ := ak_ (Kd.qaw ho0 (qab qao)); replace HB := HB.mw hb; (try clear hb ho0)))
 go_ret2
 exact ⟨_, qca, k63_, qao⟩
end
end Go.Proofs.YtjeoabbnalamcaaGreatDoor.P
