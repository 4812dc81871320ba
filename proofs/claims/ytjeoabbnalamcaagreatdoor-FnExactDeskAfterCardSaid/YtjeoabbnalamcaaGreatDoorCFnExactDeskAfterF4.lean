/- What functions of the program answer. Proved in this text: its theorems. Conditions: as each theorem states them. -/
import Derived.Test.YtjeoabbnalamcaaGreatDoorCFnExactDeskAfterP
import Derived.Test.YtjeoabbnalamcaaGreatDoorCFnExactDeskAfterF3
import Derived.Test.YtjeoabbnalamcaaGreatDoorCFnExactDeskAfterF2
import Derived.Test.YtjeoabbnalamcaaGreatDoorCFnExactDeskAfterF0
namespace Go.Proofs.YtjeoabbnalamcaaGreatDoor.P
open Go.RowKit Go.Proofs.YtjeoabbnalamcaaGreatDoorW.qaZ Go.Proofs.YtjeoabbnalamcaaGreatDoorW.PrintLast Go.Proofs.YtjeoabbnalamcaaGreatDoorW.PrintMore
set_option linter.unusedVariables false
set_option linter.unusedSimpArgs false
set_option maxHeartbeats 8000000
set_option maxRecDepth 100000
section
attribute [local go_sem] qhj qhl qiE qiF qgt qgu qhk qhm
def qbX.l0 : Nat → Int → List Int → List Int → List Int → Int → Int → Option (List Int)
 | 0, _, _, _, _, _, _ => none
 | k + 1, x1, x5, x6, x13, x14, x15 => if x15 < x14 then (if 0 ≤ x15 then (if x15 < (x13.length : Int) then (if 0 < (x5.length : Int) then (if (wrap64 (x15 + 1)) < (x5.length : Int) then (if 0 ≤ (wrap64 (x15 + 1)) then (if x6.length < 17592186044416 then (qbX.l0 k x1 x5 (x6 ++ [wrap64 ((rd x5 (wrap64 (x15 + 1))) - (rd x13 x15))]) x13 x14 (wrap64 (x15 + 1))) else (none)) else (none)) else (if x6.length < 17592186044416 then (qbX.l0 k x1 x5 (x6 ++ [wrap64 ((wrap64 ((rd x5 0) + x1)) - (rd x13 x15))]) x13 x14 (wrap64 (x15 + 1))) else (none))) else (none)) else (none)) else (none)) else (some x6)
def qbX.f (k : Nat) (l0 : List (qac)) (a1 : Int) : Option (List Int) := (qbr.f k l0 a1).bind fun qav => (qbX.l0 k a1 qav ([] : List Int) qav (qav.length : Int) 0)
theorem qbX.calls (k : Nat) (A0 : Option Addr) (c0 : Nat) (l0 : List (qac)) (a1 : Int) (r : List Int) (w : World) (hr0 : Kd.C qaG w A0 l0.length l0) (hc0 : l0.length ≤ c0) (h : qbX.f k l0 a1 = some r) :
  Calls Tryz.prog 164 #[.slice A0 l0.length c0, .int .i64 a1] w fun e w' => ∃ v0_ : Value, e = .returned (v0_) ∧ Kd.R (Kd.int .i64) 3 w' w.heap.size (fun _ => True) v0_ r ∧ Below w.heap.size w w' := by
 have HR0 := ak_ hr0; have HC0 := ak_ hc0; clear hr0 hc0; have HB := br_ w; have H : ((qbr.f k l0 a1).bind fun qav => (qbX.l0 k a1 qav ([] : List Int) qav (qav.length : Int) 0)) = some r := h; clear h; obtain ⟨qav, A3, H⟩ := qaB H; (try dsimp only at H); have H' := ak_ H; clear H; go_enter Tryz.func164, Tryz.ntmps164
 go_wp2_with (first | (refine gl_ 12 Tryz.func163 #[.slice A0 l0.length c0, .int .i64 a1] rfl qbJ ?_; (with_reducible refine (qbr.calls k _ _ l0 a1 qav _ ?qaz ?qaA A3.1).mono ?_); (case qaz => exact qf0); (case qaA => exact qb9); rintro e w4 ⟨qjd, rfl, ho0, hb⟩; refine ⟨_, rfl, ?_⟩; have qcI := ak_ (Kd.qaw ho0 (qab qao)); replace HB := HB.mw hb; (try clear hb ho0); obtain ⟨Ao5, co5, eo5⟩ := Kd.qaI qcI.1; subst eo5))
 go_loopg [6, 15] k (fun kq v6 v15 w' => ∃ (qdq : List Int) (qgy : Int), v15 = .int .i64 qgy ∧ qai (qbX.l0 kq a1 qav qdq qav (qav.length : Int) qgy = some r) ∧ qai (kq ≤ k) ∧ qai (Kd.R (Kd.int .i64) 3 w' w.heap.size (fun k_ => some k_ ≠ (v6 : Value).ownBlock) (.slice Ao5 qav.length co5) qav) ∧ qai (Kd.R (Kd.int .i64) 3 w' w.heap.size (fun k_ => some k_ ≠ ((.slice Ao5 qav.length co5) : Value).ownBlock ∧ some k_ ≠ ((.slice Ao5 qav.length co5) : Value).ownBlock) v6 qdq) ∧ qai (Kd.R (Kd.int .i64) 3 w' w.heap.size (fun k_ => some k_ ≠ (v6 : Value).ownBlock) (.slice Ao5 qav.length co5) qav) ∧ qai (Below w.heap.size w w'))
 case atStart => exact ⟨(([] : List Int)), (0), qay, H', ⟨Nat.le_refl _⟩, ⟨by (with_reducible repeat (first | apply Kd.qaq | apply Kd.qar | apply Kd.qax)); exact Kd.qa2 qcI.1 (fun _ hk => (by simp [Value.ownBlock]))⟩, ⟨qhg⟩, ⟨by (with_reducible repeat (first | apply Kd.qaq | apply Kd.qar | apply Kd.qax)); exact Kd.qa2 qcI.1 (fun _ hk => (by simp [Value.ownBlock]))⟩, ⟨qao⟩⟩
 case round =>
  clear H'; obtain ⟨qdq, qgy, rfl, HA, HK1, qgT, qfH, qlE, HB⟩ := hrel
  cases gk with
  | zero => exact absurd HA.1 (by simp [qbX.l0])
  | succ k1 =>
   have H := HA.1; clear HA; simp only [qbX.l0] at H; by_cases c6 : qgy < (qav.length : Int); rotate_left
   ·rw [if_neg c6] at H; have qgc := decide_eq_false c6; clear c6; obtain rfl := sj_ H; go_wp2
    go_ret
    exact ⟨_, qca, by (with_reducible repeat (first | apply Kd.qaq | apply Kd.qar | apply Kd.qax)); exact Kd.qa2 qfH.1 (fun _ hk => trivial), qao⟩
   rw [if_pos c6] at H; have qgc := decide_eq_true c6; clear c6; obtain ⟨c7, H⟩ := qct H; have qhx := decide_eq_true c7; clear c7; obtain ⟨c8, H⟩ := qct H; have qpc := decide_eq_true c8; clear c8; obtain ⟨c9, H⟩ := qct H; have qmQ := decide_eq_true c9; have c9b1 : decide (0 < qav.length) = true := decide_eq_true (by omega); clear c9; by_cases c10 : (wrap64 (qgy + 1)) < (qav.length : Int); rotate_left
   ·rw [if_neg c10] at H; have qgY := decide_eq_false c10; clear c10; obtain ⟨c15, H⟩ := qct H; have LMc15 := ak_ c15; clear c15
    obtain ⟨qj6, hy_⟩ : ∃ y_ : List Int, y_ = (qdq ++ [wrap64 ((wrap64 ((rd qav 0) + a1)) - (rd qav qgy))]) := ⟨_, rfl⟩
    replace H : (qbX.l0 k1 a1 qav qj6 qav (qav.length : Int) (wrap64 (qgy + 1))) = some r := qfb; have qoY := ak_ hy_; clear hy_; have H' := ak_ H; clear H; have qhz : 0 ≤ (qgy : Int) := of_decide_eq_true qaL; have qhA : qgy < (qav.length : Int) := of_decide_eq_true qaL; obtain ⟨qia, qnT, qd5⟩ := Kd.qew (Kd.qan qlE.1).2.2 qgy qhz qhA
    cases qnT
    replace qhz := eq_true qhz; replace qhA := eq_true qhA
    have qhT : 0 ≤ (0 : Int) := (by omega)
    have qhU : 0 < (qav.length : Int) := of_decide_eq_true qaL; obtain ⟨qeq, qnU, qcT⟩ := Kd.qew (Kd.qan qgT.1).2.2 0 qhT qhU
    obtain rfl : qia = qeq := (by injection qnU)
    have qtO : (0 < qav.length) = True := eq_true (by omega); (try rw [show ((0 : Int)).toNat = 0 from rfl] at qcT); (try rw [Addr.add_zero'] at qcT); replace qhT := eq_true qhT; replace qhU := eq_true qhU
    go_wp2_with (first | ((with_reducible refine qa5 (b := .append) (xs := #[.tmp 35, .tmp 39]) rfl ?_); at_builtin; refine Kd.qc8 (Kd.int .i64) (w0 := w) w.heap.size rfl (.tmp 35) (.tmp 39) 48 3 (.int .i64 0) 8 rfl Tryz.underlying48 info3 rfl (by decide) (by omega) u6 qdq (wrap64 ((wrap64 ((rd qav 0) + a1)) - (rd qav qgy))) [.int .i64 (wrap64 ((wrap64 ((rd qav 0) + a1)) - (rd qav qgy)))] (fun k_ => some k_ ≠ (.slice (some qia) qav.length co5 : Value).ownBlock ∧ some k_ ≠ (.slice (some qia) qav.length co5 : Value).ownBlock) (fun _ => False) rfl rfl ?aP (fun _ hk => hk.elim) ?aF ?aO ?aB ?aS ?aL ?_; (case aP => exact rfl); (case aB => exact qao); (case aF => exact (fun k_ hk => ⟨Kd.qiY (Kd.qkb qoM) k_ hk, Kd.qiY (Kd.qkb (by apply_rules only [qlE.1, Kd.qaq, Kd.qar, Kd.qax])) k_ hk⟩)); (case aO => exact qpL); (case aS => exact (qab qao)); (case aL => have := LMc15.1; omega); intro v111 w16 ho hb hg hat; rw [← qoY.1] at ho; replace qgT := ak_ (Kd.qgh (ok := (fun _ => True)) (by (with_reducible repeat (first | apply Kd.qaq | apply Kd.qar | apply Kd.qax)); exact Kd.qa2 qgT.1 (fun _ hk => ⟨trivial, hk⟩)) hg hat); replace qlE := ak_ (Kd.qgh (ok := (fun _ => True)) (by (with_reducible repeat (first | apply Kd.qaq | apply Kd.qar | apply Kd.qax)); exact Kd.qa2 qlE.1 (fun _ hk => ⟨trivial, hk⟩)) hg hat); replace HB := ak_ (hb); have qrX := ak_ (ho); clear qfH; clear ho hb hg hat))
    go_roundg k1
    case measure => have := HK1.1; omega
    case rel => exact ⟨(qj6), (wrap64 (qgy + 1)), qay, H', ⟨qc9⟩, ⟨by (with_reducible repeat (first | apply Kd.qaq | apply Kd.qar | apply Kd.qax)); exact Kd.qa2 qgT.1 (fun _ hk => hk.2)⟩, ⟨k86_⟩, ⟨by (with_reducible repeat (first | apply Kd.qaq | apply Kd.qar | apply Kd.qax)); exact Kd.qa2 qlE.1 (fun _ hk => hk.2)⟩, ⟨qao⟩⟩
   rw [if_pos c10] at H; have qgY := decide_eq_true c10; clear c10
   obtain ⟨qrO, qtg⟩ : ∃ j_ : Int, (wrap64 (qgy + 1)) = j_ := ⟨_, rfl⟩
   replace H : (if 0 ≤ (qrO) then (if qdq.length < 17592186044416 then (qbX.l0 k1 a1 qav (qdq ++ [wrap64 ((rd qav (qrO)) - (rd qav qgy))]) qav (qav.length : Int) qrO) else (none)) else (none)) = some r := by first | (rw [qtg] at H; exact H) | (simp only [qtg] at H ⊢; exact H)
   (try rw [qtg] at qgY); have hji11w : (IntKind.i64.wrap (qgy + 1)) = qrO := (qec _).trans qtg; obtain ⟨c12, H⟩ := qct H; have qhN := decide_eq_true c12; clear c12; obtain ⟨c13, H⟩ := qct H; have LMc13 := ak_ c13; clear c13
   obtain ⟨qfZ, hy_⟩ : ∃ y_ : List Int, y_ = (qdq ++ [wrap64 ((rd qav (qrO)) - (rd qav qgy))]) := ⟨_, rfl⟩
   replace H : (qbX.l0 k1 a1 qav qfZ qav (qav.length : Int) qrO) = some r := qfb; have qj9 := ak_ hy_; clear hy_; have H' := ak_ H; clear H; have qhz : 0 ≤ (qgy : Int) := of_decide_eq_true qaL; have qhA : qgy < (qav.length : Int) := of_decide_eq_true qaL; obtain ⟨qia, qnT, qd5⟩ := Kd.qew (Kd.qan qlE.1).2.2 qgy qhz qhA
   cases qnT
   replace qhz := eq_true qhz; replace qhA := eq_true qhA
   have qhT : 0 ≤ (0 : Int) := (by omega)
   have qhU : 0 < (qav.length : Int) := of_decide_eq_true qaL; obtain ⟨qeq, qnU, qcT⟩ := Kd.qew (Kd.qan qgT.1).2.2 0 qhT qhU
   obtain rfl : qia = qeq := (by injection qnU)
   have qtO : (0 < qav.length) = True := eq_true (by omega); (try rw [show ((0 : Int)).toNat = 0 from rfl] at qcT); (try rw [Addr.add_zero'] at qcT); replace qhT := eq_true qhT; replace qhU := eq_true qhU; have qfW : 0 ≤ ((qrO) : Int) := of_decide_eq_true qaL; have qfX : (qrO) < (qav.length : Int) := of_decide_eq_true qaL; obtain ⟨qg4, qke, qcu⟩ := Kd.qew (Kd.qan qgT.1).2.2 (qrO) qfW qfX
   obtain rfl : qia = qg4 := (by injection qke)
   replace qfW := eq_true qfW; replace qfX := eq_true qfX
   go_wp2_with (first | ((with_reducible refine qa5 (b := .append) (xs := #[.tmp 35, .tmp 39]) rfl ?_); at_builtin; refine Kd.qc8 (Kd.int .i64) (w0 := w) w.heap.size rfl (.tmp 35) (.tmp 39) 48 3 (.int .i64 0) 8 rfl Tryz.underlying48 info3 rfl (by decide) (by omega) u6 qdq (wrap64 ((rd qav (qrO)) - (rd qav qgy))) [.int .i64 (wrap64 ((rd qav (qrO)) - (rd qav qgy)))] (fun k_ => some k_ ≠ (.slice (some qia) qav.length co5 : Value).ownBlock ∧ some k_ ≠ (.slice (some qia) qav.length co5 : Value).ownBlock) (fun _ => False) rfl rfl ?aP (fun _ hk => hk.elim) ?aF ?aO ?aB ?aS ?aL ?_; (case aP => exact rfl); (case aB => exact qao); (case aF => exact (fun k_ hk => ⟨Kd.qiY (Kd.qkb qoM) k_ hk, Kd.qiY (Kd.qkb (by apply_rules only [qlE.1, Kd.qaq, Kd.qar, Kd.qax])) k_ hk⟩)); (case aO => exact qpL); (case aS => exact (qab qao)); (case aL => have := LMc13.1; omega); intro v108 w14 ho hb hg hat; rw [← qj9.1] at ho; replace qgT := ak_ (Kd.qgh (ok := (fun _ => True)) (by (with_reducible repeat (first | apply Kd.qaq | apply Kd.qar | apply Kd.qax)); exact Kd.qa2 qgT.1 (fun _ hk => ⟨trivial, hk⟩)) hg hat); replace qlE := ak_ (Kd.qgh (ok := (fun _ => True)) (by (with_reducible repeat (first | apply Kd.qaq | apply Kd.qar | apply Kd.qax)); exact Kd.qa2 qlE.1 (fun _ hk => ⟨trivial, hk⟩)) hg hat); replace HB := ak_ (hb); have qeg := ak_ (ho); clear qfH; clear ho hb hg hat))
   go_roundg k1
   case measure => have := HK1.1; omega
   case rel => exact ⟨(qfZ), (qrO), (by first | rfl | (simp; done) | (simp only [← qtg] <;> (first | rfl | simp)) | (simp [*]; done)), H', ⟨qc9⟩, ⟨by (with_reducible repeat (first | apply Kd.qaq | apply Kd.qar | apply Kd.qax)); exact Kd.qa2 qgT.1 (fun _ hk => hk.2)⟩, ⟨by apply_rules only [qeg.1, Kd.qaq, Kd.qar, Kd.qax]⟩, ⟨by (with_reducible repeat (first | apply Kd.qaq | apply Kd.qar | apply Kd.qax)); exact Kd.qa2 qlE.1 (fun _ hk => hk.2)⟩, ⟨qao⟩⟩
def qee.f (k : Nat) (l0 : List (qac)) : Option (List Int × Bool) := (qaU.f k l0).bind fun qav => (if qav = 0 then (some (([] : List Int), false)) else ((qbX.f k l0 qav).bind fun qaQ => (some (qaQ, true))))
theorem qee.calls (k : Nat) (A0 : Option Addr) (c0 : Nat) (l0 : List (qac)) (r1 : List Int) (r2 : Bool) (w : World) (hr0 : Kd.C qaG w A0 l0.length l0) (hc0 : l0.length ≤ c0) (h : qee.f k l0 = some (r1, r2)) :
  Calls Tryz.prog 110 #[.slice A0 l0.length c0] w fun e w' => ∃ v0_ : Value, e = .returned (.tuple #[v0_, .bool r2]) ∧ Kd.R (Kd.int .i64) 3 w' w.heap.size (fun _ => True) v0_ r1 ∧ Below w.heap.size w w' := by
 have HR0 := ak_ hr0; have HC0 := ak_ hc0; clear hr0 hc0; have HB := br_ w; have H : ((qaU.f k l0).bind fun qav => (if qav = 0 then (some (([] : List Int), false)) else ((qbX.f k l0 qav).bind fun qaQ => (some (qaQ, true))))) = some (r1, r2) := h; clear h; obtain ⟨qav, A2, H⟩ := qaB H; (try dsimp only at H); by_cases c3 : qav = 0
 ·rw [if_pos c3] at H; have qfr : (qav == 0) = true := beq_iff_eq.mpr c3; have qlH : (qav != 0) = false := bne_eq_false_iff_eq.mpr c3; clear c3; obtain ⟨rfl, rfl⟩ := qdQ H; go_enter Tryz.func110, Tryz.ntmps110
  go_wp2_with (first | (refine gl_ 6 Tryz.func162 #[.slice A0 l0.length c0] rfl qbJ ?_; (with_reducible refine (qaU.calls k _ _ l0 qav _ ?qaz ?qaA A2.1).mono ?_); (case qaz => exact qf0); (case qaA => exact qb9); rintro e w4 ⟨rfl, hb⟩; refine ⟨_, rfl, ?_⟩; replace HB := HB.mw hb; (try clear hb)))
  go_ret2
  exact ⟨_, qca, qhg, qao⟩
 rw [if_neg c3] at H; have qfr : (qav == 0) = false := beq_eq_false_iff_ne.mpr c3; have qlH : (qav != 0) = true := bne_iff_ne.mpr c3; obtain ⟨qaQ, A5, H⟩ := qaB H; (try dsimp only at H); obtain ⟨rfl, rfl⟩ := qdQ H; go_enter Tryz.func110, Tryz.ntmps110
 go_wp2_with (first | (refine gl_ 6 Tryz.func162 #[.slice A0 l0.length c0] rfl qbJ ?_; (with_reducible refine (qaU.calls k _ _ l0 qav _ ?qaz ?qaA A2.1).mono ?_); (case qaz => exact qf0); (case qaA => exact qb9); rintro e w6 ⟨rfl, hb⟩; refine ⟨_, rfl, ?_⟩; replace HB := HB.mw hb; (try clear hb)) | (refine gl_ 11 Tryz.func164 #[.slice A0 l0.length c0, .int .i64 qav] rfl qbJ ?_; (with_reducible refine (qbX.calls k _ _ l0 qav qaQ _ ?qaz ?qaA A5.1).mono ?_); (case qaz => exact qhr); (case qaA => exact qb9); rintro e w7 ⟨qht, rfl, ho0, hb⟩; refine ⟨_, rfl, ?_⟩; have qbZ := ak_ (Kd.qaw ho0 (qab qao)); replace HB := HB.mw hb; (try clear hb ho0)))
 go_ret2
 exact ⟨_, qca, k63_, qao⟩
def qd7.f (a0 : Int) : Option (Bool) := (qbi.f a0 0 1000000000).bind fun qav => (some qav)
theorem qd7.calls (a0 : Int) (r : Bool) (w : World) (h : qd7.f a0 = some r) :
  Calls Tryz.prog 165 #[.int .i64 a0] w fun e w' => e = .returned (.bool r) ∧ qcY w w' := by
 have H : ((qbi.f a0 0 1000000000).bind fun qav => (some qav)) = some r := h; clear h; obtain ⟨qav, A2, H⟩ := qaB H; (try dsimp only at H); obtain rfl := sj_ H; go_enter Tryz.func165, Tryz.ntmps165
 go_wp2_with (first | (refine gl_ 4 Tryz.func93 #[.int .i64 a0, .int .i64 0, .int .i64 1000000000] rfl qbJ ?_; (with_reducible refine (qbi.calls a0 0 1000000000 qav _ A2.1).mono ?_); rintro e w' ⟨rfl, ⟨nd, rfl⟩⟩; refine ⟨_, rfl, ?_⟩))
 go_ret
 exact ⟨qay, qc3⟩
def qc5.f (k : Nat) (l0 : List (qac)) (a1 : Int) : Option (Int × Bool) := (qaU.f k l0).bind fun qav => (if qav = 0 then (some (0, false)) else ((qd7.f a1).bind fun qaQ => (if qaQ = true then ((qbr.f k l0 qav).bind fun qcb => (if (qcb.length : Int) = 0 then (none) else (if 0 ≤ (Int.tmod a1 (qcb.length : Int)) then (if (Int.tmod a1 (qcb.length : Int)) < (qcb.length : Int) then (some (wrap64 ((wrap64 ((wrap64 (Int.tdiv a1 (qcb.length : Int))) * qav)) + (rd qcb (Int.tmod a1 (qcb.length : Int)))), true)) else (none)) else (none)))) else (some (0, false)))))
theorem qc5.calls (k : Nat) (A0 : Option Addr) (c0 : Nat) (l0 : List (qac)) (a1 : Int) (r1 : Int) (r2 : Bool) (w : World) (hr0 : Kd.C qaG w A0 l0.length l0) (hc0 : l0.length ≤ c0) (h : qc5.f k l0 a1 = some (r1, r2)) :
  Calls Tryz.prog 111 #[.slice A0 l0.length c0, .int .i64 a1] w fun e w' => e = .returned (.tuple #[.int .i64 r1, .bool r2]) ∧ Below w.heap.size w w' := by
 have HR0 := ak_ hr0; have HC0 := ak_ hc0; clear hr0 hc0; have HB := br_ w; have H : ((qaU.f k l0).bind fun qav => (if qav = 0 then (some (0, false)) else ((qd7.f a1).bind fun qaQ => (if qaQ = true then ((qbr.f k l0 qav).bind fun qcb => (if (qcb.length : Int) = 0 then (none) else (if 0 ≤ (Int.tmod a1 (qcb.length : Int)) then (if (Int.tmod a1 (qcb.length : Int)) < (qcb.length : Int) then (some (wrap64 ((wrap64 ((wrap64 (Int.tdiv a1 (qcb.length : Int))) * qav)) + (rd qcb (Int.tmod a1 (qcb.length : Int)))), true)) else (none)) else (none)))) else (some (0, false)))))) = some (r1, r2) := h; clear h; obtain ⟨qav, A3, H⟩ := qaB H; (try dsimp only at H); by_cases c4 : qav = 0
 ·rw [if_pos c4] at H; have qfw : (qav == 0) = true := beq_iff_eq.mpr c4; have qlY : (qav != 0) = false := bne_eq_false_iff_eq.mpr c4; clear c4; obtain ⟨rfl, rfl⟩ := qdQ H; go_enter Tryz.func111, Tryz.ntmps111
  go_wp2_with (first | (go_at_call 162; (with_reducible refine (qaU.calls k _ _ l0 qav _ ?qaz ?qaA A3.1).mono ?_); (case qaz => exact qf0); (case qaA => exact qb9); rintro e w5 ⟨rfl, hb⟩; replace HB := HB.mw hb; (try clear hb)))
  repeat (go_quiet (first | (go_at_call 162; (with_reducible refine (qaU.calls k _ _ l0 qav _ ?qaz ?qaA A3.1).mono ?_); (case qaz => exact qf0); (case qaA => exact qb9); rintro e w5 ⟨rfl, hb⟩; replace HB := HB.mw hb; (try clear hb))); try go_wp2_with (first | (go_at_call 162; (with_reducible refine (qaU.calls k _ _ l0 qav _ ?qaz ?qaA A3.1).mono ?_); (case qaz => exact qf0); (case qaA => exact qb9); rintro e w5 ⟨rfl, hb⟩; replace HB := HB.mw hb; (try clear hb))))
  go_ret2
  exact ⟨qca, qao⟩
 rw [if_neg c4] at H; have qfw : (qav == 0) = false := beq_eq_false_iff_ne.mpr c4; have qlY : (qav != 0) = true := bne_iff_ne.mpr c4; obtain ⟨qaQ, A6, H⟩ := qaB H; (try dsimp only at H); by_cases c7 : qaQ = true; rotate_left
 ·replace c7 := Bool.eq_false_iff.mpr c7; subst c7; rw [if_neg ff_] at H; obtain ⟨rfl, rfl⟩ := qdQ H; go_enter Tryz.func111, Tryz.ntmps111
  go_wp2_with (first | (go_at_call 162; (with_reducible refine (qaU.calls k _ _ l0 qav _ ?qaz ?qaA A3.1).mono ?_); (case qaz => exact qf0); (case qaA => exact qb9); rintro e w16 ⟨rfl, hb⟩; replace HB := HB.mw hb; (try clear hb)) | (go_at_call 165; (with_reducible refine (qd7.calls a1 false _ A6.1).mono ?_); rintro e w' ⟨rfl, ⟨nd, rfl⟩⟩; (try first | exact ⟨rfl, _, World.drewN_drewN _ _ _⟩ | exact ⟨rfl, _, Eq.trans (World.drewN_drewN _ _ _) (congrArg (World.drewN _) (Nat.add_assoc _ _ _))⟩)))
  repeat (go_quiet (first | (go_at_call 162; (with_reducible refine (qaU.calls k _ _ l0 qav _ ?qaz ?qaA A3.1).mono ?_); (case qaz => exact qf0); (case qaA => exact qb9); rintro e w16 ⟨rfl, hb⟩; replace HB := HB.mw hb; (try clear hb)) | (go_at_call 165; (with_reducible refine (qd7.calls a1 false _ A6.1).mono ?_); rintro e w' ⟨rfl, ⟨nd, rfl⟩⟩; (try first | exact ⟨rfl, _, World.drewN_drewN _ _ _⟩ | exact ⟨rfl, _, Eq.trans (World.drewN_drewN _ _ _) (congrArg (World.drewN _) (Nat.add_assoc _ _ _))⟩))); try go_wp2_with (first | (go_at_call 162; (with_reducible refine (qaU.calls k _ _ l0 qav _ ?qaz ?qaA A3.1).mono ?_); (case qaz => exact qf0); (case qaA => exact qb9); rintro e w16 ⟨rfl, hb⟩; replace HB := HB.mw hb; (try clear hb)) | (go_at_call 165; (with_reducible refine (qd7.calls a1 false _ A6.1).mono ?_); rintro e w' ⟨rfl, ⟨nd, rfl⟩⟩; (try first | exact ⟨rfl, _, World.drewN_drewN _ _ _⟩ | exact ⟨rfl, _, Eq.trans (World.drewN_drewN _ _ _) (congrArg (World.drewN _) (Nat.add_assoc _ _ _))⟩))))
  go_ret2
  exact ⟨qca, qao⟩
 subst c7; rw [if_pos rfl] at H; obtain ⟨qcb, A8, H⟩ := qaB H; (try dsimp only at H); by_cases c9 : (qcb.length : Int) = 0
 ·rw [if_pos c9] at H; exact absurd H (by simp)
 rw [if_neg c9] at H; have qmQ : ((qcb.length : Int) == 0) = false := beq_eq_false_iff_ne.mpr c9; have c9b1 : ((qcb.length : Int) != 0) = true := bne_iff_ne.mpr c9
 have c9b2 : ¬ (qcb = []) := fun h_ => c9 (by rw [h_]; rfl)
 obtain ⟨qkg, qkf⟩ : ∃ j_ : Int, (Int.tmod a1 (qcb.length : Int)) = j_ := ⟨_, rfl⟩
 replace H : (if 0 ≤ (qkg) then (if (qkg) < (qcb.length : Int) then (some (wrap64 ((wrap64 ((wrap64 (Int.tdiv a1 (qcb.length : Int))) * qav)) + (rd qcb (qkg))), true)) else (none)) else (none)) = some (r1, r2) := by first | (rw [qkf] at H; exact H) | (simp only [qkf] at H ⊢; exact H)
 (try rw [qkf] at A3); (try rw [qkf] at A6); (try rw [qkf] at A8); obtain ⟨c11, H⟩ := qct H; have qgK := decide_eq_true c11; clear c11; obtain ⟨c12, H⟩ := qct H; have qhN := decide_eq_true c12; clear c12; obtain ⟨rfl, rfl⟩ := qdQ H; go_enter Tryz.func111, Tryz.ntmps111
 go_wp2_with (first | (go_at_call 162; (with_reducible refine (qaU.calls k _ _ l0 qav _ ?qaz ?qaA A3.1).mono ?_); (case qaz => exact qf0); (case qaA => exact qb9); rintro e w13 ⟨rfl, hb⟩; replace HB := HB.mw hb; (try clear hb)) | (go_at_call 165; (with_reducible refine (qd7.calls a1 true _ A6.1).mono ?_); rintro e w' ⟨rfl, ⟨nd, rfl⟩⟩; (try first | exact ⟨rfl, _, World.drewN_drewN _ _ _⟩ | exact ⟨rfl, _, Eq.trans (World.drewN_drewN _ _ _) (congrArg (World.drewN _) (Nat.add_assoc _ _ _))⟩)) | (go_at_call 163; (with_reducible refine (qbr.calls k _ _ l0 qav qcb _ ?qaz ?qaA A8.1).mono ?_); (case qaz => exact k26_); (case qaA => exact qb9); rintro e w14 ⟨qrJ, rfl, ho0, hb⟩; have qes := ak_ (Kd.qaw ho0 (qab qao)); replace HB := HB.mw hb; (try clear hb ho0); obtain ⟨Ao15, co15, eo15⟩ := Kd.qaI qes.1; subst eo15; have qfW : 0 ≤ ((qkg) : Int) := of_decide_eq_true qaL; have qfX : (qkg) < (qcb.length : Int) := of_decide_eq_true qaL; obtain ⟨qg4, qke, qcu⟩ := Kd.qew (Kd.qan qes.1).2.2 (qkg) qfW qfX; cases qke; replace qfW := eq_true qfW; replace qfX := eq_true qfX))
 repeat (go_quiet (first | (go_at_call 162; (with_reducible refine (qaU.calls k _ _ l0 qav _ ?qaz ?qaA A3.1).mono ?_); (case qaz => exact qf0); (case qaA => exact qb9); rintro e w13 ⟨rfl, hb⟩; replace HB := HB.mw hb; (try clear hb)) | (go_at_call 165; (with_reducible refine (qd7.calls a1 true _ A6.1).mono ?_); rintro e w' ⟨rfl, ⟨nd, rfl⟩⟩; (try first | exact ⟨rfl, _, World.drewN_drewN _ _ _⟩ | exact ⟨rfl, _, Eq.trans (World.drewN_drewN _ _ _) (congrArg (World.drewN _) (Nat.add_assoc _ _ _))⟩)) | (go_at_call 163; (with_reducible refine (qbr.calls k _ _ l0 qav qcb _ ?qaz ?qaA A8.1).mono ?_); (case qaz => exact k26_); (case qaA => exact qb9); rintro e w14 ⟨qrJ, rfl, ho0, hb⟩; have qes := ak_ (Kd.qaw ho0 (qab qao)); replace HB := HB.mw hb; (try clear hb ho0); obtain ⟨Ao15, co15, eo15⟩ := Kd.qaI qes.1; subst eo15; have qfW : 0 ≤ ((qkg) : Int) := of_decide_eq_true qaL; have qfX : (qkg) < (qcb.length : Int) := of_decide_eq_true qaL; obtain ⟨qg4, qke, qcu⟩ := Kd.qew (Kd.qan qes.1).2.2 (qkg) qfW qfX; cases qke; replace qfW := eq_true qfW; replace qfX := eq_true qfX)); try go_wp2_with (first | (go_at_call 162; (with_reducible refine (qaU.calls k _ _ l0 qav _ ?qaz ?qaA A3.1).mono ?_); (case qaz => exact qf0); (case qaA => exact qb9); rintro e w13 ⟨rfl, hb⟩; replace HB := HB.mw hb; (try clear hb)) | (go_at_call 165; (with_reducible refine (qd7.calls a1 true _ A6.1).mono ?_); rintro e w' ⟨rfl, ⟨nd, rfl⟩⟩; (try first | exact ⟨rfl, _, World.drewN_drewN _ _ _⟩ | exact ⟨rfl, _, Eq.trans (World.drewN_drewN _ _ _) (congrArg (World.drewN _) (Nat.add_assoc _ _ _))⟩)) | (go_at_call 163; (with_reducible refine (qbr.calls k _ _ l0 qav qcb _ ?qaz ?qaA A8.1).mono ?_); (case qaz => exact k26_); (case qaA => exact qb9); rintro e w14 ⟨qrJ, rfl, ho0, hb⟩; have qes := ak_ (Kd.qaw ho0 (qab qao)); replace HB := HB.mw hb; (try clear hb ho0); obtain ⟨Ao15, co15, eo15⟩ := Kd.qaI qes.1; subst eo15; have qfW : 0 ≤ ((qkg) : Int) := of_decide_eq_true qaL; have qfX : (qkg) < (qcb.length : Int) := of_decide_eq_true qaL; obtain ⟨qg4, qke, qcu⟩ := Kd.qew (Kd.qan qes.1).2.2 (qkg) qfW qfX; cases qke; replace qfW := eq_true qfW; replace qfX := eq_true qfX)))
 go_ret2
 exact ⟨by first | rfl | (simp [qea, qeb] <;> rfl) | (simp only [← qkf]; first | rfl | (simp [qea, qeb] <;> rfl)) | (simp [*, qea, qeb] <;> rfl), qao⟩
def qcn.l0 : Nat → ByteArray → List (List Int) → Int → Int → Option (ByteArray)
 | 0, _, _, _, _ => none
 | k + 1, x5, x10, x11, x12 => if x12 < x11 then (if 0 ≤ x12 then (if x12 < (x10.length : Int) then (if x12 > 0 then (if x5.size + 1 ≤ 9223372036854775807 then ((qb0.f k (qbe x10 x12)).bind fun qaQ => (if (x5 ++ (⟨#[47]⟩ : ByteArray)).size + qaQ.size ≤ 9223372036854775807 then (qcn.l0 k ((x5 ++ (⟨#[47]⟩ : ByteArray)) ++ qaQ) x10 x11 (wrap64 (x12 + 1))) else (none))) else (none)) else ((qb0.f k (qbe x10 x12)).bind fun qcb => (if x5.size + qcb.size ≤ 9223372036854775807 then (qcn.l0 k (x5 ++ qcb) x10 x11 (wrap64 (x12 + 1))) else (none)))) else (none)) else (none)) else (if x5.toList = ([] : List UInt8) then (some (⟨#[45]⟩ : ByteArray)) else (some x5))
def qcn.f (k : Nat) (l0 : List (List Int)) (a1 : Bool) : Option (ByteArray) := if a1 = true then (qcn.l0 k (⟨#[]⟩ : ByteArray) l0 (l0.length : Int) 0) else (some (⟨#[110, 111]⟩ : ByteArray))
theorem qcn.calls (k : Nat) (A0 : Option Addr) (c0 : Nat) (l0 : List (List Int)) (a1 : Bool) (r : ByteArray) (w : World) (hr0 : Kd.C (Kd.slice 3 (Kd.int .i64)) w A0 l0.length l0) (hc0 : l0.length ≤ c0) (h : qcn.f k l0 a1 = some r) :
  Calls Tryz.prog 112 #[.slice A0 l0.length c0, .bool a1] w fun e w' => e = .returned (.string r) ∧ Below w.heap.size w w' := by
 have HR0 := ak_ hr0; have HC0 := ak_ hc0; clear hr0 hc0; have HB := br_ w; have H : (if a1 = true then (qcn.l0 k (⟨#[]⟩ : ByteArray) l0 (l0.length : Int) 0) else (some (⟨#[110, 111]⟩ : ByteArray))) = some r := h; clear h; by_cases c3 : a1 = true; rotate_left
 ·replace c3 := Bool.eq_false_iff.mpr c3; subst c3; rw [if_neg ff_] at H; obtain rfl := sj_ H; go_enter Tryz.func112, Tryz.ntmps112; go_wp2
  go_ret
  exact ⟨qca, qao⟩
 subst c3; rw [if_pos rfl] at H; have H' := ak_ H; clear H; go_enter Tryz.func112, Tryz.ntmps112; go_wp2
 go_loopg [5, 12] k (fun kq v5 v12 w' => ∃ (qbC : ByteArray) (qds : Int), v5 = .string qbC ∧ v12 = .int .i64 qds ∧ qai (qcn.l0 kq qbC l0 (l0.length : Int) qds = some r) ∧ qai (kq ≤ k) ∧ qai (Below w.heap.size w w'))
 case atStart => exact ⟨((⟨#[]⟩ : ByteArray)), (0), qay, qay, H', ⟨Nat.le_refl _⟩, ⟨qao⟩⟩
 case round =>
  clear H'; (try clear c3); obtain ⟨qbC, qds, rfl, rfl, HA, HK1, HB⟩ := hrel
  cases gk with
  | zero => exact absurd HA.1 (by simp [qcn.l0])
  | succ k1 =>
   have H := HA.1; clear HA; simp only [qcn.l0] at H; by_cases c4 : qds < (l0.length : Int); rotate_left
   ·rw [if_neg c4] at H; have qfw := decide_eq_false c4; clear c4; by_cases c15 : qbC.toList = ([] : List UInt8)
    ·rw [if_pos c15] at H; have qnH : (qbC.toList == ([] : List UInt8)) = true := beq_iff_eq.mpr c15; have qpb : (qbC.toList != ([] : List UInt8)) = false := bne_eq_false_iff_eq.mpr c15; clear c15; obtain rfl := sj_ H; go_wp2
     go_ret
     exact ⟨qca, qao⟩
    rw [if_neg c15] at H; have qnH : (qbC.toList == ([] : List UInt8)) = false := beq_eq_false_iff_ne.mpr c15; have qpb : (qbC.toList != ([] : List UInt8)) = true := bne_iff_ne.mpr c15; obtain rfl := sj_ H; go_wp2
    go_ret
    exact ⟨qca, qao⟩
   rw [if_pos c4] at H; have qfw := decide_eq_true c4; clear c4; obtain ⟨c5, H⟩ := qct H; have qgL := decide_eq_true c5; clear c5; obtain ⟨c6, H⟩ := qct H; have qgc := decide_eq_true c6; clear c6; by_cases c7 : qds > 0; rotate_left
   ·rw [if_neg c7] at H; have qhx : decide (0 < qds) = false := decide_eq_false c7; clear c7; obtain ⟨qcb, A12, H⟩ := qaB H; (try dsimp only at H); obtain ⟨c13, H⟩ := qct H; have qmP := eq_true c13; have c13b1 := decide_eq_true c13
    try have c13b2 : (9223372036854775807 < qbC.size + qcb.size) = False := eq_false (Nat.not_lt.2 c13)
    have H' := ak_ H; clear H; have qeC : 0 ≤ (qds : Int) := of_decide_eq_true qaL; have qeJ : qds < (l0.length : Int) := of_decide_eq_true qaL; obtain ⟨qfL, qrT, qsj, qg7, qbk, qk5, qk2⟩ := qjk HR0.1 qds qeC qeJ
    cases qg7
    replace qbk := (HB.1.cell (World.block_lt_of_cell? w _ qbk)).trans qbk; have qoT := ak_ qk2; have qoQ := ak_ qk5; clear qk2 qk5; replace qeC := eq_true qeC; replace qeJ := eq_true qeJ
    go_wp2_with (first | (refine gl_ 23 Tryz.func158 #[.slice qrT (qbe l0 qds).length qsj] rfl qbJ ?_; (with_reducible refine (qb0.calls k1 _ _ (qbe l0 qds) qcb _ ?qaz ?qaA A12.1).mono ?_); (case qaz => repeat (first | exact (Kd.qd0 qoT.1 HB.1) | (with_reducible refine Kd.C_alloc ?_ _) | (with_reducible refine Kd.C_drewN ?_ _) | (with_reducible refine Kd.C_drew ?_))); (case qaA => exact qoQ.1); rintro e w14 ⟨rfl, hb⟩; refine ⟨_, rfl, ?_⟩; replace HB := HB.mw hb; (try clear hb)))
    go_roundg k1
    case measure => have := HK1.1; omega
    case rel => exact ⟨(qbC ++ qcb), (wrap64 (qds + 1)), qay, qay, H', ⟨qc9⟩, ⟨qao⟩⟩
   rw [if_pos c7] at H; have qhx : decide (0 < qds) = true := decide_eq_true c7; clear c7; obtain ⟨c8, H⟩ := qct H; have qpc := eq_true c8; have c8b1 := decide_eq_true c8
   try have c8b2 : (9223372036854775807 < qbC.size + 1) = False := eq_false (Nat.not_lt.2 c8)
   obtain ⟨qaQ, A9, H⟩ := qaB H; (try dsimp only at H); obtain ⟨c10, H⟩ := qct H; have qgY := eq_true c10; have c10b1 := decide_eq_true c10
   try have c10b2 : (9223372036854775807 < (qbC ++ (⟨#[47]⟩ : ByteArray)).size + qaQ.size) = False := eq_false (Nat.not_lt.2 c10)
   have c10b3 := c10b2; simp only [ByteArray.size_append, show (⟨#[44]⟩ : ByteArray).size = 1 from rfl, show (⟨#[47]⟩ : ByteArray).size = 1 from rfl, show (⟨#[58]⟩ : ByteArray).size = 1 from rfl] at c10b3; have H' := ak_ H; clear H; have qeC : 0 ≤ (qds : Int) := of_decide_eq_true qaL; have qeJ : qds < (l0.length : Int) := of_decide_eq_true qaL; obtain ⟨qfL, qrT, qsj, qg7, qbk, qk5, qk2⟩ := qjk HR0.1 qds qeC qeJ
   cases qg7
   replace qbk := (HB.1.cell (World.block_lt_of_cell? w _ qbk)).trans qbk; have qoT := ak_ qk2; have qoQ := ak_ qk5; clear qk2 qk5; replace qeC := eq_true qeC; replace qeJ := eq_true qeJ
   go_wp2_with (first | (refine gl_ 23 Tryz.func158 #[.slice qrT (qbe l0 qds).length qsj] rfl qbJ ?_; (with_reducible refine (qb0.calls k1 _ _ (qbe l0 qds) qaQ _ ?qaz ?qaA A9.1).mono ?_); (case qaz => repeat (first | exact (Kd.qd0 qoT.1 HB.1) | (with_reducible refine Kd.C_alloc ?_ _) | (with_reducible refine Kd.C_drewN ?_ _) | (with_reducible refine Kd.C_drew ?_))); (case qaA => exact qoQ.1); rintro e w11 ⟨rfl, hb⟩; refine ⟨_, rfl, ?_⟩; replace HB := HB.mw hb; (try clear hb)))
   go_roundg k1
   case measure => have := HK1.1; omega
   case rel => exact ⟨((qbC ++ (⟨#[47]⟩ : ByteArray)) ++ qaQ), (wrap64 (qds + 1)), qay, qay, H', ⟨qc9⟩, ⟨qao⟩⟩
def qdI.f (a0 : Int) : Option (Bool) := (qbi.f a0 1 1000000000).bind fun qav => (some qav)
theorem qdI.calls (a0 : Int) (r : Bool) (w : World) (h : qdI.f a0 = some r) :
  Calls Tryz.prog 166 #[.int .i64 a0] w fun e w' => e = .returned (.bool r) ∧ qcY w w' := by
 have H : ((qbi.f a0 1 1000000000).bind fun qav => (some qav)) = some r := h; clear h; obtain ⟨qav, A2, H⟩ := qaB H; (try dsimp only at H); obtain rfl := sj_ H; go_enter Tryz.func166, Tryz.ntmps166
 go_wp2_with (first | (refine gl_ 4 Tryz.func93 #[.int .i64 a0, .int .i64 1, .int .i64 1000000000] rfl qbJ ?_; (with_reducible refine (qbi.calls a0 1 1000000000 qav _ A2.1).mono ?_); rintro e w' ⟨rfl, ⟨nd, rfl⟩⟩; refine ⟨_, rfl, ?_⟩))
 go_ret
 exact ⟨qay, qc3⟩
mutual
def qa6.l0 : Nat → Int → List (List Int) → Option ((List (List Int)))
 | 0, _, _ => none
 | k + 1, x0, x3 => if x0 > 1 then ((qcs.f k x0).bind fun qav => (qa6.l1 k x0 x3 qav 0)) else (some x3)
def qa6.l1 : Nat → Int → List (List Int) → Int → Int → Option ((List (List Int)))
 | 0, _, _, _, _ => none
 | k + 1, x0, x3, x4, x5 => if x4 = 0 then (none) else (if (Int.tmod x0 x4) = 0 then (qa6.l1 k (wrap64 (Int.tdiv x0 x4)) x3 x4 (wrap64 (x5 + 1))) else (if x3.length < 5864062014805 then (qa6.l0 k x0 (x3 ++ [(([x4, x5] : List Int))])) else (none)))
end
def qa6.f (k : Nat) (a0 : Int) : Option ((List (List Int))) := qa6.l0 k a0 ([] : List (List Int))
theorem qa6.calls (k : Nat) (a0 : Int) (r : List (List Int)) (w : World) (h : qa6.f k a0 = some r) :
  Calls Tryz.prog 167 #[.int .i64 a0] w fun e w' => ∃ v0_ : Value, e = .returned (v0_) ∧ Kd.S (Kd.slice 3 (Kd.int .i64)) 48 w' w.heap.size (fun _ => True) v0_ r ∧ Below w.heap.size w w' := by
 have HB := br_ w; have H : (qa6.l0 k a0 ([] : List (List Int))) = some r := h; clear h; have H' := ak_ H; clear H; go_enter Tryz.func167, Tryz.ntmps167; go_wp2
 go_loopg [0, 3] k (fun kq v0 v3 w' => ∃ (qfJ : Int) (qbx : List (List Int)), v0 = .int .i64 qfJ ∧ qai (qa6.l0 kq qfJ qbx = some r) ∧ qai (kq ≤ k) ∧ qai (Kd.S (Kd.slice 3 (Kd.int .i64)) 48 w' w.heap.size (fun _ => True) v3 qbx) ∧ qai (Below w.heap.size w w'))
 case atStart => exact ⟨(a0), (([] : List (List Int))), qay, H', ⟨Nat.le_refl _⟩, ⟨k55_⟩, ⟨qao⟩⟩
 case round =>
  clear H'; obtain ⟨qfJ, qbx, rfl, HA, HK1, qdu, HB⟩ := hrel
  cases gk with
  | zero => exact absurd HA.1 (by simp [qa6.l0])
  | succ k1 =>
   have H := HA.1; clear HA; simp only [qa6.l0] at H; by_cases c2 : qfJ > 1; rotate_left
   ·rw [if_neg c2] at H; have qfB : decide (1 < qfJ) = false := decide_eq_false c2; clear c2; obtain rfl := sj_ H; go_wp2
    go_ret
    exact ⟨_, qca, by (with_reducible repeat (first | apply Kd.qdm | apply Kd.qdn | apply Kd.qeo)); exact qdu.1, qao⟩
   rw [if_pos c2] at H; have qfB : decide (1 < qfJ) = true := decide_eq_true c2; clear c2; obtain ⟨qav, A3, H⟩ := qaB H; (try dsimp only at H); have H' := ak_ H; clear H
   go_wp2_with (first | (refine gl_ 9 Tryz.func209 #[.int .i64 qfJ] rfl qbJ ?_; (with_reducible refine (qcs.calls k1 qfJ qav _ A3.1).mono ?_); rintro e w' ⟨rfl, ⟨nd, rfl⟩⟩; refine ⟨_, rfl, ?_⟩))
   go_loopg [0, 5] k1 (fun kq v0 v5 w' => ∃ (qkh : Int) (qf3 : Int), v0 = .int .i64 qkh ∧ v5 = .int .i64 qf3 ∧ qai (qa6.l1 kq qkh qbx qav qf3 = some r) ∧ qai (kq ≤ k1) ∧ qai (Kd.S (Kd.slice 3 (Kd.int .i64)) 48 w' w.heap.size (fun _ => True) u3 qbx) ∧ qai (Below w.heap.size w w'))
   case atStart => exact ⟨(qfJ), (0), qay, qay, H', ⟨Nat.le_refl _⟩, ⟨by apply_rules only [qdu.1, Kd.qdm, Kd.qdn, Kd.qeo]⟩, ⟨qao⟩⟩
   case round =>
    clear H'
    skip
    obtain ⟨qkh, qf3, rfl, rfl, HA, HK2, qdu, HB⟩ := hrel
    cases gk with
    | zero => exact absurd HA.1 (by simp [qa6.l1])
    | succ k2 =>
     have H := HA.1; clear HA; simp only [qa6.l1] at H; by_cases c4 : qav = 0
     ·rw [if_pos c4] at H; exact absurd H (by simp)
     rw [if_neg c4] at H; have qfw : (qav == 0) = false := beq_eq_false_iff_ne.mpr c4; have qlY : (qav != 0) = true := bne_iff_ne.mpr c4; by_cases c5 : (Int.tmod qkh qav) = 0
     ·rw [if_pos c5] at H; have qgL : ((Int.tmod qkh qav) == 0) = true := beq_iff_eq.mpr c5; have qrb : ((Int.tmod qkh qav) != 0) = false := bne_eq_false_iff_eq.mpr c5; clear c5; have H' := ak_ H; clear H; go_wp2
      go_roundg k2
      case measure => have := HK1.1; have := HK2.1; omega
      case rel => exact ⟨(wrap64 (Int.tdiv qkh qav)), (wrap64 (qf3 + 1)), qay, qay, H', ⟨qm3⟩, ⟨by apply_rules only [qdu.1, Kd.qdm, Kd.qdn, Kd.qeo]⟩, ⟨qao⟩⟩
     rw [if_neg c5] at H; have qgL : ((Int.tmod qkh qav) == 0) = false := beq_eq_false_iff_ne.mpr c5; have qrb : ((Int.tmod qkh qav) != 0) = true := bne_iff_ne.mpr c5
     obtain ⟨qim, hy_⟩ : ∃ y_ : List Int, y_ = (([qav, qf3] : List Int)) := ⟨_, rfl⟩
     replace H : (if qbx.length < 5864062014805 then (qa6.l0 k2 qkh (qbx ++ [qim])) else (none)) = some r := qfb; have qgI := ak_ hy_; clear hy_; obtain ⟨c6, H⟩ := qct H; have LMc6 := ak_ c6; clear c6
     obtain ⟨qic, hy_⟩ : ∃ y_ : List (List Int), y_ = (qbx ++ [qim]) := ⟨_, rfl⟩
     replace H : (qa6.l0 k2 qkh qic) = some r := qfb; have qhG := ak_ hy_; clear hy_; have H' := ak_ H; clear H
     go_wp2_with (first | ((with_reducible refine qam (N := 22) rfl ?_); refine Kd.qhH (Kd.int .i64) _ 3 ?hg (N := 22) ?hd (xs := ([qav, qf3] : List Int)) (inner := [.int .i64 qav, .int .i64 qf3]) (ok := fun _ => True) (okp := fun _ => True) ?hr ?hp (fun _ hk => hk) trivial (Below.refl _ _) (Nat.le_refl _) (by simp) ?_; (case hd => rfl); (case hg => rfl); (case hr => exact qa1); (case hp => exact (qep.one (show Kd.M (Kd.int .i64) _ _ _ qav [.int .i64 qav] from rfl) (qep.one (show Kd.M (Kd.int .i64) _ _ _ qf3 [.int .i64 qf3] from rfl) (qep.none _ _)))); intro qht w7 ho8 hb hg_ hnew_; clear hg_ hnew_; (first | rw [← qgI.1] at ho8 | (simp only [Int.reduceToNat] at ho8; rw [← qgI.1] at ho8)); replace qdu := ak_ (Kd.qqe (by apply_rules only [qdu.1, Kd.qdm, Kd.qdn, Kd.qeo]) (Kd.qfm ho8) hb); have qbZ := ak_ (Kd.qaw ho8 (qab qao)); replace HB := HB.mw hb; clear hb ho8; obtain ⟨Ao10, co10, eo10⟩ := Kd.qaI qbZ.1; subst eo10) | ((with_reducible refine qa5 (b := .append) (xs := #[.tmp 19, .tmp 23]) rfl ?_); at_builtin; refine Kd.qkk (Kd.slice 3 (Kd.int .i64)) (w0 := w) w.heap.size rfl (.tmp 19) (.tmp 23) 129 48 (.slice none 0 0) 24 rfl Tryz.underlying129 info48 rfl (by decide) (by omega) u3 qbx qim [.slice Ao10 qim.length co10] (fun _ => True) (fun k_ => some k_ = (.slice Ao10 qim.length co10 : Value).ownBlock) rfl rfl ?aP (fun k_ hk_ => ((Kd.qa2 (ok' := fun k_ => ((fun _ => True)) k_ ∧ some k_ ≠ (u3 : Value).ownBlock) (Kd.qkj (qbZ.1) (Kd.qkI qdu.1) (by decide)) (fun k_ hk => ⟨trivial, hk.2⟩))).1 k_ hk_.symm) ?aF ?aO ?aB ?aS ?aL ?_; (case aP => exact Kd.M_row (Kd.qa2 (Kd.qhJ rfl (Kd.qa2 (ok' := fun k_ => ((fun _ => True)) k_ ∧ some k_ ≠ (u3 : Value).ownBlock) (Kd.qkj (qbZ.1) (Kd.qkI qdu.1) (by decide)) (fun k_ hk => ⟨trivial, hk.2⟩))) (fun _ h_ => h_))); (case aB => exact qao); (case aF => exact (fun _ _ => trivial)); (case aO => exact (by (with_reducible repeat (first | apply Kd.qdm | apply Kd.qdn | apply Kd.qeo)); exact Kd.qgz qdu.1 (fun k_ hk => ⟨trivial, fun e_ => hk.2 e_⟩))); (case aS => exact (qab qao)); (case aL => have := LMc6.1; omega); intro qrK w9 ho hb hg hat; rw [← qhG.1] at ho; replace HB := ak_ (hb); have qfa := ak_ (ho); clear qdu qbZ; clear ho hb hg hat))
     go_roundg k2
     case measure => have := HK1.1; have := HK2.1; omega
     case rel => exact ⟨(qkh), (qic), qay, H', ⟨qm3⟩, ⟨by apply_rules only [qfa.1, Kd.qdm, Kd.qdn, Kd.qeo]⟩, ⟨qao⟩⟩
def qcN.f (k : Nat) (a0 : Int) : Option ((List (List Int)) × Bool) := (qdI.f a0).bind fun qav => (if qav = true then ((qa6.f k a0).bind fun qaQ => (some (qaQ, true))) else (some (([] : List (List Int)), false)))
theorem qcN.calls (k : Nat) (a0 : Int) (r1 : List (List Int)) (r2 : Bool) (w : World) (h : qcN.f k a0 = some (r1, r2)) :
  Calls Tryz.prog 113 #[.int .i64 a0] w fun e w' => ∃ v0_ : Value, e = .returned (.tuple #[v0_, .bool r2]) ∧ Kd.S (Kd.slice 3 (Kd.int .i64)) 48 w' w.heap.size (fun _ => True) v0_ r1 ∧ Below w.heap.size w w' := by
 have HB := br_ w; have H : ((qdI.f a0).bind fun qav => (if qav = true then ((qa6.f k a0).bind fun qaQ => (some (qaQ, true))) else (some (([] : List (List Int)), false)))) = some (r1, r2) := h; clear h; obtain ⟨qav, A2, H⟩ := qaB H; (try dsimp only at H); by_cases c3 : qav = true
 ·subst c3; rw [if_pos rfl] at H; obtain ⟨qaQ, A4, H⟩ := qaB H; (try dsimp only at H); obtain ⟨rfl, rfl⟩ := qdQ H; go_enter Tryz.func113, Tryz.ntmps113
  go_wp2_with (first | (refine gl_ 5 Tryz.func166 #[.int .i64 a0] rfl qbJ ?_; (with_reducible refine (qdI.calls a0 true _ A2.1).mono ?_); rintro e w' ⟨rfl, ⟨nd, rfl⟩⟩; refine ⟨_, rfl, ?_⟩) | (refine gl_ 8 Tryz.func167 #[.int .i64 a0] rfl qbJ ?_; (with_reducible refine (qa6.calls k a0 qaQ _ A4.1).mono ?_); rintro e w5 ⟨qht, rfl, ho0, hb⟩; refine ⟨_, rfl, ?_⟩; have qbZ := ak_ (Kd.qd3 ho0 (qab qao)); replace HB := HB.mw hb; (try clear hb ho0)))
  go_ret2
  exact ⟨_, qca, by (with_reducible repeat (first | apply Kd.qdm | apply Kd.qdn | apply Kd.qeo)); exact qbZ.1, qao⟩
 replace c3 := Bool.eq_false_iff.mpr c3; subst c3; rw [if_neg ff_] at H; obtain ⟨rfl, rfl⟩ := qdQ H; go_enter Tryz.func113, Tryz.ntmps113
 go_wp2_with (first | (refine gl_ 5 Tryz.func166 #[.int .i64 a0] rfl qbJ ?_; (with_reducible refine (qdI.calls a0 false _ A2.1).mono ?_); rintro e w' ⟨rfl, ⟨nd, rfl⟩⟩; refine ⟨_, rfl, ?_⟩))
 go_ret2
 exact ⟨_, qca, k55_, qao⟩
def qdY.f (a0 : Int) : Option (Bool) := (qbi.f a0 0 10000).bind fun qav => (some qav)
theorem qdY.calls (a0 : Int) (r : Bool) (w : World) (h : qdY.f a0 = some r) :
  Calls Tryz.prog 168 #[.int .i64 a0] w fun e w' => e = .returned (.bool r) ∧ qcY w w' := by
 have H : ((qbi.f a0 0 10000).bind fun qav => (some qav)) = some r := h; clear h; obtain ⟨qav, A2, H⟩ := qaB H; (try dsimp only at H); obtain rfl := sj_ H; go_enter Tryz.func168, Tryz.ntmps168
 go_wp2_with (first | (refine gl_ 4 Tryz.func93 #[.int .i64 a0, .int .i64 0, .int .i64 10000] rfl qbJ ?_; (with_reducible refine (qbi.calls a0 0 10000 qav _ A2.1).mono ?_); rintro e w' ⟨rfl, ⟨nd, rfl⟩⟩; refine ⟨_, rfl, ?_⟩))
 go_ret
 exact ⟨qay, qc3⟩
def qb3.l0 : Nat → Int → List Int → Int → Option (List Int)
 | 0, _, _, _ => none
 | k + 1, x1, x5, x6 => if x6 ≤ x1 then ((qfe.f k x6).bind fun qav => (if qav = true then (if x5.length < 17592186044416 then (qb3.l0 k x1 (x5 ++ [x6]) (wrap64 (x6 + 1))) else (none)) else (qb3.l0 k x1 x5 (wrap64 (x6 + 1))))) else (some x5)
def qb3.f (k : Nat) (a0 : Int) (a1 : Int) : Option (List Int) := qb3.l0 k a1 ([] : List Int) a0
theorem qb3.calls (k : Nat) (a0 : Int) (a1 : Int) (r : List Int) (w : World) (h : qb3.f k a0 a1 = some r) :
  Calls Tryz.prog 169 #[.int .i64 a0, .int .i64 a1] w fun e w' => ∃ v0_ : Value, e = .returned (v0_) ∧ Kd.R (Kd.int .i64) 3 w' w.heap.size (fun _ => True) v0_ r ∧ Below w.heap.size w w' := by
 have HB := br_ w; have H : (qb3.l0 k a1 ([] : List Int) a0) = some r := h; clear h; have H' := ak_ H; clear H; go_enter Tryz.func169, Tryz.ntmps169; go_wp2
 go_loopg [5, 6] k (fun kq v5 v6 w' => ∃ (qbC : List Int) (qdq : Int), v6 = .int .i64 qdq ∧ qai (qb3.l0 kq a1 qbC qdq = some r) ∧ qai (kq ≤ k) ∧ qai (Kd.R (Kd.int .i64) 3 w' w.heap.size (fun _ => True) v5 qbC) ∧ qai (Below w.heap.size w w'))
 case atStart => exact ⟨(([] : List Int)), (a0), qay, H', ⟨Nat.le_refl _⟩, ⟨qhg⟩, ⟨qao⟩⟩
 case round =>
  clear H'; obtain ⟨qbC, qdq, rfl, HA, HK1, qgT, HB⟩ := hrel
  cases gk with
  | zero => exact absurd HA.1 (by simp [qb3.l0])
  | succ k1 =>
   have H := HA.1; clear HA; simp only [qb3.l0] at H; by_cases c3 : qdq ≤ a1; rotate_left
   ·rw [if_neg c3] at H; have qfr := decide_eq_false c3; clear c3; obtain rfl := sj_ H; go_wp2
    go_ret
    exact ⟨_, qca, k65_, qao⟩
   rw [if_pos c3] at H; have qfr := decide_eq_true c3; clear c3; obtain ⟨qav, A4, H⟩ := qaB H; (try dsimp only at H); by_cases c5 : qav = true; rotate_left
   ·replace c5 := Bool.eq_false_iff.mpr c5; subst c5; rw [if_neg ff_] at H; have H' := ak_ H; clear H
    go_wp2_with (first | (refine gl_ 14 Tryz.func210 #[.int .i64 qdq] rfl qbJ ?_; (with_reducible refine (qfe.calls k1 qdq false _ A4.1).mono ?_); rintro e w' ⟨rfl, ⟨nd, rfl⟩⟩; refine ⟨_, rfl, ?_⟩))
    go_roundg k1
    case measure => have := HK1.1; omega
    case rel => exact ⟨(qbC), (wrap64 (qdq + 1)), qay, H', ⟨qc9⟩, ⟨qoM⟩, ⟨qao⟩⟩
   subst c5; rw [if_pos rfl] at H; obtain ⟨c6, H⟩ := qct H; have LMc6 := ak_ c6; clear c6
   obtain ⟨qim, hy_⟩ : ∃ y_ : List Int, y_ = (qbC ++ [qdq]) := ⟨_, rfl⟩
   replace H : (qb3.l0 k1 a1 qim (wrap64 (qdq + 1))) = some r := qfb; have qgI := ak_ hy_; clear hy_; have H' := ak_ H; clear H
   go_wp2_with (first | (refine gl_ 14 Tryz.func210 #[.int .i64 qdq] rfl qbJ ?_; (with_reducible refine (qfe.calls k1 qdq true _ A4.1).mono ?_); rintro e w' ⟨rfl, ⟨nd, rfl⟩⟩; refine ⟨_, rfl, ?_⟩) | ((with_reducible refine qa5 (b := .append) (xs := #[.tmp 15, .tmp 17]) rfl ?_); at_builtin; refine Kd.qc8 (Kd.int .i64) (w0 := w) w.heap.size rfl (.tmp 15) (.tmp 17) 48 3 (.int .i64 0) 8 rfl Tryz.underlying48 info3 rfl (by decide) (by omega) u5 qbC qdq [.int .i64 qdq] (fun _ => True) (fun _ => False) rfl rfl ?aP (fun _ hk => hk.elim) ?aF ?aO ?aB ?aS ?aL ?_; (case aP => exact rfl); (case aB => exact qao); (case aF => exact (fun _ _ => trivial)); (case aO => exact qoM); (case aS => exact (qab qao)); (case aL => have := LMc6.1; omega); intro qht w7 ho hb hg hat; rw [← qgI.1] at ho; replace HB := ak_ (hb); have qbZ := ak_ (ho); clear qgT; clear ho hb hg hat))
   go_roundg k1
   case measure => have := HK1.1; omega
   case rel => exact ⟨(qim), (wrap64 (qdq + 1)), qay, H', ⟨qc9⟩, ⟨k83_⟩, ⟨qao⟩⟩
def qc4.f (k : Nat) (a0 : Int) : Option (Int × Bool) := (qdY.f a0).bind fun qav => (if qav = true then ((qb3.f k 0 a0).bind fun qaQ => (some ((qaQ.length : Int), true))) else (some (0, false)))
theorem qc4.calls (k : Nat) (a0 : Int) (r1 : Int) (r2 : Bool) (w : World) (h : qc4.f k a0 = some (r1, r2)) :
  Calls Tryz.prog 114 #[.int .i64 a0] w fun e w' => e = .returned (.tuple #[.int .i64 r1, .bool r2]) ∧ Below w.heap.size w w' := by
 have HB := br_ w; have H : ((qdY.f a0).bind fun qav => (if qav = true then ((qb3.f k 0 a0).bind fun qaQ => (some ((qaQ.length : Int), true))) else (some (0, false)))) = some (r1, r2) := h; clear h; obtain ⟨qav, A2, H⟩ := qaB H; (try dsimp only at H); by_cases c3 : qav = true
 ·subst c3; rw [if_pos rfl] at H; obtain ⟨qaQ, A4, H⟩ := qaB H; (try dsimp only at H); obtain ⟨rfl, rfl⟩ := qdQ H; go_enter Tryz.func114, Tryz.ntmps114
  go_wp2_with (first | (refine gl_ 5 Tryz.func168 #[.int .i64 a0] rfl qbJ ?_; (with_reducible refine (qdY.calls a0 true _ A2.1).mono ?_); rintro e w' ⟨rfl, ⟨nd, rfl⟩⟩; refine ⟨_, rfl, ?_⟩) | (refine gl_ 8 Tryz.func169 #[.int .i64 0, .int .i64 a0] rfl qbJ ?_; (with_reducible refine (qb3.calls k 0 a0 qaQ _ A4.1).mono ?_); rintro e w5 ⟨qht, rfl, ho0, hb⟩; refine ⟨_, rfl, ?_⟩; have qbZ := ak_ (Kd.qaw ho0 (qab qao)); replace HB := HB.mw hb; (try clear hb ho0); obtain ⟨Ao6, co6, eo6⟩ := Kd.qaI qbZ.1; subst eo6))
  go_ret2
  exact ⟨qca, qao⟩
 replace c3 := Bool.eq_false_iff.mpr c3; subst c3; rw [if_neg ff_] at H; obtain ⟨rfl, rfl⟩ := qdQ H; go_enter Tryz.func114, Tryz.ntmps114
 go_wp2_with (first | (refine gl_ 5 Tryz.func168 #[.int .i64 a0] rfl qbJ ?_; (with_reducible refine (qdY.calls a0 false _ A2.1).mono ?_); rintro e w' ⟨rfl, ⟨nd, rfl⟩⟩; refine ⟨_, rfl, ?_⟩))
 go_ret2
 exact ⟨qca, qao⟩
def qdg.f (a0 : Int) : Option (Bool) := (qbi.f a0 1 1000000).bind fun qav => (some qav)
theorem qdg.calls (a0 : Int) (r : Bool) (w : World) (h : qdg.f a0 = some r) :
  Calls Tryz.prog 170 #[.int .i64 a0] w fun e w' => e = .returned (.bool r) ∧ qcY w w' := by
 have H : ((qbi.f a0 1 1000000).bind fun qav => (some qav)) = some r := h; clear h; obtain ⟨qav, A2, H⟩ := qaB H; (try dsimp only at H); obtain rfl := sj_ H; go_enter Tryz.func170, Tryz.ntmps170
 go_wp2_with (first | (refine gl_ 4 Tryz.func93 #[.int .i64 a0, .int .i64 1, .int .i64 1000000] rfl qbJ ?_; (with_reducible refine (qbi.calls a0 1 1000000 qav _ A2.1).mono ?_); rintro e w' ⟨rfl, ⟨nd, rfl⟩⟩; refine ⟨_, rfl, ?_⟩))
 go_ret
 exact ⟨qay, qc3⟩
def qb7.l0 : Nat → Int → List Int → List Int → Int → Option (List Int)
 | 0, _, _, _, _ => none
 | k + 1, x0, x3, x4, x5 => if (wrap64 (x5 * x5)) ≤ x0 then (if x5 = 0 then (none) else (if (Int.tmod x0 x5) = 0 then (if x3.length < 17592186044416 then ((some (x3 ++ [x5] : List Int)).bind fun qgU => (if (wrap64 (x5 * x5)) < x0 then ((some (([wrap64 (Int.tdiv x0 x5)] : List Int) : List Int)).bind fun qfZ => (if qfZ.length + x4.length < 17592186044416 then (qb7.l0 k x0 qgU (qfZ ++ x4) (wrap64 (x5 + 1))) else (none))) else (qb7.l0 k x0 qgU x4 (wrap64 (x5 + 1))))) else (none)) else (qb7.l0 k x0 x3 x4 (wrap64 (x5 + 1))))) else (if x3.length + x4.length < 17592186044416 then (some (x3 ++ x4)) else (none))
def qb7.f (k : Nat) (a0 : Int) : Option (List Int) := qb7.l0 k a0 ([] : List Int) ([] : List Int) 1
theorem qb7.calls (k : Nat) (a0 : Int) (r : List Int) (w : World) (h : qb7.f k a0 = some r) :
  Calls Tryz.prog 171 #[.int .i64 a0] w fun e w' => ∃ v0_ : Value, e = .returned (v0_) ∧ Kd.R (Kd.int .i64) 3 w' w.heap.size (fun _ => True) v0_ r ∧ Below w.heap.size w w' := by
 have HB := br_ w; have H : (qb7.l0 k a0 ([] : List Int) ([] : List Int) 1) = some r := h; clear h; have H' := ak_ H; clear H; go_enter Tryz.func171, Tryz.ntmps171; go_wp2
 go_loopg [3, 4, 5] k (fun kq v3 v4 v5 w' => ∃ (qbx : List Int) (qcP : List Int) (qbC : Int), v5 = .int .i64 qbC ∧ qai (qb7.l0 kq a0 qbx qcP qbC = some r) ∧ qai (kq ≤ k) ∧ qai (Kd.R (Kd.int .i64) 3 w' w.heap.size (fun k_ => some k_ ≠ (v4 : Value).ownBlock) v3 qbx) ∧ qai (Kd.R (Kd.int .i64) 3 w' w.heap.size (fun k_ => some k_ ≠ (v3 : Value).ownBlock) v4 qcP) ∧ qai (Below w.heap.size w w'))
 case atStart => exact ⟨(([] : List Int)), (([] : List Int)), (1), qay, H', ⟨Nat.le_refl _⟩, ⟨qhg⟩, ⟨qhg⟩, ⟨qao⟩⟩
 case round =>
  clear H'; obtain ⟨qbx, qcP, qbC, rfl, HA, HK1, qdu, qdp, HB⟩ := hrel
  cases gk with
  | zero => exact absurd HA.1 (by simp [qb7.l0])
  | succ k1 =>
   have H := HA.1; clear HA; simp only [qb7.l0] at H; by_cases c2 : (wrap64 (qbC * qbC)) ≤ a0; rotate_left
   ·rw [if_neg c2] at H; have qfB := decide_eq_false c2; clear c2; obtain ⟨c14, H⟩ := qct H; have qoV := ak_ c14; clear c14
    obtain ⟨qeW, hy_⟩ : ∃ y_ : List Int, y_ = (qbx ++ qcP) := ⟨_, rfl⟩
    replace H : (some qeW) = some r := qfb; have qet := ak_ hy_; clear hy_; obtain rfl := sj_ H; obtain ⟨Ao16, co16, eo16⟩ := Kd.qaI qdp.1; subst eo16
    go_wp2_with (first | ((with_reducible refine qa5 (b := .append) (xs := #[.tmp 32, .tmp 33]) rfl ?_); at_builtin; refine Kd.qdS (Kd.int .i64) (w0 := w) w.heap.size rfl (.tmp 32) (.tmp 33) 48 3 (.int .i64 0) 8 rfl Tryz.underlying48 info3 rfl (by decide) (by omega) u3 qbx qcP _ _ _ (fun k_ => some k_ ≠ (.slice Ao16 qcP.length co16 : Value).ownBlock) (fun _ => False) rfl rfl ?aO ?aR (fun _ _ h => h) (fun _ h => h.elim) ?aF ?aB ?aS ?aL ?_; (case aR => repeat (first | exact (Kd.qan qdp.1).2.2 | (with_reducible refine Kd.C_alloc ?_ _) | (with_reducible refine Kd.C_drewN ?_ _) | (with_reducible refine Kd.C_drew ?_))); (case aB => exact qao); (case aF => exact (fun k_ hk => Kd.qiY (Kd.qkb qkq) k_ hk)); (case aO => exact qib); (case aS => exact (qab qao)); (case aL => have := qoV.1; omega); intro qjd w15 ho hb hg hat; rw [← qet.1] at ho; replace qdp := ak_ (Kd.qgh (ok := (fun _ => True)) (by (with_reducible repeat (first | apply Kd.qaq | apply Kd.qar | apply Kd.qax)); exact Kd.qa2 qdp.1 (fun _ hk => ⟨trivial, hk⟩)) hg hat); replace HB := ak_ (hb); have qcI := ak_ (ho); clear qdu; clear ho hb hg hat))
    go_ret
    exact ⟨_, qca, by (with_reducible repeat (first | apply Kd.qaq | apply Kd.qar | apply Kd.qax)); exact Kd.qa2 qcI.1 (fun _ hk => trivial), qao⟩
   rw [if_pos c2] at H; have qfB := decide_eq_true c2; clear c2; by_cases c3 : qbC = 0
   ·rw [if_pos c3] at H; exact absurd H (by simp)
   rw [if_neg c3] at H; have qfr : (qbC == 0) = false := beq_eq_false_iff_ne.mpr c3; have qlH : (qbC != 0) = true := bne_iff_ne.mpr c3; by_cases c4 : (Int.tmod a0 qbC) = 0; rotate_left
   ·rw [if_neg c4] at H; have qfw : ((Int.tmod a0 qbC) == 0) = false := beq_eq_false_iff_ne.mpr c4; have qlY : ((Int.tmod a0 qbC) != 0) = true := bne_iff_ne.mpr c4; have H' := ak_ H; clear H; go_wp2
    go_roundg k1
    case measure => have := HK1.1; omega
    case rel => exact ⟨(qbx), (qcP), (wrap64 (qbC + 1)), qay, H', ⟨qc9⟩, ⟨qib⟩, ⟨qkq⟩, ⟨qao⟩⟩
   rw [if_pos c4] at H; have qfw : ((Int.tmod a0 qbC) == 0) = true := beq_iff_eq.mpr c4; have qlY : ((Int.tmod a0 qbC) != 0) = false := bne_eq_false_iff_eq.mpr c4; clear c4; obtain ⟨c5, H⟩ := qct H; have LMc5 := ak_ c5; clear c5
   obtain ⟨qgU, hy_⟩ : ∃ y_ : List Int, y_ = (qbx ++ [qbC]) := ⟨_, rfl⟩
   replace H : (if (wrap64 (qbC * qbC)) < a0 then ((some (([wrap64 (Int.tdiv a0 qbC)] : List Int) : List Int)).bind fun qfZ => (if qfZ.length + qcP.length < 17592186044416 then (qb7.l0 k1 a0 qgU (qfZ ++ qcP) (wrap64 (qbC + 1))) else (none))) else (qb7.l0 k1 a0 qgU qcP (wrap64 (qbC + 1)))) = some r := qfb; have qiQ := ak_ hy_; clear hy_; by_cases c6 : (wrap64 (qbC * qbC)) < a0; rotate_left
   ·rw [if_neg c6] at H; have qgc := decide_eq_false c6; clear c6; have H' := ak_ H; clear H
    go_wp2_with (first | ((with_reducible refine qa5 (b := .append) (xs := #[.tmp 17, .tmp 19]) rfl ?_); at_builtin; refine Kd.qc8 (Kd.int .i64) (w0 := w) w.heap.size rfl (.tmp 17) (.tmp 19) 48 3 (.int .i64 0) 8 rfl Tryz.underlying48 info3 rfl (by decide) (by omega) u3 qbx qbC [.int .i64 qbC] (fun k_ => some k_ ≠ (u4 : Value).ownBlock) (fun _ => False) rfl rfl ?aP (fun _ hk => hk.elim) ?aF ?aO ?aB ?aS ?aL ?_; (case aP => exact rfl); (case aB => exact qao); (case aF => exact (fun k_ hk => Kd.qiY (Kd.qkb qkq) k_ hk)); (case aO => exact qib); (case aS => exact (qab qao)); (case aL => have := LMc5.1; omega); intro v105 w13 ho hb hg hat; rw [← qiQ.1] at ho; replace qdp := ak_ (Kd.qgh (ok := (fun _ => True)) (by (with_reducible repeat (first | apply Kd.qaq | apply Kd.qar | apply Kd.qax)); exact Kd.qa2 qdp.1 (fun _ hk => ⟨trivial, hk⟩)) hg hat); replace HB := ak_ (hb); have qff := ak_ (ho); clear qdu; clear ho hb hg hat))
    go_roundg k1
    case measure => have := HK1.1; omega
    case rel => exact ⟨(qgU), (qcP), (wrap64 (qbC + 1)), qay, H', ⟨qc9⟩, ⟨k84_⟩, ⟨by (with_reducible repeat (first | apply Kd.qaq | apply Kd.qar | apply Kd.qax)); exact Kd.qa2 qdp.1 (fun _ hk => hk.2)⟩, ⟨qao⟩⟩
   rw [if_pos c6] at H; have qgc := decide_eq_true c6; clear c6
   obtain ⟨qfZ, hy_⟩ : ∃ y_ : List Int, y_ = (([wrap64 (Int.tdiv a0 qbC)] : List Int)) := ⟨_, rfl⟩
   replace H : (if qfZ.length + qcP.length < 17592186044416 then (qb7.l0 k1 a0 qgU (qfZ ++ qcP) (wrap64 (qbC + 1))) else (none)) = some r := qfb; have qj9 := ak_ hy_; clear hy_; obtain ⟨c7, H⟩ := qct H; have LMc7 := ak_ c7; clear c7
   obtain ⟨qj6, hy_⟩ : ∃ y_ : List Int, y_ = (qfZ ++ qcP) := ⟨_, rfl⟩
   replace H : (qb7.l0 k1 a0 qgU qj6 (wrap64 (qbC + 1))) = some r := qfb; have qoY := ak_ hy_; clear hy_; have H' := ak_ H; clear H
   go_wp2_with (first | ((with_reducible refine qa5 (b := .append) (xs := #[.tmp 17, .tmp 19]) rfl ?_); at_builtin; refine Kd.qc8 (Kd.int .i64) (w0 := w) w.heap.size rfl (.tmp 17) (.tmp 19) 48 3 (.int .i64 0) 8 rfl Tryz.underlying48 info3 rfl (by decide) (by omega) u3 qbx qbC [.int .i64 qbC] (fun k_ => some k_ ≠ (u4 : Value).ownBlock) (fun _ => False) rfl rfl ?aP (fun _ hk => hk.elim) ?aF ?aO ?aB ?aS ?aL ?_; (case aP => exact rfl); (case aB => exact qao); (case aF => exact (fun k_ hk => Kd.qiY (Kd.qkb qkq) k_ hk)); (case aO => exact qib); (case aS => exact (qab qao)); (case aL => have := LMc5.1; omega); intro v105 w8 ho hb hg hat; rw [← qiQ.1] at ho; replace qdp := ak_ (Kd.qgh (ok := (fun _ => True)) (by (with_reducible repeat (first | apply Kd.qaq | apply Kd.qar | apply Kd.qax)); exact Kd.qa2 qdp.1 (fun _ hk => ⟨trivial, hk⟩)) hg hat); replace HB := ak_ (hb); have qff := ak_ (ho); clear qdu; clear ho hb hg hat) | ((with_reducible refine qam (N := 29) rfl ?_); refine Kd.qhH (Kd.int .i64) _ 3 ?hg (N := 29) ?hd (xs := ([wrap64 (Int.tdiv a0 qbC)] : List Int)) (inner := [.int .i64 (wrap64 (Int.tdiv a0 qbC))]) (ok := fun _ => True) (okp := fun _ => True) ?hr ?hp (fun _ hk => hk) trivial (Below.refl _ _) (Nat.le_refl _) (by simp) ?_; (case hd => rfl); (case hg => rfl); (case hr => exact qa1); (case hp => exact (qep.one (show Kd.M (Kd.int .i64) _ _ _ (wrap64 (Int.tdiv a0 qbC)) [.int .i64 (wrap64 (Int.tdiv a0 qbC))] from rfl) (qep.none _ _))); intro v108 w9 qmb hb hg_ hnew_; clear hg_ hnew_; (first | rw [← qj9.1] at qmb | (simp only [Int.reduceToNat] at qmb; rw [← qj9.1] at qmb)); have qeg := ak_ (Kd.qaw (Kd.qhI (Kd.qhI qmb (Kd.qkb qkq)) (Kd.qkb k84_)) (qab qao)); replace qdp := ak_ (Kd.qfv qkq (Kd.qfm qmb) hb); replace qff := ak_ (Kd.qfv k84_ (Kd.qfm qmb) hb); replace HB := HB.mw hb; clear hb qmb; obtain ⟨qjI, qjK, qoJ⟩ := Kd.qaI qdp.1; subst qoJ) | ((with_reducible refine qa5 (b := .append) (xs := #[.tmp 29, .tmp 30]) rfl ?_); at_builtin; refine Kd.qdS (Kd.int .i64) (w0 := w) w.heap.size rfl (.tmp 29) (.tmp 30) 48 3 (.int .i64 0) 8 rfl Tryz.underlying48 info3 rfl (by decide) (by omega) v108 qfZ qcP _ _ _ (fun k_ => some k_ ≠ (.slice qjI qcP.length qjK : Value).ownBlock ∧ some k_ ≠ (v105 : Value).ownBlock) (fun _ => False) rfl rfl ?aO ?aR (fun _ _ h => h) (fun _ h => h.elim) ?aF ?aB ?aS ?aL ?_; (case aR => repeat (first | exact (Kd.qan qdp.1).2.2 | (with_reducible refine Kd.C_alloc ?_ _) | (with_reducible refine Kd.C_drewN ?_ _) | (with_reducible refine Kd.C_drew ?_))); (case aB => exact qao); (case aF => exact (fun k_ hk => ⟨Kd.qiY (Kd.qkb qkq) k_ hk, Kd.qiY (Kd.qkb k84_) k_ hk⟩)); (case aO => exact (by (with_reducible repeat (first | apply Kd.qaq | apply Kd.qar | apply Kd.qax)); exact Kd.qa2 qeg.1 (fun _ hk => ⟨hk.1.2, hk.2⟩))); (case aS => exact (qab qao)); (case aL => have := LMc7.1; omega); intro v111 w11 ho hb hg hat; rw [← qoY.1] at ho; replace qdp := ak_ (Kd.qgh (ok := (fun k_ => some k_ ≠ (v105 : Value).ownBlock)) (by (with_reducible repeat (first | apply Kd.qaq | apply Kd.qar | apply Kd.qax)); exact Kd.qa2 qdp.1 (fun _ hk => ⟨hk.1.2, hk.2⟩)) hg hat); replace qff := ak_ (Kd.qgh (ok := (fun k_ => some k_ ≠ (.slice qjI qcP.length qjK : Value).ownBlock)) k84_ hg hat); replace HB := ak_ (hb); have qrX := ak_ (ho); clear qeg; clear ho hb hg hat))
   go_roundg k1
   case measure => have := HK1.1; omega
   case rel => exact ⟨(qgU), (qj6), (wrap64 (qbC + 1)), qay, H', ⟨qc9⟩, ⟨by (with_reducible repeat (first | apply Kd.qaq | apply Kd.qar | apply Kd.qax)); exact Kd.qa2 qff.1 (fun _ hk => hk.2)⟩, ⟨by (with_reducible repeat (first | apply Kd.qaq | apply Kd.qar | apply Kd.qax)); exact Kd.qa2 qrX.1 (fun _ hk => hk.2)⟩, ⟨qao⟩⟩
def qdf.f (k : Nat) (a0 : Int) : Option (List Int × Bool) := (qdg.f a0).bind fun qav => (if qav = true then ((qb7.f k a0).bind fun qaQ => (some (qaQ, true))) else (some (([] : List Int), false)))
theorem qdf.calls (k : Nat) (a0 : Int) (r1 : List Int) (r2 : Bool) (w : World) (h : qdf.f k a0 = some (r1, r2)) :
  Calls Tryz.prog 115 #[.int .i64 a0] w fun e w' => ∃ v0_ : Value, e = .returned (.tuple #[v0_, .bool r2]) ∧ Kd.R (Kd.int .i64) 3 w' w.heap.size (fun _ => True) v0_ r1 ∧ Below w.heap.size w w' := by
 have HB := br_ w; have H : ((qdg.f a0).bind fun qav => (if qav = true then ((qb7.f k a0).bind fun qaQ => (some (qaQ, true))) else (some (([] : List Int), false)))) = some (r1, r2) := h; clear h; obtain ⟨qav, A2, H⟩ := qaB H; (try dsimp only at H); by_cases c3 : qav = true
 ·subst c3; rw [if_pos rfl] at H; obtain ⟨qaQ, A4, H⟩ := qaB H; (try dsimp only at H); obtain ⟨rfl, rfl⟩ := qdQ H; go_enter Tryz.func115, Tryz.ntmps115
  go_wp2_with (first | (refine gl_ 5 Tryz.func170 #[.int .i64 a0] rfl qbJ ?_; (with_reducible refine (qdg.calls a0 true _ A2.1).mono ?_); rintro e w' ⟨rfl, ⟨nd, rfl⟩⟩; refine ⟨_, rfl, ?_⟩) | (refine gl_ 8 Tryz.func171 #[.int .i64 a0] rfl qbJ ?_; (with_reducible refine (qb7.calls k a0 qaQ _ A4.1).mono ?_); rintro e w5 ⟨qht, rfl, ho0, hb⟩; refine ⟨_, rfl, ?_⟩; have qbZ := ak_ (Kd.qaw ho0 (qab qao)); replace HB := HB.mw hb; (try clear hb ho0)))
  go_ret2
  exact ⟨_, qca, k63_, qao⟩
 replace c3 := Bool.eq_false_iff.mpr c3; subst c3; rw [if_neg ff_] at H; obtain ⟨rfl, rfl⟩ := qdQ H; go_enter Tryz.func115, Tryz.ntmps115
 go_wp2_with (first | (refine gl_ 5 Tryz.func170 #[.int .i64 a0] rfl qbJ ?_; (with_reducible refine (qdg.calls a0 false _ A2.1).mono ?_); rintro e w' ⟨rfl, ⟨nd, rfl⟩⟩; refine ⟨_, rfl, ?_⟩))
 go_ret2
 exact ⟨_, qca, qhg, qao⟩
def qci.l0 : Nat → Int → List (List Int) → Int → Int → Option (Int)
 | 0, _, _, _, _ => none
 | k + 1, x0, x6, x7, x8 => if x8 < x7 then (if 0 ≤ x8 then (if x8 < (x6.length : Int) then (if 0 < ((qbe x6 x8).length : Int) then (if (rd (qbe x6 x8) 0) = 0 then (none) else (qci.l0 k (wrap64 ((wrap64 (Int.tdiv x0 (rd (qbe x6 x8) 0))) * (wrap64 ((rd (qbe x6 x8) 0) - 1)))) x6 x7 (wrap64 (x8 + 1)))) else (none)) else (none)) else (none)) else (some x0)
def qci.f (k : Nat) (a0 : Int) : Option (Int) := (qa6.f k a0).bind fun qav => (qci.l0 k a0 qav (qav.length : Int) 0)
theorem qci.calls (k : Nat) (a0 : Int) (r : Int) (w : World) (h : qci.f k a0 = some r) :
  Calls Tryz.prog 172 #[.int .i64 a0] w fun e w' => e = .returned (.int .i64 r) ∧ Below w.heap.size w w' := by
 have HB := br_ w; have H : ((qa6.f k a0).bind fun qav => (qci.l0 k a0 qav (qav.length : Int) 0)) = some r := h; clear h; obtain ⟨qav, A2, H⟩ := qaB H; (try dsimp only at H); have H' := ak_ H; clear H; go_enter Tryz.func172, Tryz.ntmps172
 go_wp2_with (first | (go_at_call 167; (with_reducible refine (qa6.calls k a0 qav _ A2.1).mono ?_); rintro e w3 ⟨qjd, rfl, ho0, hb⟩; have qcI := ak_ (Kd.qd3 ho0 (qab qao)); replace HB := HB.mw hb; (try clear hb ho0); obtain ⟨Ao4, co4, eo4⟩ := Kd.qdT qcI.1; subst eo4))
 repeat (go_quiet (first | (go_at_call 167; (with_reducible refine (qa6.calls k a0 qav _ A2.1).mono ?_); rintro e w3 ⟨qjd, rfl, ho0, hb⟩; have qcI := ak_ (Kd.qd3 ho0 (qab qao)); replace HB := HB.mw hb; (try clear hb ho0); obtain ⟨Ao4, co4, eo4⟩ := Kd.qdT qcI.1; subst eo4)); try go_wp2_with (first | (go_at_call 167; (with_reducible refine (qa6.calls k a0 qav _ A2.1).mono ?_); rintro e w3 ⟨qjd, rfl, ho0, hb⟩; have qcI := ak_ (Kd.qd3 ho0 (qab qao)); replace HB := HB.mw hb; (try clear hb ho0); obtain ⟨Ao4, co4, eo4⟩ := Kd.qdT qcI.1; subst eo4)))
 go_loopg [0, 8] k (fun kq v0 v8 w' => ∃ (qfJ : Int) (qdl : Int), v0 = .int .i64 qfJ ∧ v8 = .int .i64 qdl ∧ qai (qci.l0 kq qfJ qav (qav.length : Int) qdl = some r) ∧ qai (kq ≤ k) ∧ qai (Kd.S (Kd.slice 3 (Kd.int .i64)) 48 w' w.heap.size (fun _ => True) (.slice Ao4 qav.length co4) qav) ∧ qai (Below w.heap.size w w'))
 case atStart => exact ⟨(a0), (0), qay, qay, H', ⟨Nat.le_refl _⟩, ⟨by apply_rules only [qcI.1, Kd.qdm, Kd.qdn, Kd.qeo]⟩, ⟨qao⟩⟩
 case round =>
  clear H'; obtain ⟨qfJ, qdl, rfl, rfl, HA, HK1, qfH, HB⟩ := hrel
  cases gk with
  | zero => exact absurd HA.1 (by simp [qci.l0])
  | succ k1 =>
   have H := HA.1; clear HA; simp only [qci.l0] at H; by_cases c5 : qdl < (qav.length : Int); rotate_left
   ·rw [if_neg c5] at H; have qgL := decide_eq_false c5; clear c5; obtain rfl := sj_ H; go_wp2
    repeat (go_quiet (fail); try go_wp2)
    go_ret
    exact ⟨qca, qao⟩
   rw [if_pos c5] at H; have qgL := decide_eq_true c5; clear c5; obtain ⟨c6, H⟩ := qct H; have qgc := decide_eq_true c6; clear c6; obtain ⟨c7, H⟩ := qct H; have qhx := decide_eq_true c7; clear c7; obtain ⟨c8, H⟩ := qct H; have qpc := decide_eq_true c8; have c8b1 : decide (0 < (qbe qav qdl).length) = true := decide_eq_true (by omega); clear c8; by_cases c9 : (rd (qbe qav qdl) 0) = 0
   ·rw [if_pos c9] at H; exact absurd H (by simp)
   rw [if_neg c9] at H; have qmQ : ((rd (qbe qav qdl) 0) == 0) = false := beq_eq_false_iff_ne.mpr c9; have c9b1 : ((rd (qbe qav qdl) 0) != 0) = true := bne_iff_ne.mpr c9; have H' := ak_ H; clear H; have qhz : 0 ≤ (qdl : Int) := of_decide_eq_true qaL; have qhA : qdl < (qav.length : Int) := of_decide_eq_true qaL; obtain ⟨qia, qrU, qsk, qnT, qd5, qhS, qhR⟩ := qjk (Kd.qeQ qfH.1).2.2 qdl qhz qhA
   cases qnT
   obtain ⟨ce104, qsL, qsJ, qn2⟩ := Kd.qr8 qfH.1 [] qdl qhz (by first | exact qhA | exact of_decide_eq_true qaL | (have e_ := (Kd.qeQ qfH.1).1; omega)); obtain ⟨ve104_0, rfl, qit⟩ := qsJ; have qgn := qn2 0 _ rfl; rw [Nat.add_zero, show ((Kd.slice 3 (Kd.int .i64))).sz = 1 from rfl, Nat.mul_one] at qgn; replace qgn := Option.some.inj (qgn.symm.trans qd5); rw [qgn] at qit; have HL104_0 := ak_ (show Kd.R (Kd.int .i64) 3 _ _ _ _ (qbe qav qdl) from qit); clear qgn qit; clear qn2 qsL; have qky := ak_ qhR; have qoR := ak_ qhS; clear qhR qhS; replace qhz := eq_true qhz; replace qhA := eq_true qhA
   have qhT : 0 ≤ (0 : Int) := (by omega)
   have qhU : 0 < ((qbe qav qdl).length : Int) := of_decide_eq_true qaL; obtain ⟨qeq, qnU, qcT⟩ := Kd.qew k32_ 0 qhT qhU
   cases qnU
   have qtO : (0 < (qbe qav qdl).length) = True := eq_true (by omega); (try rw [show ((0 : Int)).toNat = 0 from rfl] at qcT); (try rw [Addr.add_zero'] at qcT); replace qhT := eq_true qhT; replace qhU := eq_true qhU
   have qfW : 0 ≤ (0 : Int) := (by omega)
   have qfX : 0 < ((qbe qav qdl).length : Int) := of_decide_eq_true qaL; obtain ⟨qg4, qke, qcu⟩ := Kd.qew k32_ 0 qfW qfX
   obtain rfl : qeq = qg4 := (by injection qke)
   have qtP : (0 < (qbe qav qdl).length) = True := eq_true (by omega); (try rw [show ((0 : Int)).toNat = 0 from rfl] at qcu); (try rw [Addr.add_zero'] at qcu); replace qfW := eq_true qfW; replace qfX := eq_true qfX; go_wp2
   repeat (go_quiet (fail); try go_wp2)
   go_roundg k1
   case measure => have := HK1.1; omega
   case rel => exact ⟨(wrap64 ((wrap64 (Int.tdiv qfJ (rd (qbe qav qdl) 0))) * (wrap64 ((rd (qbe qav qdl) 0) - 1)))), (wrap64 (qdl + 1)), qay, qay, H', ⟨qc9⟩, ⟨by apply_rules only [qfH.1, Kd.qdm, Kd.qdn, Kd.qeo]⟩, ⟨qao⟩⟩
def qdD.f (k : Nat) (a0 : Int) : Option (Int × Bool) := (qdg.f a0).bind fun qav => (if qav = true then ((qci.f k a0).bind fun qaQ => (some (qaQ, true))) else (some (0, false)))
theorem qdD.calls (k : Nat) (a0 : Int) (r1 : Int) (r2 : Bool) (w : World) (h : qdD.f k a0 = some (r1, r2)) :
  Calls Tryz.prog 116 #[.int .i64 a0] w fun e w' => e = .returned (.tuple #[.int .i64 r1, .bool r2]) ∧ Below w.heap.size w w' := by
 have HB := br_ w; have H : ((qdg.f a0).bind fun qav => (if qav = true then ((qci.f k a0).bind fun qaQ => (some (qaQ, true))) else (some (0, false)))) = some (r1, r2) := h; clear h; obtain ⟨qav, A2, H⟩ := qaB H; (try dsimp only at H); by_cases c3 : qav = true
 ·subst c3; rw [if_pos rfl] at H; obtain ⟨qaQ, A4, H⟩ := qaB H; (try dsimp only at H); obtain ⟨rfl, rfl⟩ := qdQ H; go_enter Tryz.func116, Tryz.ntmps116
  go_wp2_with (first | (refine gl_ 5 Tryz.func170 #[.int .i64 a0] rfl qbJ ?_; (with_reducible refine (qdg.calls a0 true _ A2.1).mono ?_); rintro e w' ⟨rfl, ⟨nd, rfl⟩⟩; refine ⟨_, rfl, ?_⟩) | (refine gl_ 8 Tryz.func172 #[.int .i64 a0] rfl qbJ ?_; (with_reducible refine (qci.calls k a0 qaQ _ A4.1).mono ?_); rintro e w5 ⟨rfl, hb⟩; refine ⟨_, rfl, ?_⟩; replace HB := HB.mw hb; (try clear hb)))
  go_ret2
  exact ⟨qca, qao⟩
 replace c3 := Bool.eq_false_iff.mpr c3; subst c3; rw [if_neg ff_] at H; obtain ⟨rfl, rfl⟩ := qdQ H; go_enter Tryz.func116, Tryz.ntmps116
 go_wp2_with (first | (refine gl_ 5 Tryz.func170 #[.int .i64 a0] rfl qbJ ?_; (with_reducible refine (qdg.calls a0 false _ A2.1).mono ?_); rintro e w' ⟨rfl, ⟨nd, rfl⟩⟩; refine ⟨_, rfl, ?_⟩))
 go_ret2
 exact ⟨qca, qao⟩
mutual
def qa0.j0 : Nat → List (qac) → Int → Bool → Option (ByteArray × Bool)
 | 0, _, _, _ => none
 | k + 1, x0, x1, x15 => if x15 = true then (some ((⟨#[]⟩ : ByteArray), false)) else (qa0.l0 k x0 x1 (⟨#[]⟩ : ByteArray) 1)
def qa0.l0 : Nat → List (qac) → Int → ByteArray → Int → Option (ByteArray × Bool)
 | 0, _, _, _, _ => none
 | k + 1, x0, x1, x6, x7 => if x7 ≤ x1 then ((qcj.f k x0 x7).bind fun qcb => (if qcb = true then (if x6.size + 1 ≤ 9223372036854775807 then (qa0.l0 k x0 x1 (x6 ++ (⟨#[111]⟩ : ByteArray)) (wrap64 (x7 + 1))) else (none)) else (if x6.size + 1 ≤ 9223372036854775807 then (qa0.l0 k x0 x1 (x6 ++ (⟨#[120]⟩ : ByteArray)) (wrap64 (x7 + 1))) else (none)))) else (some (x6, true))
end
def qa0.f (k : Nat) (l0 : List (qac)) (a1 : Int) : Option (ByteArray × Bool) := (qaP.f k l0).bind fun qav => (if qav = true then ((qbi.f a1 1 48).bind fun qaQ => (qa0.j0 k l0 a1 (!qaQ))) else (qa0.j0 k l0 a1 true))
theorem qa0.calls (k : Nat) (A0 : Option Addr) (c0 : Nat) (l0 : List (qac)) (a1 : Int) (r1 : ByteArray) (r2 : Bool) (w : World) (hr0 : Kd.C qaG w A0 l0.length l0) (hc0 : l0.length ≤ c0) (h : qa0.f k l0 a1 = some (r1, r2)) :
  Calls Tryz.prog 117 #[.slice A0 l0.length c0, .int .i64 a1] w fun e w' => e = .returned (.tuple #[.string r1, .bool r2]) ∧ Below w.heap.size w w' := by
 have HR0 := ak_ hr0; have HC0 := ak_ hc0; clear hr0 hc0; have HB := br_ w; have H : ((qaP.f k l0).bind fun qav => (if qav = true then ((qbi.f a1 1 48).bind fun qaQ => (qa0.j0 k l0 a1 (!qaQ))) else (qa0.j0 k l0 a1 true))) = some (r1, r2) := h; clear h; have HC3 := ak_ H; clear H; go_enter Tryz.func117, Tryz.ntmps117
 go_upto_region 1 with (fail)
 go_cut [15] (fun v15 wc => ∃ (kq : Nat) (qnm : Bool), v15 = .bool qnm ∧ qai (qa0.j0 kq l0 a1 qnm = some (r1, r2)) ∧ qai (kq ≤ k) ∧ qai (Below w.heap.size w wc))
 case first =>
  have H := HC3.1; clear HC3; obtain ⟨qav, A4, H⟩ := qaB H; (try dsimp only at H); by_cases c5 : qav = true
  ·subst c5; rw [if_pos rfl] at H; obtain ⟨qaQ, A6, H⟩ := qaB H; (try dsimp only at H); have H' := ak_ H; clear H
   go_wp2_with (first | (refine gl_ 9 Tryz.func60 #[.slice A0 l0.length c0] rfl qbJ ?_; (with_reducible refine (qaP.calls k _ _ l0 true _ ?qaz ?qaA A4.1).mono ?_); (case qaz => exact qhr); (case qaA => exact qb9); rintro e w7 ⟨rfl, hb⟩; refine ⟨_, rfl, ?_⟩; replace HB := HB.mw hb; (try clear hb)) | (go_at_call 93; (with_reducible refine (qbi.calls a1 1 48 qaQ _ A6.1).mono ?_); rintro e w' ⟨rfl, ⟨nd, rfl⟩⟩))
   go_meet
   case rel => exact ⟨_, (!qaQ), qay, H', ⟨qiC⟩, ⟨qao⟩⟩
  replace c5 := Bool.eq_false_iff.mpr c5; subst c5; rw [if_neg ff_] at H; have H' := ak_ H; clear H
  go_wp2_with (first | (refine gl_ 9 Tryz.func60 #[.slice A0 l0.length c0] rfl qbJ ?_; (with_reducible refine (qaP.calls k _ _ l0 false _ ?qaz ?qaA A4.1).mono ?_); (case qaz => exact qhr); (case qaA => exact qb9); rintro e w8 ⟨rfl, hb⟩; refine ⟨_, rfl, ?_⟩; replace HB := HB.mw hb; (try clear hb)))
  go_meet
  case rel => exact ⟨_, (true), qay, H', ⟨qiC⟩, ⟨qao⟩⟩
 case rest =>
  clear HC3; obtain ⟨kq, qnm, rfl, HA, HJ2, HB⟩ := hcut
  cases kq with
  | zero => exact absurd HA.1 (by simp [qa0.j0])
  | succ kj2 =>
   have H := HA.1; clear HA; simp only [qa0.j0] at H; by_cases c9 : qnm = true
   ·subst c9; rw [if_pos rfl] at H; obtain ⟨rfl, rfl⟩ := qdQ H; go_wp2
    go_ret2
    exact ⟨qca, qao⟩
   replace c9 := Bool.eq_false_iff.mpr c9; subst c9; rw [if_neg ff_] at H; have H' := ak_ H; clear H; go_wp2
   go_loopg [6, 7] kj2 (fun kq v6 v7 w' => ∃ (qhD : ByteArray) (qmB : Int), v6 = .string qhD ∧ v7 = .int .i64 qmB ∧ qai (qa0.l0 kq l0 a1 qhD qmB = some (r1, r2)) ∧ qai (kq ≤ kj2) ∧ qai (Below w.heap.size w w'))
   case atStart => exact ⟨((⟨#[]⟩ : ByteArray)), (1), qay, qay, H', ⟨Nat.le_refl _⟩, ⟨qao⟩⟩
   case round =>
    clear H'; (try clear c9); obtain ⟨qhD, qmB, rfl, rfl, HA, HK2, HB⟩ := hrel
    cases gk with
    | zero => exact absurd HA.1 (by simp [qa0.l0])
    | succ k2 =>
     have H := HA.1; clear HA; simp only [qa0.l0] at H; by_cases c10 : qmB ≤ a1; rotate_left
     ·rw [if_neg c10] at H; have qgY := decide_eq_false c10; clear c10; obtain ⟨rfl, rfl⟩ := qdQ H; go_wp2
      go_ret2
      exact ⟨qca, qao⟩
     rw [if_pos c10] at H; have qgY := decide_eq_true c10; clear c10; obtain ⟨qcb, A11, H⟩ := qaB H; (try dsimp only at H); by_cases c12 : qcb = true
     ·subst c12; rw [if_pos rfl] at H; obtain ⟨c13, H⟩ := qct H; have qmP := eq_true c13; have c13b1 := decide_eq_true c13
      try have c13b2 : (9223372036854775807 < qhD.size + 1) = False := eq_false (Nat.not_lt.2 c13)
      have H' := ak_ H; clear H
      go_wp2_with (first | (refine gl_ 23 Tryz.func173 #[.slice A0 l0.length c0, .int .i64 qmB] rfl qbJ ?_; (with_reducible refine (qcj.calls k2 _ _ l0 qmB true _ ?qaz ?qaA A11.1).mono ?_); (case qaz => exact qhr); (case qaA => exact qb9); rintro e w14 ⟨rfl, hb⟩; refine ⟨_, rfl, ?_⟩; replace HB := HB.mw hb; (try clear hb)))
      go_roundg k2
      case measure => have := HJ2.1; have := HK2.1; omega
      case rel => exact ⟨(qhD ++ (⟨#[111]⟩ : ByteArray)), (wrap64 (qmB + 1)), qay, qay, H', ⟨by have := HJ2.1; have := HK2.1; omega⟩, ⟨qao⟩⟩
     replace c12 := Bool.eq_false_iff.mpr c12; subst c12; rw [if_neg ff_] at H; obtain ⟨c15, H⟩ := qct H; have qnH := eq_true c15; have qpb := decide_eq_true c15
     try have c15b2 : (9223372036854775807 < qhD.size + 1) = False := eq_false (Nat.not_lt.2 c15)
     have H' := ak_ H; clear H
     go_wp2_with (first | (refine gl_ 23 Tryz.func173 #[.slice A0 l0.length c0, .int .i64 qmB] rfl qbJ ?_; (with_reducible refine (qcj.calls k2 _ _ l0 qmB false _ ?qaz ?qaA A11.1).mono ?_); (case qaz => exact qhr); (case qaA => exact qb9); rintro e w16 ⟨rfl, hb⟩; refine ⟨_, rfl, ?_⟩; replace HB := HB.mw hb; (try clear hb)))
     go_roundg k2
     case measure => have := HJ2.1; have := HK2.1; omega
     case rel => exact ⟨(qhD ++ (⟨#[120]⟩ : ByteArray)), (wrap64 (qmB + 1)), qay, qay, H', ⟨by have := HJ2.1; have := HK2.1; omega⟩, ⟨qao⟩⟩
def qbz.l0 : Nat → ByteArray → Int → Option (Bool)
 | 0, _, _ => none
 | k + 1, x0, x3 => if x3 < (x0.size : Int) then (if 0 ≤ x3 then (if (bt x0 x3) = 111 then (qbz.l0 k x0 (wrap64 (x3 + 1))) else (if (bt x0 x3) = 120 then (qbz.l0 k x0 (wrap64 (x3 + 1))) else (if (bt x0 x3) = 63 then (qbz.l0 k x0 (wrap64 (x3 + 1))) else (some false)))) else (none)) else (some true)
def qbz.f (k : Nat) (a0 : ByteArray) : Option (Bool) := (qbi.f (a0.size : Int) 1 48).bind fun qav => (if qav = true then (qbz.l0 k a0 0) else (some false))
theorem qbz.calls (k : Nat) (a0 : ByteArray) (r : Bool) (w : World) (h : qbz.f k a0 = some r) :
  Calls Tryz.prog 212 #[.string a0] w fun e w' => e = .returned (.bool r) ∧ qcY w w' := by
 have H : ((qbi.f (a0.size : Int) 1 48).bind fun qav => (if qav = true then (qbz.l0 k a0 0) else (some false))) = some r := h; clear h; obtain ⟨qav, A2, H⟩ := qaB H; (try dsimp only at H); by_cases c3 : qav = true; rotate_left
 ·replace c3 := Bool.eq_false_iff.mpr c3; subst c3; rw [if_neg ff_] at H; obtain rfl := sj_ H; go_enter Tryz.func212, Tryz.ntmps212
  go_wp2_with (first | (refine gl_ 6 Tryz.func93 #[.int .i64 (a0.size : Int), .int .i64 1, .int .i64 48] rfl qbJ ?_; (with_reducible refine (qbi.calls (a0.size : Int) 1 48 false _ A2.1).mono ?_); rintro e w' ⟨rfl, ⟨nd, rfl⟩⟩; refine ⟨_, rfl, ?_⟩))
  go_ret
  exact ⟨qay, qc3⟩
 subst c3; rw [if_pos rfl] at H; have H' := ak_ H; clear H; go_enter Tryz.func212, Tryz.ntmps212
 go_wp2_with (first | (refine gl_ 6 Tryz.func93 #[.int .i64 (a0.size : Int), .int .i64 1, .int .i64 48] rfl qbJ ?_; (with_reducible refine (qbi.calls (a0.size : Int) 1 48 true _ A2.1).mono ?_); rintro e w' ⟨rfl, ⟨nd, rfl⟩⟩; refine ⟨_, rfl, ?_⟩))
 go_loopg [3] k (fun kq v3 w' => ∃ (qbx : Int), v3 = .int .i64 qbx ∧ qai (qbz.l0 kq a0 qbx = some r) ∧ qai (kq ≤ k) ∧ qcY w w')
 case atStart => exact ⟨(0), qay, H', ⟨Nat.le_refl _⟩, qc3⟩
 case round =>
  clear H'; (try clear c3); obtain ⟨qbx, rfl, HA, HK1, ⟨m1, rfl⟩⟩ := hrel
  cases gk with
  | zero => exact absurd HA.1 (by simp [qbz.l0])
  | succ k1 =>
   have H := HA.1; clear HA; simp only [qbz.l0] at H; by_cases c4 : qbx < (a0.size : Int); rotate_left
   ·rw [if_neg c4] at H; have qfw := decide_eq_false c4; clear c4; obtain rfl := sj_ H; go_wp2
    go_ret
    exact ⟨qay, qc3⟩
   rw [if_pos c4] at H; have qfw := decide_eq_true c4; clear c4; obtain ⟨c5, H⟩ := qct H; have qgL := decide_eq_true c5; clear c5; by_cases c7 : (bt a0 qbx) = 111
   ·rw [if_pos c7] at H; have qhx : ((bt a0 qbx) == 111) = true := beq_iff_eq.mpr c7; have qoH : ((bt a0 qbx) != 111) = false := bne_eq_false_iff_eq.mpr c7; clear c7; have H' := ak_ H; clear H; have p6 : 0 ≤ (qbx : Int) := of_decide_eq_true qaL; have q6 : qbx < (a0.size : Int) := of_decide_eq_true qaL; have hx6 := qeu a0 qbx; replace p6 := eq_true p6; replace q6 := eq_true q6; go_wp2
    go_roundg k1
    case measure => have := HK1.1; omega
    case rel => exact ⟨(wrap64 (qbx + 1)), qay, H', ⟨qc9⟩, qc3⟩
   rw [if_neg c7] at H; have qhx : ((bt a0 qbx) == 111) = false := beq_eq_false_iff_ne.mpr c7; have qoH : ((bt a0 qbx) != 111) = true := bne_iff_ne.mpr c7; by_cases c9 : (bt a0 qbx) = 120
   ·rw [if_pos c9] at H; have qmQ : ((bt a0 qbx) == 120) = true := beq_iff_eq.mpr c9; have c9b1 : ((bt a0 qbx) != 120) = false := bne_eq_false_iff_eq.mpr c9; clear c9; have H' := ak_ H; clear H; have p6 : 0 ≤ (qbx : Int) := of_decide_eq_true qaL; have q6 : qbx < (a0.size : Int) := of_decide_eq_true qaL; have hx6 := qeu a0 qbx; replace p6 := eq_true p6; replace q6 := eq_true q6; have p8 : 0 ≤ (qbx : Int) := of_decide_eq_true qaL; have q8 : qbx < (a0.size : Int) := of_decide_eq_true qaL; have hx8 := qeu a0 qbx; replace p8 := eq_true p8; replace q8 := eq_true q8; go_wp2
    go_roundg k1
    case measure => have := HK1.1; omega
    case rel => exact ⟨(wrap64 (qbx + 1)), qay, H', ⟨qc9⟩, qc3⟩
   rw [if_neg c9] at H; have qmQ : ((bt a0 qbx) == 120) = false := beq_eq_false_iff_ne.mpr c9; have c9b1 : ((bt a0 qbx) != 120) = true := bne_iff_ne.mpr c9; by_cases c11 : (bt a0 qbx) = 63; rotate_left
   ·rw [if_neg c11] at H; have qgK : ((bt a0 qbx) == 63) = false := beq_eq_false_iff_ne.mpr c11; have qhM : ((bt a0 qbx) != 63) = true := bne_iff_ne.mpr c11; obtain rfl := sj_ H; have p6 : 0 ≤ (qbx : Int) := of_decide_eq_true qaL; have q6 : qbx < (a0.size : Int) := of_decide_eq_true qaL; have hx6 := qeu a0 qbx; replace p6 := eq_true p6; replace q6 := eq_true q6; have p8 : 0 ≤ (qbx : Int) := of_decide_eq_true qaL; have q8 : qbx < (a0.size : Int) := of_decide_eq_true qaL; have hx8 := qeu a0 qbx; replace p8 := eq_true p8; replace q8 := eq_true q8; have p10 : 0 ≤ (qbx : Int) := of_decide_eq_true qaL; have q10 : qbx < (a0.size : Int) := of_decide_eq_true qaL; have hx10 := qeu a0 qbx; replace p10 := eq_true p10; replace q10 := eq_true q10; go_wp2
    go_ret
    exact ⟨qay, qc3⟩
   rw [if_pos c11] at H; have qgK : ((bt a0 qbx) == 63) = true := beq_iff_eq.mpr c11; have qhM : ((bt a0 qbx) != 63) = false := bne_eq_false_iff_eq.mpr c11; clear c11; have H' := ak_ H; clear H; have p6 : 0 ≤ (qbx : Int) := of_decide_eq_true qaL; have q6 : qbx < (a0.size : Int) := of_decide_eq_true qaL; have hx6 := qeu a0 qbx; replace p6 := eq_true p6; replace q6 := eq_true q6; have p8 : 0 ≤ (qbx : Int) := of_decide_eq_true qaL; have q8 : qbx < (a0.size : Int) := of_decide_eq_true qaL; have hx8 := qeu a0 qbx; replace p8 := eq_true p8; replace q8 := eq_true q8; have p10 : 0 ≤ (qbx : Int) := of_decide_eq_true qaL; have q10 : qbx < (a0.size : Int) := of_decide_eq_true qaL; have hx10 := qeu a0 qbx; replace p10 := eq_true p10; replace q10 := eq_true q10; go_wp2
   go_roundg k1
   case measure => have := HK1.1; omega
   case rel => exact ⟨(wrap64 (qbx + 1)), qay, H', ⟨qc9⟩, qc3⟩
def qdy.f (k : Nat) (qbK : ByteArray) (qbY : Int) : Option (Bool) := (qbz.f k qbK).bind fun qaQ => (if qaQ = true then ((qbi.f qbY 0 3).bind fun qcb => (some qcb)) else (some false))
theorem qdy.calls (k : Nat) (qbK : ByteArray) (qbY : Int) (r : Bool) (w : World) (h : qdy.f k qbK qbY = some r) :
  Calls Tryz.prog 174 #[.agg #[.string qbK, .int .i64 qbY]] w fun e w' => e = .returned (.bool r) ∧ Below w.heap.size w w' := by
 have hu99 := Tryz.underlying99; have HB := br_ w; have H : ((qbz.f k qbK).bind fun qaQ => (if qaQ = true then ((qbi.f qbY 0 3).bind fun qcb => (some qcb)) else (some false))) = some r := h; clear h; obtain ⟨qaQ, A2, H⟩ := qaB H; (try dsimp only at H); by_cases c3 : qaQ = true
 ·subst c3; rw [if_pos rfl] at H; obtain ⟨qcb, A4, H⟩ := qaB H; (try dsimp only at H); obtain rfl := sj_ H; go_enter Tryz.func174, Tryz.ntmps174
  go_wp2_with (first | ((with_reducible refine qam (N := 1) rfl ?_); refine bx_ 1 rfl (cs := #[.string qbK, .int .i64 qbY]) (t := 99) qa1 ?_; intro qbD hg w5 hbox hb; have qas := ak_ (hbox); have qdO := ak_ (HB.ge hg); have qdz := ak_ (HB.ge hg); replace HB := HB.mw hb; clear hb hbox hg; obtain ⟨qkV, qkW, qk0, qk1⟩ := qbl qas.1) | (refine gl_ 5 Tryz.func212 #[.string qbK] rfl qbJ ?_; (with_reducible refine (qbz.calls k qbK true _ A2.1).mono ?_); rintro e w' ⟨rfl, ⟨nd, rfl⟩⟩; refine ⟨_, rfl, ?_⟩) | (go_at_call 93; (with_reducible refine (qbi.calls qbY 0 3 qcb _ A4.1).mono ?_); rintro e w' ⟨rfl, ⟨nd, rfl⟩⟩))
  go_ret
  exact ⟨qca, qcw⟩
 replace c3 := Bool.eq_false_iff.mpr c3; subst c3; rw [if_neg ff_] at H; obtain rfl := sj_ H; go_enter Tryz.func174, Tryz.ntmps174
 go_wp2_with (first | ((with_reducible refine qam (N := 1) rfl ?_); refine bx_ 1 rfl (cs := #[.string qbK, .int .i64 qbY]) (t := 99) qa1 ?_; intro qbD hg w7 hbox hb; have qas := ak_ (hbox); have qdO := ak_ (HB.ge hg); have qdz := ak_ (HB.ge hg); replace HB := HB.mw hb; clear hb hbox hg; obtain ⟨qjN, qjO, qjS, qjT⟩ := qbl qas.1) | (refine gl_ 5 Tryz.func212 #[.string qbK] rfl qbJ ?_; (with_reducible refine (qbz.calls k qbK false _ A2.1).mono ?_); rintro e w' ⟨rfl, ⟨nd, rfl⟩⟩; refine ⟨_, rfl, ?_⟩))
 go_ret
 exact ⟨qca, qcw⟩
def qaE.j0 : Nat → List ByteArray → Bool → Option (ByteArray × Int × Bool)
 | 0, _, _ => none
 | k + 1, x4, x15 => if x15 = true then (some ((⟨#[]⟩ : ByteArray), 0, false)) else (if 0 < (x4.length : Int) then (if 1 < (x4.length : Int) then ((qaW.f k (qgE ByteArray.empty x4 1)).bind fun t107 => ((qdy.f k (qgE ByteArray.empty x4 0) t107).bind fun t109 => (if t109 = true then (some (qgE ByteArray.empty x4 0, t107, true)) else (some ((⟨#[]⟩ : ByteArray), 0, false))))) else (none)) else (none))
def qaE.f (k : Nat) (a0 : ByteArray) : Option (ByteArray × Int × Bool) := (qbj.f k a0 58).bind fun qaQ => (if (a0.size : Int) > 50 then (qaE.j0 k qaQ true) else (qaE.j0 k qaQ ((qaQ.length : Int) != 2)))
def qaE.T4 : Bool × List (List Nat × List Nat) := (true, [([], []), ([0], [0]), ([1], [1]), ([], []), ([3], [3]), ([4], [4]), ([5], [5]), ([2, 6], [2, 6]), ([], []), ([8, 7, 6, 0, 1, 2, 3, 4, 5, 6, 7, 8], [7, 8])])
def qaE.B4 : List Nat := [0, 1, 3, 0, 8, 24, 56, 127, 0, 511]
theorem qaE.tab4 : qhC .any (opsOf Tryz.f118 4) = qaE.T4 := by kernel_rfl
theorem qaE.qq9 : qeG qaE.T4.2 qaE.B4 = true := by kernel_rfl
theorem qaE.calls (k : Nat) (a0 : ByteArray) (r1 : ByteArray) (r2 : Int) (r3 : Bool) (w : World) (h : qaE.f k a0 = some (r1, r2, r3)) :
  Calls Tryz.prog 118 #[.string a0] w fun e w' => e = .returned (.tuple #[.agg #[.string r1, .int .i64 r2], .bool r3]) ∧ Below w.heap.size w w' := by
 have hu99 := Tryz.underlying99; have HB := br_ w; have H : ((qbj.f k a0 58).bind fun qaQ => (if (a0.size : Int) > 50 then (qaE.j0 k qaQ true) else (qaE.j0 k qaQ ((qaQ.length : Int) != 2)))) = some (r1, r2, r3) := h; clear h; obtain ⟨qaQ, A2, H⟩ := qaB H; (try dsimp only at H); have HC3 := ak_ H; clear H; go_enter Tryz.func118, Tryz.ntmps118
 go_upto_region 2 with (first | ((with_reducible refine qam (N := 2) rfl ?_); refine bx_ 2 rfl (cs := #[.string (⟨#[]⟩ : ByteArray), .int .i64 0]) (t := 99) qa1 ?_; intro qbD hg w4 hbox hb; have qas := ak_ (hbox); have qdO := ak_ (HB.ge hg); have qdz := ak_ (HB.ge hg); replace HB := HB.mw hb; clear hb hbox hg) | (refine gl_ 7 Tryz.func39 #[.string a0, .int .u8 58] rfl qbJ ?_; (with_reducible refine (qbj.calls k a0 58 qaQ _ A2.1).mono ?_); rintro e w5 ⟨qht, rfl, ho0, hb⟩; refine ⟨_, rfl, ?_⟩; have qbZ := ak_ (Kd.qaw ho0 (qab qcw)); replace qas := ak_ (qap qmg hb); replace HB := ak_ (qaa qcw hb); (try clear hb ho0)))
 (try simp only [Act.put, List.setIfInBounds_toArray, List.set_cons_zero, List.set_cons_succ])
 go_cut [15] (fun v15 wc => ∃ (kq : Nat) (qnm : Bool), v15 = .bool qnm ∧ qai (qaE.j0 kq qaQ qnm = some (r1, r2, r3)) ∧ qai (kq ≤ k) ∧ qai (Kd.R Kd.string 9 wc w.heap.size (fun _ => True) qht qaQ) ∧ qai (wc.heap[qbD]? = some (.cells #[.string (⟨#[]⟩ : ByteArray), .int .i64 0] 99 (0, 0))) ∧ qai (Below w.heap.size w wc))
 case first =>
  have H := HC3.1; clear HC3; by_cases c6 : (a0.size : Int) > 50
  ·rw [if_pos c6] at H; have qgc : decide (50 < (a0.size : Int)) = true := decide_eq_true c6; have qnJ : decide (50 < a0.size) = true := decide_eq_true (by omega); clear c6; (first | rw [qgc] | rw [qnJ] | (simp only [qec, qey]; rw [qgc]) | skip); have H' := ak_ H; clear H; go_wp2; go_meet
   case rel => exact ⟨_, (true), qay, H', ⟨qiC⟩, ⟨k83_⟩, ⟨qmg⟩, ⟨qcw⟩⟩
  rw [if_neg c6] at H; have qgc : decide (50 < (a0.size : Int)) = false := decide_eq_false c6; have qnJ : decide (50 < a0.size) = false := decide_eq_false (by omega); clear c6; (first | rw [qgc] | rw [qnJ] | (simp only [qec, qey]; rw [qgc]) | skip); have H' := ak_ H; clear H; obtain ⟨Ao7, co7, eo7⟩ := Kd.qaI qbZ.1; subst eo7; go_wp2; go_meet
  case rel => exact ⟨_, (((qaQ.length : Int) != 2)), qay, H', ⟨qiC⟩, ⟨k83_⟩, ⟨qmg⟩, ⟨qcw⟩⟩
 case rest =>
  clear HC3; obtain ⟨kq, qnm, rfl, HA, HJ2, qdp, qas, HB⟩ := hcut
  cases kq with
  | zero => exact absurd HA.1 (by simp [qaE.j0])
  | succ kj2 =>
   have H := HA.1; clear HA; simp only [qaE.j0] at H; by_cases c8 : qnm = true
   ·subst c8; rw [if_pos rfl] at H; obtain ⟨rfl, rfl, rfl⟩ := qfI H; obtain ⟨qgA, qgB, qgC, qgD⟩ := qbl qas.1; go_wp2; refine bodyPost_ret (qe6 rfl _ _ qbD 99 #[.string (⟨#[]⟩ : ByteArray), .int .i64 0] (0, 0) _ rfl k1_ Tryz.underlying99 rfl (by kernel_rfl)) rfl ?_; exact ⟨qca, qcw⟩
   replace c8 := Bool.eq_false_iff.mpr c8; subst c8; rw [if_neg ff_] at H; obtain ⟨c10, H⟩ := qct H; have qgY := decide_eq_true c10; have c10b1 : decide (0 < qaQ.length) = true := decide_eq_true (by omega); clear c10; obtain ⟨c11, H⟩ := qct H; have qgK := decide_eq_true c11; have qhM : decide (1 < qaQ.length) = true := decide_eq_true (by omega); clear c11; obtain ⟨t107, A12, H⟩ := qaB H; (try dsimp only at H); obtain ⟨t109, A13, H⟩ := qaB H; (try dsimp only at H); by_cases c14 : t109 = true
   ·subst c14; rw [if_pos rfl] at H; obtain ⟨rfl, rfl, rfl⟩ := qfI H
    try go_wp2
    replace qdp := ak_ (Kd.qax qdp.1); replace qas := ak_ (qak qas.1); replace HB := ak_ (qah HB.1); obtain ⟨Ao16, co16, eo16⟩ := Kd.qaI qdp.1; (first | subst eo16 | (injection eo16 with f1_ f2_ f3_; have f4_ := f1_.symm; have f5_ := f3_.symm; clear f1_ f2_ f3_; subst f4_; subst f5_))
    have qhT : 0 ≤ (0 : Int) := (by omega)
    have qhU : 0 < (qaQ.length : Int) := of_decide_eq_true qaL; obtain ⟨qeq, qnU, qcT⟩ := Kd.qgX (Kd.qan qdp.1).2.2 0 qhT qhU
    cases qnU
    have qtO : (0 < qaQ.length) = True := eq_true (by omega); (try rw [show ((0 : Int)).toNat = 0 from rfl] at qcT); (try rw [Addr.add_zero'] at qcT); replace qhT := eq_true qhT; replace qhU := eq_true qhU
    have qfW : 0 ≤ (1 : Int) := (by omega)
    have qfX : 1 < (qaQ.length : Int) := of_decide_eq_true qaL; obtain ⟨qg4, qke, qcu⟩ := Kd.qgX (Kd.qan qdp.1).2.2 1 qfW qfX
    obtain rfl : qeq = qg4 := (by injection qke)
    (try simp only [show (1 : Int).toNat = 1 from rfl, Nat.reduceMul, Nat.reduceEqDiff, Go.Addr.add, ↓reduceIte] at qcu); have qtP : (1 < qaQ.length) = True := eq_true (by omega); (try rw [show ((1 : Int)).toNat = 1 from rfl] at qcu); replace qfW := eq_true qfW; replace qfX := eq_true qfX; refine qeS (n := 10) (S := fun w' => w'.cell? qeq = some (.string (qgE ByteArray.empty qaQ 0)) ∧ w'.cell? ⟨qeq.block, qeq.off + 1, none⟩ = some (.string (qgE ByteArray.empty qaQ 1))) (ds := []) (rA_ [0, 10]) (by kernel_rfl) rfl rfl ⟨qcT, qcu⟩ (fun hHeld => ?_); refine qc0 qaE.tab4 qaE.qq9 (fun HT_ HW_ => ?_)
    generalize wc.drew = w15 at qdp qas HB qcT qcu hHeld ⊢
    refine pu_ 0 17 [1, 9] ?_; refine pu_ 1 18 [2, 8] ?_; refine pu_ 3 20 [2, 1, 1, 6] ?_; refine pu_ 4 21 [2, 1, 2, 5] ?_; refine qii 2 19 [5, 5] ?_; refine qii 5 22 [6, 4] ?_; refine qtC (σ := Nat) 1 (rA_ [9, 1]) (fun s_ => [(23, .int .i64 t107), (5, .pointer (some ⟨s_, 0, none⟩)), (24, .agg #[.string (qgE ByteArray.empty qaQ 0), .int .i64 t107])]) (fun s_ w' => (w'.cell? qeq = some (.string (qgE ByteArray.empty qaQ 0)) ∧ w'.cell? ⟨qeq.block, qeq.off + 1, none⟩ = some (.string (qgE ByteArray.empty qaQ 1))) ∧ (Kd.R Kd.string 9 w' w.heap.size (fun _ => True) (.slice (some qeq) qaQ.length co16) qaQ) ∧ (w'.heap[qbD]? = some (.cells #[.string (⟨#[]⟩ : ByteArray), .int .i64 0] 99 (0, 0))) ∧ (w'.heap[s_]? = some (.cells #[.string (⟨#[]⟩ : ByteArray), .int .i64 0] 99 (0, 0))) ∧ (w.heap.size ≤ s_) ∧ (w.heap.size ≤ s_) ∧ (qbD ≠ s_) ∧ (s_ ≠ qbD) ∧ (Below w.heap.size w w')) ?_ ?_; rotate_left
    ·intro hCont; refine two_ (i := 6) (j := 8) (Ni := some 23) (Nj := some 5) (rA_ [7, 3]) (rA_ [6, 2, 1, 1]) rfl rfl rfl rfl (qq0 HT_.out (by kernel_rfl)) (by decide) (by decide) (fun K hK => ?_) (fun K hK => ?_)
     ·skip
      refine qfN Tryz.func95 (by kernel_rfl) rfl #[.string (qgE ByteArray.empty qaQ 1)] (by rfl) rfl rfl qbJ ?_
      with_reducible refine (qaW.calls kj2 (qgE ByteArray.empty qaQ 1) t107 _ A12.1).mono ?_
      rintro e w' ⟨rfl, ⟨nd, rfl⟩⟩; refine ⟨_, rfl, ?_⟩; refine hK.out _ _ ⟨hHeld.1, hHeld.2⟩ (fun hHeld => ?_); clear hK K; refine nm_ 23 ?_; refine pu_ 7 24 [8, 2] ?_; refine qfC (i := 8) (N := some 5) (rA_ [9, 1]) rfl rfl (qcJ HT_.out (by kernel_rfl)) (by decide) (fun K hK => ?_); refine qkl ?hg (N := 5) ?hd (cs := #[.string (⟨#[]⟩ : ByteArray), .int .i64 0]) (t := 99) ?hr ?_; (case hd => rfl); (case hg => rfl); (case hr => exact qa1); intro qex hg w17 hbox hb; have HS0_ := (hb.cell (World.block_lt_of_cell? _ _ (hHeld.1))).trans (hHeld.1); have HS1_ := (hb.cell (World.block_lt_of_cell? _ _ (hHeld.2))).trans (hHeld.2); replace qdp := qdp.mw hb; have qfQ := ak_ (hbox); have qmD := ak_ ((by rw [hg]; exact (qab qcw) : w.heap.size ≤ qex)); have qlD := ak_ ((by rw [hg]; exact (qab qcw) : w.heap.size ≤ qex)); replace HB := ak_ (qaa qcw hb); have qdF := ak_ (qas.ne hg); have qd1 := ak_ (qas.ne hg).symm; replace qas := ak_ (qap qmg hb); clear hb hbox hg; refine hK.out _ _ ⟨HS0_, HS1_⟩ (fun hHeld => ?_); clear hK K; refine nm_ 5 ?_; exact qeB qrs (hCont (qex) _ ⟨hHeld, qkq, qmg, (by apply_rules only [qfQ.1, qaj, qak, qag]), qmD.1, qlD.1, qdF.1, qd1.1, k67_⟩)
     skip
     refine qkl ?hg (N := 5) ?hd (cs := #[.string (⟨#[]⟩ : ByteArray), .int .i64 0]) (t := 99) ?hr ?_; (case hd => rfl); (case hg => rfl); (case hr => exact qa1); intro qex hg w17 hbox hb; have HS0_ := (hb.cell (World.block_lt_of_cell? _ _ (hHeld.1))).trans (hHeld.1); have HS1_ := (hb.cell (World.block_lt_of_cell? _ _ (hHeld.2))).trans (hHeld.2); replace qdp := qdp.mw hb; have qfQ := ak_ (hbox); have qmD := ak_ ((by rw [hg]; exact (qab qcw) : w.heap.size ≤ qex)); have qlD := ak_ ((by rw [hg]; exact (qab qcw) : w.heap.size ≤ qex)); replace HB := ak_ (qaa qcw hb); have qdF := ak_ (qas.ne hg); have qd1 := ak_ (qas.ne hg).symm; replace qas := ak_ (qap qmg hb); clear hb hbox hg; refine hK.out _ _ ⟨HS0_, HS1_⟩ (fun hHeld => ?_); clear hK K; refine nm_ 5 ?_; refine qfC (i := 6) (N := some 23) (rA_ [7, 1, 1, 1]) rfl rfl (qcJ HT_.out (by kernel_rfl)) (by decide) (fun K hK => ?_); refine qfN Tryz.func95 (by kernel_rfl) rfl #[.string (qgE ByteArray.empty qaQ 1)] (by rfl) rfl rfl qbJ ?_
     with_reducible refine (qaW.calls kj2 (qgE ByteArray.empty qaQ 1) t107 _ A12.1).mono ?_
     rintro e w' ⟨rfl, ⟨nd, rfl⟩⟩; refine ⟨_, rfl, ?_⟩; refine hK.out _ _ ⟨hHeld.1, hHeld.2⟩ (fun hHeld => ?_); clear hK K; refine nm_ 23 ?_; refine pu_ 7 24 [9, 1] ?_; exact qeB qrs (hCont (qex) _ ⟨hHeld, qkq, qmg, (by apply_rules only [qfQ.1, qaj, qak, qag]), qmD.1, qlD.1, qdF.1, qd1.1, k67_⟩)
    rintro qex w18 ⟨hS_, h0_, h1_, h2_, h3_, h4_, h5_, h6_, h7_⟩
    have n0_ : qai (Kd.R Kd.string 9 w18 w.heap.size (fun _ => True) (.slice (some qeq) qaQ.length co16) qaQ) := ⟨h0_⟩
    have n1_ : qai (w18.heap[qbD]? = some (.cells #[.string (⟨#[]⟩ : ByteArray), .int .i64 0] 99 (0, 0))) := ⟨h1_⟩
    have n2_ : qai (w18.heap[qex]? = some (.cells #[.string (⟨#[]⟩ : ByteArray), .int .i64 0] 99 (0, 0))) := ⟨h2_⟩
    have n3_ : qai (w.heap.size ≤ qex) := ⟨h3_⟩
    have n4_ : qai (w.heap.size ≤ qex) := ⟨h4_⟩
    have n5_ : qai (qbD ≠ qex) := ⟨h5_⟩
    have n6_ : qai (qex ≠ qbD) := ⟨h6_⟩
    have n7_ : qai (Below w.heap.size w w18) := ⟨h7_⟩
    clear qdp; clear qas; clear HB; clear h0_ h1_ h2_ h3_ h4_ h5_ h6_ h7_; have qdp := n0_; have qas := n1_; have qfQ := n2_; have qmD := n3_; have qlD := n4_; have qdF := n5_; have qd1 := n6_; have HB := n7_; clear n0_ n1_ n2_ n3_ n4_ n5_ n6_ n7_; have hHeld : w18.cell? qeq = some (.string (qgE ByteArray.empty qaQ 0)) ∧ w18.cell? ⟨qeq.block, qeq.off + 1, none⟩ = some (.string (qgE ByteArray.empty qaQ 1)) := hS_; refine qeB (a' := ?_) ?_ ?_; rotate_left
    ·simp only [qi4, Act.put, List.setIfInBounds_toArray, List.set_cons_zero, List.set_cons_succ]; rfl
    refine qfC (i := 9) (N := none) (rA_ [10]) rfl rfl (qcJ HT_.out (by kernel_rfl)) (by decide) (fun K hK => ?_); obtain ⟨hs19, hfs19⟩ := qcx qfQ.1; have hns19_0 := qdF.1; have hms19_0 := qd1.1; have hs20 := qbA qfQ.1; have hfs20 := qae qfQ.1 1; have hns20_0 := qdF.1; have hms20_0 := qd1.1; refine skip_ (w1 := ?_) (by rfl) rfl ?_ ?_; rotate_left
    ·go_simp; rfl
    refine hK.out _ _ ⟨((cell_far (p := ⟨qex, _, none⟩) k17_ _).trans (((cell_far (p := ⟨qex, _, none⟩) k17_ _).trans (hHeld.1)))), ((cell_far (p := ⟨qex, _, none⟩) k17_ _).trans (((cell_far (p := ⟨qex, _, none⟩) k17_ _).trans (hHeld.2))))⟩ (fun hHeld => ?_); clear hK K; refine qf5 (qeh HT_.out (by kernel_rfl)) ?_; have hnb21 := qd1.1; have hnc21 := qdF.1; obtain ⟨qsT, qsU, qs9, qta⟩ := qbl qfQ.1
    try go_wp2_with (first | (refine gl_ 26 Tryz.func174 #[.agg #[.string (qgE ByteArray.empty qaQ 0), .int .i64 t107]] rfl qbJ ?_; (with_reducible refine (qdy.calls kj2 (qgE ByteArray.empty qaQ 0) t107 true _ A13.1).mono ?_); rintro e w23 ⟨rfl, hb⟩; refine ⟨_, rfl, ?_⟩; replace qdp := ak_ (Kd.qbs k9_ hb); replace qas := ak_ (qap (g := qbD) (o := .cells #[.string (⟨#[]⟩ : ByteArray), .int .i64 0] 99 (0, 0)) k10_ hb); replace qfQ := ak_ (qap (g := qex) (o := .cells #[.string (qgE ByteArray.empty qaQ 0), .int .i64 t107] 99 (0, 0)) k0_ hb); replace HB := ak_ (qaa k67_ hb); (try clear hb); obtain ⟨hcz24_0, hcz24_1, hfz24_0, hfz24_1⟩ := qbl qfQ.1; obtain ⟨qsV, qsW, qtb, qtc⟩ := qbl qas.1))
    refine bodyPost_ret (qe6 rfl _ _ qbD 99 #[.string (qgE ByteArray.empty qaQ 0), .int .i64 t107] (0, 0) _ rfl (by (with_reducible repeat (first | refine qaj ?_ _ | refine qak ?_ | refine qag ?_ _)); refine qa9 (cs := #[.string (qgE ByteArray.empty qaQ 0), .int .i64 0]) ?_ 1 _ rfl; (with_reducible repeat (first | refine qaj ?_ _ | refine qak ?_ | refine qag ?_ _)); refine qa9 (cs := #[.string (⟨#[]⟩ : ByteArray), .int .i64 0]) ?_ 0 _ rfl; apply_rules only [qas.1, qaj, qak, qag]) Tryz.underlying99 rfl (by kernel_rfl)) rfl ?_; exact ⟨qca, k67_⟩
   replace c14 := Bool.eq_false_iff.mpr c14; subst c14; rw [if_neg ff_] at H; obtain ⟨rfl, rfl, rfl⟩ := qfI H
   try go_wp2
   replace qdp := ak_ (Kd.qax qdp.1); replace qas := ak_ (qak qas.1); replace HB := ak_ (qah HB.1); obtain ⟨Ao27, co27, eo27⟩ := Kd.qaI qdp.1; (first | subst eo27 | (injection eo27 with f1_ f2_ f3_; have f4_ := f1_.symm; have f5_ := f3_.symm; clear f1_ f2_ f3_; subst f4_; subst f5_))
   have qhT : 0 ≤ (0 : Int) := (by omega)
   have qhU : 0 < (qaQ.length : Int) := of_decide_eq_true qaL; obtain ⟨qeq, qnU, qcT⟩ := Kd.qgX (Kd.qan qdp.1).2.2 0 qhT qhU
   cases qnU
   have qtO : (0 < qaQ.length) = True := eq_true (by omega); (try rw [show ((0 : Int)).toNat = 0 from rfl] at qcT); (try rw [Addr.add_zero'] at qcT); replace qhT := eq_true qhT; replace qhU := eq_true qhU
   have qfW : 0 ≤ (1 : Int) := (by omega)
   have qfX : 1 < (qaQ.length : Int) := of_decide_eq_true qaL; obtain ⟨qg4, qke, qcu⟩ := Kd.qgX (Kd.qan qdp.1).2.2 1 qfW qfX
   obtain rfl : qeq = qg4 := (by injection qke)
   (try simp only [show (1 : Int).toNat = 1 from rfl, Nat.reduceMul, Nat.reduceEqDiff, Go.Addr.add, ↓reduceIte] at qcu); have qtP : (1 < qaQ.length) = True := eq_true (by omega); (try rw [show ((1 : Int)).toNat = 1 from rfl] at qcu); replace qfW := eq_true qfW; replace qfX := eq_true qfX; refine qeS (n := 10) (S := fun w' => w'.cell? qeq = some (.string (qgE ByteArray.empty qaQ 0)) ∧ w'.cell? ⟨qeq.block, qeq.off + 1, none⟩ = some (.string (qgE ByteArray.empty qaQ 1))) (ds := []) (rA_ [0, 10]) (by kernel_rfl) rfl rfl ⟨qcT, qcu⟩ (fun hHeld => ?_); refine qc0 qaE.tab4 qaE.qq9 (fun HT_ HW_ => ?_)
   generalize wc.drew = w26 at qdp qas HB qcT qcu hHeld ⊢
   refine pu_ 0 17 [1, 9] ?_; refine pu_ 1 18 [2, 8] ?_; refine pu_ 3 20 [2, 1, 1, 6] ?_; refine pu_ 4 21 [2, 1, 2, 5] ?_; refine qii 2 19 [5, 5] ?_; refine qii 5 22 [6, 4] ?_; refine qtC (σ := Nat) 1 (rA_ [9, 1]) (fun s_ => [(23, .int .i64 t107), (5, .pointer (some ⟨s_, 0, none⟩)), (24, .agg #[.string (qgE ByteArray.empty qaQ 0), .int .i64 t107])]) (fun s_ w' => (w'.cell? qeq = some (.string (qgE ByteArray.empty qaQ 0)) ∧ w'.cell? ⟨qeq.block, qeq.off + 1, none⟩ = some (.string (qgE ByteArray.empty qaQ 1))) ∧ (Kd.R Kd.string 9 w' w.heap.size (fun _ => True) (.slice (some qeq) qaQ.length co27) qaQ) ∧ (w'.heap[qbD]? = some (.cells #[.string (⟨#[]⟩ : ByteArray), .int .i64 0] 99 (0, 0))) ∧ (w'.heap[s_]? = some (.cells #[.string (⟨#[]⟩ : ByteArray), .int .i64 0] 99 (0, 0))) ∧ (w.heap.size ≤ s_) ∧ (w.heap.size ≤ s_) ∧ (qbD ≠ s_) ∧ (s_ ≠ qbD) ∧ (Below w.heap.size w w')) ?_ ?_; rotate_left
   ·intro hCont; refine two_ (i := 6) (j := 8) (Ni := some 23) (Nj := some 5) (rA_ [7, 3]) (rA_ [6, 2, 1, 1]) rfl rfl rfl rfl (qq0 HT_.out (by kernel_rfl)) (by decide) (by decide) (fun K hK => ?_) (fun K hK => ?_)
    ·skip
     refine qfN Tryz.func95 (by kernel_rfl) rfl #[.string (qgE ByteArray.empty qaQ 1)] (by rfl) rfl rfl qbJ ?_
     with_reducible refine (qaW.calls kj2 (qgE ByteArray.empty qaQ 1) t107 _ A12.1).mono ?_
     rintro e w' ⟨rfl, ⟨nd, rfl⟩⟩; refine ⟨_, rfl, ?_⟩; refine hK.out _ _ ⟨hHeld.1, hHeld.2⟩ (fun hHeld => ?_); clear hK K; refine nm_ 23 ?_; refine pu_ 7 24 [8, 2] ?_; refine qfC (i := 8) (N := some 5) (rA_ [9, 1]) rfl rfl (qcJ HT_.out (by kernel_rfl)) (by decide) (fun K hK => ?_); refine qkl ?hg (N := 5) ?hd (cs := #[.string (⟨#[]⟩ : ByteArray), .int .i64 0]) (t := 99) ?hr ?_; (case hd => rfl); (case hg => rfl); (case hr => exact qa1); intro qex hg w28 hbox hb; have HS0_ := (hb.cell (World.block_lt_of_cell? _ _ (hHeld.1))).trans (hHeld.1); have HS1_ := (hb.cell (World.block_lt_of_cell? _ _ (hHeld.2))).trans (hHeld.2); replace qdp := qdp.mw hb; have qfQ := ak_ (hbox); have qmD := ak_ ((by rw [hg]; exact (qab qcw) : w.heap.size ≤ qex)); have qlD := ak_ ((by rw [hg]; exact (qab qcw) : w.heap.size ≤ qex)); replace HB := ak_ (qaa qcw hb); have qdF := ak_ (qas.ne hg); have qd1 := ak_ (qas.ne hg).symm; replace qas := ak_ (qap qmg hb); clear hb hbox hg; refine hK.out _ _ ⟨HS0_, HS1_⟩ (fun hHeld => ?_); clear hK K; refine nm_ 5 ?_; exact qeB qrs (hCont (qex) _ ⟨hHeld, qkq, qmg, (by apply_rules only [qfQ.1, qaj, qak, qag]), qmD.1, qlD.1, qdF.1, qd1.1, k67_⟩)
    skip
    refine qkl ?hg (N := 5) ?hd (cs := #[.string (⟨#[]⟩ : ByteArray), .int .i64 0]) (t := 99) ?hr ?_; (case hd => rfl); (case hg => rfl); (case hr => exact qa1); intro qex hg w28 hbox hb; have HS0_ := (hb.cell (World.block_lt_of_cell? _ _ (hHeld.1))).trans (hHeld.1); have HS1_ := (hb.cell (World.block_lt_of_cell? _ _ (hHeld.2))).trans (hHeld.2); replace qdp := qdp.mw hb; have qfQ := ak_ (hbox); have qmD := ak_ ((by rw [hg]; exact (qab qcw) : w.heap.size ≤ qex)); have qlD := ak_ ((by rw [hg]; exact (qab qcw) : w.heap.size ≤ qex)); replace HB := ak_ (qaa qcw hb); have qdF := ak_ (qas.ne hg); have qd1 := ak_ (qas.ne hg).symm; replace qas := ak_ (qap qmg hb); clear hb hbox hg; refine hK.out _ _ ⟨HS0_, HS1_⟩ (fun hHeld => ?_); clear hK K; refine nm_ 5 ?_; refine qfC (i := 6) (N := some 23) (rA_ [7, 1, 1, 1]) rfl rfl (qcJ HT_.out (by kernel_rfl)) (by decide) (fun K hK => ?_); refine qfN Tryz.func95 (by kernel_rfl) rfl #[.string (qgE ByteArray.empty qaQ 1)] (by rfl) rfl rfl qbJ ?_
    with_reducible refine (qaW.calls kj2 (qgE ByteArray.empty qaQ 1) t107 _ A12.1).mono ?_
    rintro e w' ⟨rfl, ⟨nd, rfl⟩⟩; refine ⟨_, rfl, ?_⟩; refine hK.out _ _ ⟨hHeld.1, hHeld.2⟩ (fun hHeld => ?_); clear hK K; refine nm_ 23 ?_; refine pu_ 7 24 [9, 1] ?_; exact qeB qrs (hCont (qex) _ ⟨hHeld, qkq, qmg, (by apply_rules only [qfQ.1, qaj, qak, qag]), qmD.1, qlD.1, qdF.1, qd1.1, k67_⟩)
   rintro qex w29 ⟨hS_, h0_, h1_, h2_, h3_, h4_, h5_, h6_, h7_⟩
   have n0_ : qai (Kd.R Kd.string 9 w29 w.heap.size (fun _ => True) (.slice (some qeq) qaQ.length co27) qaQ) := ⟨h0_⟩
   have n1_ : qai (w29.heap[qbD]? = some (.cells #[.string (⟨#[]⟩ : ByteArray), .int .i64 0] 99 (0, 0))) := ⟨h1_⟩
   have n2_ : qai (w29.heap[qex]? = some (.cells #[.string (⟨#[]⟩ : ByteArray), .int .i64 0] 99 (0, 0))) := ⟨h2_⟩
   have n3_ : qai (w.heap.size ≤ qex) := ⟨h3_⟩
   have n4_ : qai (w.heap.size ≤ qex) := ⟨h4_⟩
   have n5_ : qai (qbD ≠ qex) := ⟨h5_⟩
   have n6_ : qai (qex ≠ qbD) := ⟨h6_⟩
   have n7_ : qai (Below w.heap.size w w29) := ⟨h7_⟩
   clear qdp; clear qas; clear HB; clear h0_ h1_ h2_ h3_ h4_ h5_ h6_ h7_; have qdp := n0_; have qas := n1_; have qfQ := n2_; have qmD := n3_; have qlD := n4_; have qdF := n5_; have qd1 := n6_; have HB := n7_; clear n0_ n1_ n2_ n3_ n4_ n5_ n6_ n7_; have hHeld : w29.cell? qeq = some (.string (qgE ByteArray.empty qaQ 0)) ∧ w29.cell? ⟨qeq.block, qeq.off + 1, none⟩ = some (.string (qgE ByteArray.empty qaQ 1)) := hS_; refine qeB (a' := ?_) ?_ ?_; rotate_left
   ·simp only [qi4, Act.put, List.setIfInBounds_toArray, List.set_cons_zero, List.set_cons_succ]; rfl
   refine qfC (i := 9) (N := none) (rA_ [10]) rfl rfl (qcJ HT_.out (by kernel_rfl)) (by decide) (fun K hK => ?_); obtain ⟨hs30, hfs30⟩ := qcx qfQ.1; have hns30_0 := qdF.1; have hms30_0 := qd1.1; have hs31 := qbA qfQ.1; have hfs31 := qae qfQ.1 1; have hns31_0 := qdF.1; have hms31_0 := qd1.1; refine skip_ (w1 := ?_) (by rfl) rfl ?_ ?_; rotate_left
   ·go_simp; rfl
   refine hK.out _ _ ⟨((cell_far (p := ⟨qex, _, none⟩) k17_ _).trans (((cell_far (p := ⟨qex, _, none⟩) k17_ _).trans (hHeld.1)))), ((cell_far (p := ⟨qex, _, none⟩) k17_ _).trans (((cell_far (p := ⟨qex, _, none⟩) k17_ _).trans (hHeld.2))))⟩ (fun hHeld => ?_); clear hK K; refine qf5 (qeh HT_.out (by kernel_rfl)) ?_; have hnb32 := qd1.1; have hnc32 := qdF.1; obtain ⟨hcz33_0, hcz33_1, hfz33_0, hfz33_1⟩ := qbl qfQ.1
   try go_wp2_with (first | (refine gl_ 26 Tryz.func174 #[.agg #[.string (qgE ByteArray.empty qaQ 0), .int .i64 t107]] rfl qbJ ?_; (with_reducible refine (qdy.calls kj2 (qgE ByteArray.empty qaQ 0) t107 false _ A13.1).mono ?_); rintro e w34 ⟨rfl, hb⟩; refine ⟨_, rfl, ?_⟩; replace qdp := ak_ (Kd.qbs k9_ hb); replace qas := ak_ (qap (g := qbD) (o := .cells #[.string (⟨#[]⟩ : ByteArray), .int .i64 0] 99 (0, 0)) k10_ hb); replace qfQ := ak_ (qap (g := qex) (o := .cells #[.string (qgE ByteArray.empty qaQ 0), .int .i64 t107] 99 (0, 0)) k0_ hb); replace HB := ak_ (qaa k67_ hb); (try clear hb); obtain ⟨hcz35_0, hcz35_1, hfz35_0, hfz35_1⟩ := qbl qas.1))
   refine bodyPost_ret (qe6 rfl _ _ qbD 99 #[.string (⟨#[]⟩ : ByteArray), .int .i64 0] (0, 0) _ rfl k1_ Tryz.underlying99 rfl (by kernel_rfl)) rfl ?_; exact ⟨qca, k67_⟩
def qcK.l0 : Nat → ByteArray → Int → Int → Nat → Option Bool
  | 0, _, _, _, _ => none
  | k + 1, s, e, t, pos => if pos < s.size then (if bt s pos < 128 then (if bt s pos = 111 then ((qcB.f (wrap64 ((pos : Int) + 1)) e).bind fun q => (if q = t then some false else qcK.l0 k s e t (pos + 1))) else qcK.l0 k s e t (pos + 1)) else none) else some true
def qcK.f (k : Nat) (a0 : ByteArray) (qkc : Int) (qgW : Int) : Option (Bool) := qcK.l0 k a0 qkc qgW 0
theorem qqj (s : ByteArray) (pos : Nat) (h : pos < s.size) : ((s[pos]'h).toNat : Int) = bt s pos := by
  exact qeu s (pos : Int) h
theorem qcK.calls (k : Nat) (a0 : ByteArray) (qkc : Int) (qgW : Int) (r : Bool) (w : World) (h : qcK.f k a0 qkc qgW = some r) :
    Calls Tryz.prog 247 #[.string a0, .agg #[.int .i64 qkc, .int .i64 qgW]] w fun e w' => e = .returned (.bool r) ∧ Below w.heap.size w w' := by
  have hu := Tryz.underlying85; have H : qcK.l0 k a0 qkc qgW 0 = some r := h; clear h; have H' := ak_ H; clear H; go_enter Tryz.func247, Tryz.ntmps247; go_wp2
  go_loopg [] k (fun kq wx => ∃ pos : Nat, wx.heap[w.heap.size + 1]? = some (.stringIter a0 pos) ∧ qai (Below w.heap.size w wx) ∧ wx.cell? ⟨w.heap.size, 0, none⟩ = some (.int .i64 qkc) ∧ wx.cell? ⟨w.heap.size, 1, none⟩ = some (.int .i64 qgW) ∧ qai (qcK.l0 kq a0 qkc qgW pos = some r) ∧ qai (kq ≤ k))
  case atStart =>
    have hb_ : Below (w.heap.size + 1) (w.alloc (Obj.cells #[Value.int IntKind.i64 qkc, Value.int IntKind.i64 qgW] 85)) ((w.alloc (Obj.cells #[Value.int IntKind.i64 qkc, Value.int IntKind.i64 qgW] 85)).iter a0 0) := (Below.refl _ _).alloc (by simp) _; exact ⟨0, by have h_ := World.iter_heap (w.alloc (Obj.cells #[Value.int IntKind.i64 qkc, Value.int IntKind.i64 qgW] 85)) a0 0; simpa using h_, ⟨((Below.refl _ w).alloc (Nat.le_refl _) _).alloc (by simp) _⟩, (hb_.cell (p := ⟨w.heap.size, 0, none⟩) (by simp)).trans (by simp), (hb_.cell (p := ⟨w.heap.size, 1, none⟩) (by simp)).trans (by simp), H', ⟨Nat.le_refl _⟩⟩
  case round =>
    clear H'; obtain ⟨pos, hit, HB, hc0, hc1, HA, HK⟩ := hrel
    cases gk with
    | zero => exact absurd HA.1 (by simp [qcK.l0])
    | succ k1 =>
      have H := HA.1; clear HA; simp only [qcK.l0] at H; by_cases hps : pos < a0.size; rotate_left
      ·rw [if_neg hps] at H
       have hnx : ∀ ty, (Instr.next (.pointer (some ⟨w.heap.size + 1, 0, none⟩)) true ty).run Tryz.prog wr = _ := fun ty => Lib.run_next_end_at wr (w.heap.size + 1) a0 pos ty hit hps
       obtain rfl := sj_ H; go_wp2
       go_ret
       exact ⟨rfl, HB.1⟩
      rw [if_pos hps] at H; by_cases ha : bt a0 pos < 128; rotate_left
      ·rw [if_neg ha] at H; exact absurd H (by simp)
      rw [if_pos ha] at H
      have hnx : ∀ ty, (Instr.next (.pointer (some ⟨w.heap.size + 1, 0, none⟩)) true ty).run Tryz.prog wr = _ := fun ty => Lib.run_next_ascii_at wr (w.heap.size + 1) a0 pos ty hit hps (by have := qqj a0 pos hps; omega)
      have hit2 := Lib.iterAt_heap wr (w.heap.size + 1) a0 pos (pos + 1) hit; have hbw2 := Lib.below_iterAt HB.1 (k := w.heap.size + 1) (by omega) a0 (pos + 1); have hb3 := Lib.below_iterAt (Below.refl (w.heap.size + 1) wr) (k := w.heap.size + 1) (by omega) a0 (pos + 1); have hd0 := (hb3.cell (p := ⟨w.heap.size, 0, none⟩) (by simp)).trans hc0; have hd1 := (hb3.cell (p := ⟨w.heap.size, 1, none⟩) (by simp)).trans hc1
      obtain ⟨W, hWd⟩ : ∃ W, wr.iterAt (w.heap.size + 1) a0 (pos + 1) = W := ⟨_, rfl⟩
      rw [hWd] at hnx hit2 hbw2 hd0 hd1; clear hb3 hc0 hc1 hit hWd HB ha; have HB := ak_ hbw2; have HI := ak_ hit2; clear hbw2 hit2; have hx6 := qqj a0 pos; have p6 := eq_true (show 0 ≤ ((pos : Nat) : Int) by omega); have q6 := eq_true (show ((pos : Nat) : Int) < (a0.size : Int) by omega)
      try clear c4
      by_cases c11 : (bt a0 pos) = 111; rotate_left
      ·rw [if_neg c11] at H; have qgK : ((bt a0 pos) == 111) = false := beq_eq_false_iff_ne.mpr c11; have qhM : ((bt a0 pos) != 111) = true := bne_iff_ne.mpr c11; have H' := ak_ H; clear H; go_wp2
       go_quiet (fail)
       go_wp2
       go_roundg k1
       case measure => have := HK.1; omega
       case rel => exact ⟨pos + 1, by simpa using HI.1, ⟨qaf HB.1 _⟩, by simpa using hd0, by simpa using hd1, H', ⟨by have := HK.1; omega⟩⟩
      rw [if_pos c11] at H; have qgK : ((bt a0 pos) == 111) = true := beq_iff_eq.mpr c11; have qhM : ((bt a0 pos) != 111) = false := bne_eq_false_iff_eq.mpr c11; clear c11; replace H := Option.bind_eq_some_iff.mp H; obtain ⟨q, A20, H⟩ := H; have HM := ak_ (fun W => qcB.calls (wrap64 ((pos : Int) + 1)) qkc q W A20); clear A20; by_cases c12 : q = qgW
      ·rw [if_pos c12] at H; have qhN : (q == qgW) = true := beq_iff_eq.mpr c12; obtain rfl := sj_ H; clear H c12; go_wp2
       go_quiet ((go_at_call 154; exact Calls.quiet_of ((HM.1 _).mono (fun e w' h => ⟨h.1, h.2.1⟩))))
       go_wp2
       go_ret
       exact ⟨rfl, qaf HB.1 _⟩
      rw [if_neg c12] at H; have qhN : (q == qgW) = false := beq_eq_false_iff_ne.mpr c12; have H' := ak_ H; clear H c12; go_wp2
      go_quiet ((go_at_call 154; exact Calls.quiet_of ((HM.1 _).mono (fun e w' h => ⟨h.1, h.2.1⟩))))
      go_wp2
      go_roundg k1
      case measure => have := HK.1; omega
      case rel => exact ⟨pos + 1, by simpa using HI.1, ⟨qaf HB.1 _⟩, by simpa using hd0, by simpa using hd1, H', ⟨by have := HK.1; omega⟩⟩
def qch.l0 : Nat → ByteArray → List qac → Nat → Option Bool
  | 0, _, _, _ => none
  | k + 1, s, l, pos => if pos < s.size then (if bt s pos < 128 then (if bt s pos = 120 then ((qcj.f k l (wrap64 ((pos : Int) + 1))).bind fun q => (if q = true then some false else qch.l0 k s l (pos + 1))) else qch.l0 k s l (pos + 1)) else none) else some true
def qch.f (k : Nat) (a0 : ByteArray) (l1 : List (qac)) : Option (Bool) := qch.l0 k a0 l1 0
theorem qch.calls (k : Nat) (a0 : ByteArray) (A1 : Option Addr) (c1 : Nat) (l1 : List (qac)) (r : Bool) (w : World) (hr1 : Kd.C qaG w A1 l1.length l1) (hc1 : l1.length ≤ c1) (h : qch.f k a0 l1 = some r) :
    Calls Tryz.prog 246 #[.string a0, .slice A1 l1.length c1] w fun e w' => e = .returned (.bool r) ∧ Below w.heap.size w w' := by
  have HR := ak_ hr1; have HC := ak_ hc1; clear hr1 hc1; have H : qch.l0 k a0 l1 0 = some r := h; clear h; have H' := ak_ H; clear H; go_enter Tryz.func246, Tryz.ntmps246; go_wp2
  go_loopg [] k (fun kq wx => ∃ pos : Nat, wx.heap[w.heap.size]? = some (.stringIter a0 pos) ∧ qai (Below w.heap.size w wx) ∧ qai (qch.l0 kq a0 l1 pos = some r) ∧ qai (kq ≤ k))
  case atStart => exact ⟨0, World.iter_heap w a0 0, ⟨(Below.refl _ w).alloc (Nat.le_refl _) _⟩, H', ⟨Nat.le_refl _⟩⟩
  case round =>
    clear H'; obtain ⟨pos, hit, HB, HA, HK⟩ := hrel
    cases gk with
    | zero => exact absurd HA.1 (by simp [qch.l0])
    | succ k1 =>
      have H := HA.1; clear HA; simp only [qch.l0] at H; by_cases hps : pos < a0.size; rotate_left
      ·rw [if_neg hps] at H
       have hnx : ∀ ty, (Instr.next (.pointer (some ⟨w.heap.size, 0, none⟩)) true ty).run Tryz.prog wr = _ := fun ty => Lib.run_next_end_at wr w.heap.size a0 pos ty hit hps
       obtain rfl := sj_ H; go_wp2
       go_ret
       exact ⟨rfl, HB.1⟩
      rw [if_pos hps] at H; by_cases ha : bt a0 pos < 128; rotate_left
      ·rw [if_neg ha] at H; exact absurd H (by simp)
      rw [if_pos ha] at H
      have hnx : ∀ ty, (Instr.next (.pointer (some ⟨w.heap.size, 0, none⟩)) true ty).run Tryz.prog wr = _ := fun ty => Lib.run_next_ascii_at wr w.heap.size a0 pos ty hit hps (by have := qqj a0 pos hps; omega)
      have hit2 := Lib.iterAt_heap wr w.heap.size a0 pos (pos + 1) hit; have hbw2 := Lib.below_iterAt HB.1 (k := w.heap.size) (Nat.le_refl _) a0 (pos + 1)
      obtain ⟨W, hWd⟩ : ∃ W, wr.iterAt w.heap.size a0 (pos + 1) = W := ⟨_, rfl⟩
      rw [hWd] at hnx hit2 hbw2; have hltW : w.heap.size < W.heap.size := (Array.getElem?_eq_some_iff.1 hit2).1; clear hit hWd HB ha; have HB := ak_ hbw2; have HI := ak_ hit2; clear hbw2 hit2; have hx6 := qqj a0 pos; have p6 := eq_true (show 0 ≤ ((pos : Nat) : Int) by omega); have q6 := eq_true (show ((pos : Nat) : Int) < (a0.size : Int) by omega); by_cases c11 : (bt a0 pos) = 120; rotate_left
      ·rw [if_neg c11] at H; have qgK : ((bt a0 pos) == 120) = false := beq_eq_false_iff_ne.mpr c11; have qhM : ((bt a0 pos) != 120) = true := bne_iff_ne.mpr c11; have H' := ak_ H; clear H; go_wp2
       go_roundg k1
       case measure => have := HK.1; omega
       case rel => exact ⟨pos + 1, HI.1, HB, H', ⟨by have := HK.1; omega⟩⟩
      rw [if_pos c11] at H; have qgK : ((bt a0 pos) == 120) = true := beq_iff_eq.mpr c11; have qhM : ((bt a0 pos) != 120) = false := bne_eq_false_iff_eq.mpr c11; clear c11; replace H := Option.bind_eq_some_iff.mp H; obtain ⟨q, A20, H⟩ := H; have HM := ak_ (qcj.calls k1 A1 c1 l1 (wrap64 ((pos : Int) + 1)) q W (Kd.qd0 HR.1 HB.1) HC.1 A20); clear A20
      cases q with
      | true =>
        rw [if_pos rfl] at H; obtain rfl := sj_ H; clear H
        go_wp2_with (go_at_call 173; refine HM.1.mono ?_; rintro e W' ⟨rfl, hbc⟩)
        go_ret
        exact ⟨rfl, HB.1.trans (hbc.mono HB.1.size)⟩
      | false =>
        rw [if_neg (by decide)] at H; have H' := ak_ H; clear H
        go_wp2_with (go_at_call 173; refine HM.1.mono ?_; rintro e W' ⟨rfl, hbc⟩)
        go_roundg k1
        case measure => have := HK.1; omega
        case rel => exact ⟨pos + 1, (hbc.block _ hltW).trans HI.1, ⟨HB.1.trans (hbc.mono HB.1.size)⟩, H', ⟨by have := HK.1; omega⟩⟩
mutual
def qb4.f : Nat → ByteArray → List qac → List qac → Int → List (List qac) → Option (List (List qac))
  | 0, _, _, _, _, _ => none
  | k + 1, p, fit, rules, left, out => if left = 0 then ((qch.f k p rules).bind fun t => if t = true then (if out.length < 5864062014805 then (if rules.length < 8796093022207 then some (out ++ [rules]) else none) else none) else some out) else qb4.l0 k p fit rules left out 0
def qb4.l0 : Nat → ByteArray → List qac → List qac → Int → List (List qac) → Nat → Option (List (List qac))
  | 0, _, _, _, _, _, _ => none
  | k + 1, p, fit, rules, left, out, i => if i < fit.length then (if 300 < out.length then some out else (if rules.length < 8796093022207 then ((qb4.f k p (fit.drop (i + 1)) (rules ++ [qad fit i]) (wrap64 (left - 1)) out).bind fun o => qb4.l0 k p fit rules left o (i + 1)) else none)) else some out
end
theorem qro : (Tryz.prog.info? 26).map (fun i => (i.zero, i.size, i.bytes)) = some (some (.slice none 0 0), 1, 24) := by kernel_rfl
theorem qb4.own (k : Nat) : ∀ (p : ByteArray) (fit rules : List qac) (left : Int) (out r : List (List qac)) (A1 : Option Addr) (c1 : Nat) (A2 : Option Addr) (c2 : Nat) (vo : Value) (w0 w : World)
    (_ : ∀ W', w.grownBy W' vo.ownBlock → Kd.C qaG W' A1 fit.length fit) (_ : fit.length ≤ c1) (_ : ∀ W', w.grownBy W' vo.ownBlock → Kd.C qaG W' A2 rules.length rules) (_ : rules.length ≤ c2)
    (_ : Kd.S (Kd.slice 85 qaG) 26 w w0.heap.size (fun _ => True) vo out) (_ : Below w0.heap.size w0 w) (_ : qb4.f k p fit rules left out = some r),
    Calls Tryz.prog 213 #[.string p, .slice A1 fit.length c1, .slice A2 rules.length c2, .int .i64 left, vo] w fun e w' => ∃ v1, e = .returned v1 ∧ qeP w0 w vo v1 r w' := by
  induction k using Nat.strongRecOn with
  | ind k ih =>
  intro p fit rules left out r A1 c1 A2 c2 vo w0 w h1 hc1 h2 hc2 hS hB h; have IH := ak_ ih; have H1 := ak_ h1; have HC1 := ak_ hc1; have H2 := ak_ h2; have HC2 := ak_ hc2; have HP := ak_ (qeP.refl hS hB); have HB := ak_ hB; have HS0 := ak_ (Kd.qgz (Kd.qmH hS) (fun _ hk => hk.2.2.1)); have HVO := ak_ (Kd.S_lt hS); obtain ⟨Ao, co, eo⟩ := Kd.qdT hS; subst eo; clear ih h1 hc1 h2 hc2 hS hB
  cases k with
  | zero => exact absurd h (by simp [qb4.f])
  | succ k =>
    simp only [qb4.f] at h; by_cases c1_ : left = 0
    ·rw [if_pos c1_] at h; have c1b : (left == 0) = true := beq_iff_eq.mpr c1_; clear c1_; replace h := Option.bind_eq_some_iff.mp h; obtain ⟨t, A0_, h⟩ := h; have A_ := ak_ A0_; clear A0_
     cases t with
     | true =>
       rw [if_pos rfl] at h; by_cases c2_ : out.length < 5864062014805; rotate_left
       ·rw [if_neg c2_] at h; exact absurd h (by simp)
       rw [if_pos c2_] at h; have HLO := ak_ c2_; clear c2_; by_cases c3_ : rules.length < 8796093022207; rotate_left
       ·rw [if_neg c3_] at h; exact absurd h (by simp)
       rw [if_pos c3_] at h; have HLB := ak_ c3_; clear c3_; have HR := ak_ (Option.some.inj h); clear h; go_enter Tryz.func213, Tryz.ntmps213
       go_wp2_with (first | (refine gl_ 17 Tryz.func246 #[.string p, .slice A2 rules.length c2] rfl qb6 ?_; (with_reducible refine (qch.calls k p _ _ rules true _ ?qaz ?qaA A_.1).mono ?_); (case qaz => exact H2.1 _ (qej (Below.refl _ _) _)); (case qaA => exact HC2.1); rintro e w1 ⟨rfl, hb⟩; refine ⟨_, rfl, ?_⟩; have HB1 := ak_ hb; have HS1 := ak_ (H2.1 _ (qej hb _)); clear hb) | ((with_reducible refine qam (N := 19) rfl ?_); refine Kd.qhH qaG _ 85 ?hg (N := 19) ?hd (xs := ([] : List qac)) (inner := []) (ok := fun _ => True) (okp := fun _ => True) ?hr ?hp (fun _ hk => hk) trivial (Below.refl _ _) (Nat.le_refl _) (by simp) ?_; (case hd => rfl); (case hg => rfl); (case hr => exact qa1); (case hp => exact qep.none _ _); intro v19 w2 ho hb hg_ hnew_; clear hg_ hnew_; have HL0 := ak_ ho; have HB2 := ak_ hb; clear ho hb) | ((with_reducible refine qa5 (b := .append) (xs := #[.tmp 19, .tmp 20]) rfl ?_); at_builtin; refine Kd.qdS qaG (w0 := w1) w1.heap.size rfl (.tmp 19) (.tmp 20) 26 85 (.agg #[(.int .i64 0), (.int .i64 0)]) 16 rfl Tryz.underlying26 qcX rfl (by decide) (by omega) v19 ([] : List qac) rules _ _ _ (fun _ => True) (fun _ => False) rfl rfl ?aO ?aR (fun _ _ h => h) (fun _ h => h.elim) (fun _ _ => trivial) ?aB ?aS ?aL ?_; (case aO => exact HL0.1); (case aR => exact Kd.qd0 HS1.1 HB2.1); (case aB => exact HB2.1); (case aS => exact qab HB2.1); (case aL => have h_ := HLB.1; simp only [List.length_nil]; omega); intro v21 w3 ho hb hg_ hat_; clear hg_ hat_; simp only [List.nil_append] at ho; have HL := ak_ ho; have HB3 := ak_ hb; clear HL0 HB2 ho hb; obtain ⟨A21, c21, e21⟩ := Kd.qaI HL.1; subst e21) | ((with_reducible refine qa5 (b := .append) (xs := #[.tmp 18, .tmp 22]) rfl ?_); at_builtin; refine Kd.qkk (Kd.slice 85 qaG) (w0 := w0) w0.heap.size rfl (.tmp 18) (.tmp 22) 145 26 (.slice none 0 0) 24 rfl Tryz.underlying145 qro rfl (by decide) (by omega) (.slice Ao out.length co) out rules [.slice A21 rules.length c21] (fun _ => True) (fun k_ => some k_ = (.slice A21 rules.length c21 : Value).ownBlock) rfl rfl ?aP ?aK (fun _ _ => trivial) ?aO ?aB ?aS ?aL ?_; (case aP => exact Kd.M_row (Kd.qhJ rfl (Kd.qaw HL.1 (Nat.le_trans HB.1.size HB1.1.size)))); (case aK => exact (fun k_ hk => ⟨trivial, fun e_ => by have h1_ := Kd.qfm HL.1 k_ hk.symm; have h2_ := HVO.1 k_ e_.symm; have h3_ := HB1.1.size; omega⟩)); (case aO => exact Kd.qgz (Kd.qg3 HS0.1 (qaa HB1.1 HB3.1)) (fun k_ hk => ⟨trivial, fun e_ => by have h1_ := Kd.qfm HL.1 k_ e_.symm; have h3_ := HB1.1.size; omega⟩)); (case aB => exact qaa (qaa HB.1 HB1.1) HB3.1); (case aS => exact qab (qaa (qaa HB.1 HB1.1) HB3.1)); (case aL => have h_ := HLO.1; omega); intro v1 w4 ho hb hg hat; have HFIN := ak_ (show qeP w0 w (.slice Ao out.length co) v1 (out ++ [rules]) w4 from ⟨ho, hb, qnF (qaa HB1.1 HB3.1) hg, hat.imp id (fun ⟨b_, e_, hb_⟩ => ⟨b_, e_, Nat.le_trans (qaa HB1.1 HB3.1).size hb_⟩)⟩); clear ho hb hg hat))
       go_ret
       exact ⟨_, rfl, by rw [← HR.1]; exact HFIN.1⟩
     | false =>
       rw [if_neg (by decide)] at h; have HR := ak_ (Option.some.inj h); clear h; go_enter Tryz.func213, Tryz.ntmps213
       go_wp2_with ((refine gl_ 17 Tryz.func246 #[.string p, .slice A2 rules.length c2] rfl qb6 ?_; (with_reducible refine (qch.calls k p _ _ rules false _ ?qaz ?qaA A_.1).mono ?_); (case qaz => exact H2.1 _ (qej (Below.refl _ _) _)); (case qaA => exact HC2.1); rintro e w1 ⟨rfl, hb⟩; refine ⟨_, rfl, ?_⟩; have HP1 := ak_ (qeP.below HP.1 hb); clear HP hb))
       go_ret
       exact ⟨_, rfl, by rw [← HR.1]; exact HP1.1⟩
    rw [if_neg c1_] at h; have c1b : (left == 0) = false := beq_eq_false_iff_ne.mpr c1_; clear c1_; have H' := ak_ h; clear h; go_enter Tryz.func213, Tryz.ntmps213; go_wp2
    go_loopg [4, 27] k (fun kq v4 v27 wx => ∃ (o : List (List qac)) (i : Nat), v27 = .int .i64 i ∧ qai (qb4.l0 kq p fit rules left o i = some r) ∧ qai (kq ≤ k) ∧ qai (qeP w0 w (.slice Ao out.length co) v4 o wx))
    case atStart => exact ⟨out, 0, rfl, H', ⟨Nat.le_refl _⟩, HP⟩
    case round =>
      clear H' HP; obtain ⟨o, i, rfl, HA_, HK, HPS⟩ := hrel
      cases gk with
      | zero => exact absurd HA_.1 (by simp [qb4.l0])
      | succ k1 =>
        have H := HA_.1; clear HA_; simp only [qb4.l0] at H; by_cases c1_ : i < fit.length; rotate_left
        ·rw [if_neg c1_] at H; have c1b : decide ((i : Int) < (fit.length : Int)) = false := decide_eq_false (by omega); have c1c := decide_eq_false c1_; clear c1_; have HR := ak_ (sj_ H); clear H; go_wp2
         go_ret
         exact ⟨_, rfl, by rw [← HR.1]; exact HPS.1⟩
        rw [if_pos c1_] at H; have c1b : decide ((i : Int) < (fit.length : Int)) = true := decide_eq_true (by omega); have c1c := decide_eq_true c1_; obtain ⟨ad, e_, hx0, hx1⟩ := qc6 (H1.1 _ HPS.1.2.2.1) (i : Int) (by omega) (by omega)
        cases e_
        simp only [Int.toNat_natCast] at hx0 hx1
        have c1z : (i : Int) < (fit.length : Int) := by omega
        by_cases c2_ : 300 < o.length
        ·rw [if_pos c2_] at H; have c2b : decide ((300 : Int) < (o.length : Int)) = true := decide_eq_true (by omega); have c2c := decide_eq_true c2_; clear c2_; have HR := ak_ (sj_ H); clear H; obtain ⟨Aq, cq, eq_⟩ := Kd.qdT HPS.1.1; subst eq_
         go_wp2_with ((with_reducible refine qam (N := 12) rfl ?_); refine bx_ 12 rfl (cs := #[.int .i64 0, .int .i64 0]) (t := 85) qa1 ?_; intro g12 hg w20 hbox hb; have BK := ak_ hbox; have HBx0 := ak_ hb; have HG := ak_ (Nat.le_of_eq hg.symm); have hcz0 : w20.cell? ⟨g12, 0, none⟩ = some (.int .i64 0) := (qba hbox 0).trans rfl; have hcz1 : w20.cell? ⟨g12, 1, none⟩ = some (.int .i64 0) := (qba hbox 1).trans rfl; have hfz0 := qae hbox 0; have hfz1 := qae hbox 1; clear hbox hb hg)
         go_ret
         exact ⟨_, rfl, by rw [← HR.1]; exact qeP.below HPS.1 (qat (qat HBx0.1 HG.1) HG.1)⟩
        rw [if_neg c2_] at H; have c2b : decide ((300 : Int) < (o.length : Int)) = false := decide_eq_false (by omega); have c2c := decide_eq_false c2_; clear c2_; obtain ⟨c3_, H⟩ := qct H; have HLB := ak_ c3_; clear c3_; replace H := Option.bind_eq_some_iff.mp H; obtain ⟨o2, A0_, H⟩ := H
        obtain ⟨fd, hfd⟩ : ∃ l_, l_ = fit.drop (i + 1) := ⟨_, rfl⟩
        rw [← hfd] at A0_; have A_ := ak_ A0_; have H' := ak_ H; clear A0_ H; have HV := ak_ (Kd.S_lt HPS.1.1); obtain ⟨Aq, cq, eq_⟩ := Kd.qdT HPS.1.1; subst eq_; have hfl : fit.length ≤ 9223372036854775807 := Kd.C_max (H1.1 _ HPS.1.2.2.1); have hil : (i : Int) < (fit.length : Int) := of_decide_eq_true c1b
        have hw_ : (wrap64 ((i : Int) + 1)).toNat = i + 1 := by unfold wrap64; omega
        have hw0_ : 0 ≤ wrap64 ((i : Int) + 1) := by unfold wrap64; omega
        have hw1_ : wrap64 ((i : Int) + 1) ≤ (fit.length : Int) := by unfold wrap64; omega
        obtain ⟨A39, hA39⟩ : ∃ a_, a_ = (if c1 = i + 1 then some ad else (some ad : Option Addr).map (·.add ((i + 1) * 2))) := ⟨_, rfl⟩
        obtain ⟨c39, hc39⟩ : ∃ a_, a_ = c1 - (i + 1) := ⟨_, rfl⟩
        obtain ⟨i0_, qoK, _, hsz_, _⟩ := info_parts qcX
        have hcut : ∀ W : World, (Instr.slice 26 (.slice (some ad) fit.length c1) (some (.int .i64 (wrap64 ((i : Int) + 1)))) none none).run Tryz.prog W = .ok (.slice A39 fd.length c39) W := by
          intro W; have h := qkn (P := Tryz.prog) 26 85 .i64 Tryz.underlying26 qoK 2 hsz_ (some ad) fit.length c1 (wrap64 ((i : Int) + 1)) hw0_ hw1_ W; rw [hw_] at h; rw [h, hA39, hc39, hfd, List.length_drop]
        have HF2 := ak_ (show ∀ W' : World, Kd.C qaG W' (some ad) fit.length fit → Kd.C qaG W' A39 fd.length fd from fun W' h_ => by rw [hA39, hfd]; exact Kd.C_drop h_ (by omega) HC1.1); have HC39 := ak_ (show fd.length ≤ c39 by rw [hc39, hfd, List.length_drop]; have := HC1.1; omega); clear hw_ hw0_ hw1_ hA39 hc39 qoK hsz_ hfd
        go_wp2_with ((with_reducible refine qam (N := 12) rfl ?_); refine bx_ 12 rfl (cs := #[.int .i64 0, .int .i64 0]) (t := 85) qa1 ?_; intro g12 hg w20 hbox hb; have BK := ak_ hbox; have HBx0 := ak_ hb; have HG := ak_ (Nat.le_of_eq hg.symm); have hcz0 : w20.cell? ⟨g12, 0, none⟩ = some (.int .i64 0) := (qba hbox 0).trans rfl; have hcz1 : w20.cell? ⟨g12, 1, none⟩ = some (.int .i64 0) := (qba hbox 1).trans rfl; have hfz0 := qae hbox 0; have hfz1 := qae hbox 1; clear hbox hb hg)
        have hk7_ := qa9 (qa9 BK.1 0 (.int .i64 (qad fit i).f0) rfl) 1 (.int .i64 (qad fit i).f1) rfl; have HX0 := ak_ (show (((w20.setCell ⟨g12, 0, none⟩ (.int .i64 (qad fit i).f0)).setCell ⟨g12, 1, none⟩ (.int .i64 (qad fit i).f1)).drew).cell? ⟨g12, 0, none⟩ = some (.int .i64 (qad fit i).f0) from (qba (qak hk7_) 0).trans rfl); have HX1 := ak_ (show (((w20.setCell ⟨g12, 0, none⟩ (.int .i64 (qad fit i).f0)).setCell ⟨g12, 1, none⟩ (.int .i64 (qad fit i).f1)).drew).cell? ⟨g12, 1, none⟩ = some (.int .i64 (qad fit i).f1) from (qba (qak hk7_) 1).trans rfl); have HBx := ak_ (show Below wr.heap.size wr ((w20.setCell ⟨g12, 0, none⟩ (.int .i64 (qad fit i).f0)).setCell ⟨g12, 1, none⟩ (.int .i64 (qad fit i).f1)).drew from qah (qat (qat HBx0.1 HG.1) HG.1)); clear hk7_ hcz0 hcz1 hfz0 hfz1 BK HBx0 HG; refine qeS (n := 16) (S := fun w' => w'.cell? ⟨g12, 0, none⟩ = some (.int .i64 (qad fit i).f0) ∧ w'.cell? ⟨g12, 1, none⟩ = some (.int .i64 (qad fit i).f1)) (ds := [14]) #[false, false, false, false, false, false, false, false, false, false, false, false, false, false, false, false] (by kernel_rfl) rfl rfl ⟨HX0.1, HX1.1⟩ (fun hHeld => ?_)
        generalize ((w20.setCell ⟨g12, 0, none⟩ (.int .i64 (qad fit i).f0)).setCell ⟨g12, 1, none⟩ (.int .i64 (qad fit i).f1)).drew = wS at HX0 HX1 HBx hHeld ⊢
        have HBc := br_ wS; refine qgP (i := 0) (N := some 35) (v := ?_) (a' := ?_) #[true, false, false, false, false, false, false, false, false, false, false, false, false, false, false, false] rfl rfl (by kernel_rfl) (fun _ _ _ h => h) (Or.inl ⟨by rfl, ?_⟩) ?_ ?_; rotate_left; intro w'; go_simp; with_reducible rfl
        rotate_left; exact qm6
        refine qgP (i := 1) (N := some 36) (v := ?_) (a' := ?_) #[true, true, false, false, false, false, false, false, false, false, false, false, false, false, false, false] rfl rfl (by kernel_rfl) (fun _ _ _ h => h) (Or.inl ⟨by rfl, ?_⟩) ?_ ?_; rotate_left; intro w'; go_simp; with_reducible rfl
        rotate_left; exact qm6
        refine qgP (i := 2) (N := some 37) (v := ?_) (a' := ?_) #[true, true, true, false, false, false, false, false, false, false, false, false, false, false, false, false] rfl rfl (by kernel_rfl) (fun _ _ _ h => h) (Or.inl ⟨by rfl, ?_⟩) ?_ ?_; rotate_left; intro w'; go_simp; with_reducible rfl
        rotate_left; exact qm6
        refine qgP (i := 3) (N := some 38) (v := ?_) (a' := ?_) #[true, true, true, true, false, false, false, false, false, false, false, false, false, false, false, false] rfl rfl (by kernel_rfl) (fun _ _ _ h => h) (Or.inl ⟨by rfl, ?_⟩) ?_ ?_; rotate_left; intro w'; go_simp; with_reducible rfl
        rotate_left; exact qm6
        refine qgP (i := 4) (N := some 39) (v := ?_) (a' := ?_) #[true, true, true, true, true, false, false, false, false, false, false, false, false, false, false, false] rfl rfl (by kernel_rfl) (fun _ _ _ h => h) (Or.inl ⟨by rfl, ?_⟩) ?_ ?_; rotate_left; intro w'; go_simp; with_reducible rfl
        rotate_left; exact qm6
        refine qgP (i := 6) (N := some 41) (v := ?_) (a' := ?_) #[true, true, true, true, true, false, true, false, false, false, false, false, false, false, false, false] rfl rfl (by kernel_rfl) (fun _ _ _ h => h) (Or.inl ⟨by rfl, ?_⟩) ?_ ?_; rotate_left; intro w'; go_simp; with_reducible rfl
        rotate_left; exact qm6
        refine qgP (i := 11) (N := some 46) (v := ?_) (a' := ?_) #[true, true, true, true, true, false, true, false, false, false, false, true, false, false, false, false] rfl rfl (by kernel_rfl) (fun _ _ _ h => h) (Or.inl ⟨by rfl, ?_⟩) ?_ ?_; rotate_left; intro w'; go_simp; with_reducible rfl
        rotate_left; exact qm6
        refine qgP (i := 12) (N := some 47) (v := ?_) (a' := ?_) #[true, true, true, true, true, false, true, false, false, false, false, true, true, false, false, false] rfl rfl (by kernel_rfl) (fun _ _ _ h => h) (Or.inl ⟨by rfl, ?_⟩) ?_ ?_; rotate_left; intro w'; go_simp; with_reducible rfl
        rotate_left; exact qm6
        refine qgP (i := 13) (N := some 48) (v := ?_) (a' := ?_) #[true, true, true, true, true, false, true, false, false, false, false, true, true, true, false, false] rfl rfl (by kernel_rfl) (fun _ _ _ h => h) (Or.inl ⟨by rfl, ?_⟩) ?_ ?_; rotate_left; intro w'; go_simp; with_reducible rfl
        rotate_left; exact qm6
        refine qlP (i := 8) (N := some 43) (v := ?_) (a' := ?_) #[true, true, true, true, true, false, true, false, true, false, false, true, true, true, false, false] rfl rfl (by kernel_rfl) (fun _ _ _ h => h) (Or.inl ⟨by rfl, ?_⟩) hHeld ?_ ?_; rotate_left; rintro w' ⟨s0, s1⟩; go_simp; with_reducible rfl
        rotate_left; exact qm6
        refine qtC (σ := Value × Value × Value) 3 #[true, true, true, true, true, true, true, true, true, true, false, true, true, true, false, false] (fun s_ => [(40, s_.1), (42, s_.2.1), (44, s_.2.2)]) (fun s_ w' => Kd.R qaG 85 w' wS.heap.size (fun _ => True) s_.2.1 rules ∧ Kd.R qaG 85 w' wS.heap.size (fun _ => True) s_.2.2 [qad fit i] ∧ Below wS.heap.size wS w') ?_ ?_; rotate_left
        · intro hCont
          refine two_ (i := 5) (j := 9) (Ni := some 40) (Nj := some 44) #[true, true, true, true, true, true, true, false, true, false, false, true, true, true, false, false] #[true, true, true, true, true, false, true, false, true, true, false, true, true, true, false, false] rfl rfl rfl rfl (by kernel_rfl) (by decide) (by decide) (fun K hK => ?_) (fun K hK => ?_)
          ·skip
           refine Kd.qdJ qaG _ 85 ?hg (N := 40) ?hd (xs := ([] : List qac)) (inner := []) (ok := fun _ => True) (okp := fun _ => True) ?hr ?hp (fun _ hk => hk) trivial (Below.refl _ _) (Nat.le_refl _) (by simp) ?_
           (case hd => rfl)
           (case hg => rfl)
           (case hr => exact qa1)
           (case hp => exact qep.none _ _)
           intro v40 w5_0 ho hb hg_ hnew_; clear hg_ hnew_; have HL0 := ak_ (Kd.qaw ho (qab HBc.1)); clear ho; have n9_ := ak_ (qaa HBc.1 hb); clear HBc hb; have HBc := n9_; clear n9_; refine hK.out _ _ ⟨(qau HBc.1 HX0.1), (qau HBc.1 HX1.1)⟩ (fun hHeld => ?_); clear hK K; refine qeB (a' := ?_) ?_ ?_; rotate_left
           · show Act.put _ (some 40) _ = _
             simp only [Act.put, List.setIfInBounds_toArray, List.set_cons_zero, List.set_cons_succ, qec, qey]; rfl
           refine two_ (i := 7) (j := 9) (Ni := some 42) (Nj := some 44) #[true, true, true, true, true, true, true, true, true, false, false, true, true, true, false, false] #[true, true, true, true, true, true, true, false, true, true, false, true, true, true, false, false] rfl rfl rfl rfl (by kernel_rfl) (by decide) (by decide) (fun K hK => ?_) (fun K hK => ?_)
           ·skip
            refine Kd.qbQ qaG (w0 := wS) wS.heap.size (by rfl) (.tmp 40) (.tmp 41) 26 85 (.agg #[(.int .i64 0), (.int .i64 0)]) 16 rfl Tryz.underlying26 qcX rfl (by decide) (by omega) v40 ([] : List qac) rules _ _ _ (fun _ => True) (fun _ => False) rfl rfl HL0.1 ?aR (fun _ _ h => h) (fun _ h => h.elim) (fun _ _ => trivial) HBc.1 (qab HBc.1) ?aL ?_
            (case aR => exact H2.1 _ (qeP.below (qeP.below HPS.1 HBx.1) HBc.1).2.2.1)
            (case aL => have h_ := HLB.1; simp only [List.length_nil]; omega)
            intro v42 w7_1 ho hb hg hat_; simp only [List.nil_append] at ho; clear hg hat_ HL0 HBc; have HA := ak_ ho; have HBc := ak_ hb; clear ho hb; refine hK.out _ _ ⟨(qau HBc.1 HX0.1), (qau HBc.1 HX1.1)⟩ (fun hHeld => ?_); clear hK K; refine qeB (a' := ?_) ?_ ?_; rotate_left
            · show Act.put _ (some 42) _ = _
              simp only [Act.put, List.setIfInBounds_toArray, List.set_cons_zero, List.set_cons_succ, qec, qey]; rfl
            refine qfC (i := 9) (N := some 44) #[true, true, true, true, true, true, true, true, true, true, false, true, true, true, false, false] rfl rfl (by kernel_rfl) (by decide) (fun K hK => ?_); refine Kd.qdJ qaG _ 85 ?hg (N := 44) ?hd (xs := ([qad fit i] : List qac)) (inner := [.int .i64 (qad fit i).f0, .int .i64 (qad fit i).f1]) (ok := fun _ => True) (okp := fun _ => True) ?hr ?hp (fun _ hk => hk) trivial (Below.refl _ _) (Nat.le_refl _) (by simp) ?_
            (case hd => rfl)
            (case hg => rfl)
            (case hr => exact qa1)
            (case hp => exact qep.front (qc7 _ _ _ (qad fit i)) rfl (qep.none _ _) rfl)
            intro v44 w9_2 ho hb hg_ hnew_; clear hg_ hnew_; have n1_ := ak_ (Kd.qbs HA.1 hb); clear HA; have HA := n1_; clear n1_; have HL1 := ak_ (Kd.qaw ho (qab HBc.1)); clear ho; have n9_ := ak_ (qaa HBc.1 hb); clear HBc hb; have HBc := n9_; clear n9_; refine hK.out _ _ ⟨(qau HBc.1 HX0.1), (qau HBc.1 HX1.1)⟩ (fun hHeld => ?_); clear hK K; refine qeB (a' := ?_) ?_ ?_; rotate_left
            · show Act.put _ (some 44) _ = _
              simp only [Act.put, List.setIfInBounds_toArray, List.set_cons_zero, List.set_cons_succ, qec, qey]; rfl
            exact qeB qrs (hCont (v40, v42, v44) _ ⟨HA.1, Kd.qa2 HL1.1 (fun _ _ => trivial), HBc.1⟩)
           skip
           refine Kd.qdJ qaG _ 85 ?hg (N := 44) ?hd (xs := ([qad fit i] : List qac)) (inner := [.int .i64 (qad fit i).f0, .int .i64 (qad fit i).f1]) (ok := fun _ => True) (okp := fun _ => True) ?hr ?hp (fun _ hk => hk) trivial (Below.refl _ _) (Nat.le_refl _) (by simp) ?_
           (case hd => rfl)
           (case hg => rfl)
           (case hr => exact qa1)
           (case hp => exact qep.front (qc7 _ _ _ (qad fit i)) rfl (qep.none _ _) rfl)
           intro v44 w9_1 ho hb hg_ hnew_; clear hg_ hnew_; have HL1 := ak_ (Kd.qa2 (Kd.qaw (Kd.qhI ho (Kd.qkb HL0.1)) (qab HBc.1)) (fun _ hk => hk.2)); have n1_ := ak_ (Kd.qbs HL0.1 hb); clear HL0 ho; have HL0 := n1_; clear n1_; have n9_ := ak_ (qaa HBc.1 hb); clear HBc hb; have HBc := n9_; clear n9_; refine hK.out _ _ ⟨(qau HBc.1 HX0.1), (qau HBc.1 HX1.1)⟩ (fun hHeld => ?_); clear hK K; refine qeB (a' := ?_) ?_ ?_; rotate_left
           · show Act.put _ (some 44) _ = _
             simp only [Act.put, List.setIfInBounds_toArray, List.set_cons_zero, List.set_cons_succ, qec, qey]; rfl
           refine qfC (i := 7) (N := some 42) #[true, true, true, true, true, true, true, true, true, true, false, true, true, true, false, false] rfl rfl (by kernel_rfl) (by decide) (fun K hK => ?_); refine Kd.qbQ qaG (w0 := wS) wS.heap.size (by rfl) (.tmp 40) (.tmp 41) 26 85 (.agg #[(.int .i64 0), (.int .i64 0)]) 16 rfl Tryz.underlying26 qcX rfl (by decide) (by omega) v40 ([] : List qac) rules _ _ _ (fun _ => True) (fun _ => False) rfl rfl HL0.1 ?aR (fun _ _ h => h) (fun _ h => h.elim) (fun _ _ => trivial) HBc.1 (qab HBc.1) ?aL ?_
           (case aR => exact H2.1 _ (qeP.below (qeP.below HPS.1 HBx.1) HBc.1).2.2.1)
           (case aL => have h_ := HLB.1; simp only [List.length_nil]; omega)
           intro v42 w7_2 ho hb hg hat_; simp only [List.nil_append] at ho; have n1_ := ak_ (Kd.qjj HL1.1 hg (fun _ hk => hk)); clear HL1; have HL1 := n1_; clear n1_; clear hg hat_ HL0 HBc; have HA := ak_ ho; have HBc := ak_ hb; clear ho hb; refine hK.out _ _ ⟨(qau HBc.1 HX0.1), (qau HBc.1 HX1.1)⟩ (fun hHeld => ?_); clear hK K; refine qeB (a' := ?_) ?_ ?_; rotate_left
           · show Act.put _ (some 42) _ = _
             simp only [Act.put, List.setIfInBounds_toArray, List.set_cons_zero, List.set_cons_succ, qec, qey]; rfl
           exact qeB qrs (hCont (v40, v42, v44) _ ⟨HA.1, Kd.qa2 HL1.1 (fun _ _ => trivial), HBc.1⟩)
          skip
          refine Kd.qdJ qaG _ 85 ?hg (N := 44) ?hd (xs := ([qad fit i] : List qac)) (inner := [.int .i64 (qad fit i).f0, .int .i64 (qad fit i).f1]) (ok := fun _ => True) (okp := fun _ => True) ?hr ?hp (fun _ hk => hk) trivial (Below.refl _ _) (Nat.le_refl _) (by simp) ?_
          (case hd => rfl)
          (case hg => rfl)
          (case hr => exact qa1)
          (case hp => exact qep.front (qc7 _ _ _ (qad fit i)) rfl (qep.none _ _) rfl)
          intro v44 w9_0 ho hb hg_ hnew_; clear hg_ hnew_; have HL1 := ak_ (Kd.qaw ho (qab HBc.1)); clear ho; have n9_ := ak_ (qaa HBc.1 hb); clear HBc hb; have HBc := n9_; clear n9_; refine hK.out _ _ ⟨(qau HBc.1 HX0.1), (qau HBc.1 HX1.1)⟩ (fun hHeld => ?_); clear hK K; refine qeB (a' := ?_) ?_ ?_; rotate_left
          · show Act.put _ (some 44) _ = _
            simp only [Act.put, List.setIfInBounds_toArray, List.set_cons_zero, List.set_cons_succ, qec, qey]; rfl
          refine qfC (i := 5) (N := some 40) #[true, true, true, true, true, true, true, false, true, true, false, true, true, true, false, false] rfl rfl (by kernel_rfl) (by decide) (fun K hK => ?_); refine Kd.qdJ qaG _ 85 ?hg (N := 40) ?hd (xs := ([] : List qac)) (inner := []) (ok := fun _ => True) (okp := fun _ => True) ?hr ?hp (fun _ hk => hk) trivial (Below.refl _ _) (Nat.le_refl _) (by simp) ?_
          (case hd => rfl)
          (case hg => rfl)
          (case hr => exact qa1)
          (case hp => exact qep.none _ _)
          intro v40 w5_1 ho hb hg_ hnew_; clear hg_ hnew_; have n1_ := ak_ (Kd.qa2 (Kd.qfv HL1.1 (Kd.qfm ho) hb) (fun _ hk => hk.2)); clear HL1; have HL1 := n1_; clear n1_; have HL0 := ak_ (Kd.qaw ho (qab HBc.1)); clear ho; have n9_ := ak_ (qaa HBc.1 hb); clear HBc hb; have HBc := n9_; clear n9_; refine hK.out _ _ ⟨(qau HBc.1 HX0.1), (qau HBc.1 HX1.1)⟩ (fun hHeld => ?_); clear hK K; refine qeB (a' := ?_) ?_ ?_; rotate_left
          · show Act.put _ (some 40) _ = _
            simp only [Act.put, List.setIfInBounds_toArray, List.set_cons_zero, List.set_cons_succ, qec, qey]; rfl
          refine qfC (i := 7) (N := some 42) #[true, true, true, true, true, true, true, true, true, true, false, true, true, true, false, false] rfl rfl (by kernel_rfl) (by decide) (fun K hK => ?_); refine Kd.qbQ qaG (w0 := wS) wS.heap.size (by rfl) (.tmp 40) (.tmp 41) 26 85 (.agg #[(.int .i64 0), (.int .i64 0)]) 16 rfl Tryz.underlying26 qcX rfl (by decide) (by omega) v40 ([] : List qac) rules _ _ _ (fun _ => True) (fun _ => False) rfl rfl HL0.1 ?aR (fun _ _ h => h) (fun _ h => h.elim) (fun _ _ => trivial) HBc.1 (qab HBc.1) ?aL ?_
          (case aR => exact H2.1 _ (qeP.below (qeP.below HPS.1 HBx.1) HBc.1).2.2.1)
          (case aL => have h_ := HLB.1; simp only [List.length_nil]; omega)
          intro v42 w7_2 ho hb hg hat_; simp only [List.nil_append] at ho; have n1_ := ak_ (Kd.qjj HL1.1 hg (fun _ hk => hk)); clear HL1; have HL1 := n1_; clear n1_; clear hg hat_ HL0 HBc; have HA := ak_ ho; have HBc := ak_ hb; clear ho hb; refine hK.out _ _ ⟨(qau HBc.1 HX0.1), (qau HBc.1 HX1.1)⟩ (fun hHeld => ?_); clear hK K; refine qeB (a' := ?_) ?_ ?_; rotate_left
          · show Act.put _ (some 42) _ = _
            simp only [Act.put, List.setIfInBounds_toArray, List.set_cons_zero, List.set_cons_succ, qec, qey]; rfl
          exact qeB qrs (hCont (v40, v42, v44) _ ⟨HA.1, Kd.qa2 HL1.1 (fun _ _ => trivial), HBc.1⟩)
        rintro ⟨v40, v42, v44⟩ wJ ⟨ha_, hl_, hb_⟩; clear HBc; have HA := ak_ ha_; have HL1 := ak_ hl_; have HBc := ak_ hb_; clear ha_ hl_ hb_; obtain ⟨A44, c44, e44⟩ := Kd.qaI HL1.1; dsimp only at e44; subst e44; refine qeB (a' := ?_) ?_ ?_; rotate_left
        · simp only [qi4, Act.put, List.setIfInBounds_toArray, List.set_cons_zero, List.set_cons_succ]
          rfl
        refine qfC (i := 10) (N := some 45) #[true, true, true, true, true, true, true, true, true, true, true, true, true, true, false, false] rfl rfl (by kernel_rfl) (by decide) (fun K hK => ?_); refine Kd.qbQ qaG (w0 := wS) wS.heap.size (by rfl) (.tmp 42) (.tmp 44) 26 85 (.agg #[(.int .i64 0), (.int .i64 0)]) 16 rfl Tryz.underlying26 qcX rfl (by decide) (by omega) v42 rules [qad fit i] _ _ _ (fun _ => True) (fun _ => False) rfl rfl HA.1 ?aR (fun _ _ h => h) (fun _ h => h.elim) (fun _ _ => trivial) HBc.1 (qab HBc.1) ?aL ?_
        (case aR => exact (Kd.qan HL1.1).2.2)
        (case aL => have h_ := HLB.1; simp only [List.length_singleton]; omega)
        intro v45 wB ho hb hg hat_; clear hg hat_ HA HL1 HBc; have HA := ak_ ho; have HBc := ak_ hb; clear ho hb; obtain ⟨A45, c45, e45⟩ := Kd.qaI HA.1; subst e45; refine hK.out _ _ ⟨(qau HBc.1 HX0.1), (qau HBc.1 HX1.1)⟩ (fun hHeld => ?_); clear hK K; refine qeB (a' := ?_) ?_ ?_; rotate_left
        · show Act.put _ (some 45) _ = _
          simp only [Act.put, List.setIfInBounds_toArray, List.set_cons_zero, List.set_cons_succ, qec, qey]; rfl
        refine last_ (i := 14) (N := some 49) #[true, true, true, true, true, true, true, true, true, true, true, true, true, true, true, false] rfl rfl (by kernel_rfl) (by decide) (fun K hK => ?_); refine qfN Tryz.func213 (by kernel_rfl) rfl #[.string p, .slice A39 fd.length c39, .slice A45 (rules ++ [qad fit i]).length c45, .int .i64 (wrap64 (left - 1)), .slice Aq o.length cq] (by rfl) rfl rfl qb6 ?_; have HPB := ak_ (qeP.below (qeP.below HPS.1 HBx.1) HBc.1); refine (IH.1 k1 (by have := HK.1; omega) p fd (rules ++ [qad fit i]) (wrap64 (left - 1)) o o2 A39 c39 _ _ (.slice Aq o.length cq) w0 _ ?s1 ?s2 ?s3 ?s4 ?s5 ?s6 A_.1).mono ?_
        (case s1 => exact (fun W' hg' => HF2.1 W' (H1.1 _ (qha HPB.1.2.2.1 hg' HPB.1.2.2.2))))
        (case s2 => exact HC39.1)
        (case s3 => exact (fun W' hg' => (Kd.qan (Kd.qjj (Kd.qe9 HA.1) hg' (fun k_ hk e_ => by have h1_ := HV.1 k_ e_.symm; have h2_ := hk.2.1; have h3_ := HBx.1.size; omega))).2.2))
        (case s4 => exact (Kd.qan HA.1).2.1)
        (case s5 => exact HPB.1.1)
        (case s6 => exact HPB.1.2.1)
        rintro e wC ⟨v49, rfl, hp⟩; refine ⟨_, rfl, ?_⟩; have HPN := ak_ (qeP.trans HPB.1 hp); clear hp HPB; refine hK.out _ _ ?_; clear hK K; refine qeB (a' := ?_) ?_ ?_; rotate_left
        · show Act.put _ (some 49) _ = _
          simp only [Act.put, List.setIfInBounds_toArray, List.set_cons_zero, List.set_cons_succ, qec, qey]; rfl
        refine qgP (i := 15) (N := some 4) (v := ?_) (a' := ?_) #[true, true, true, true, true, true, true, true, true, true, true, true, true, true, true, true] rfl rfl (by kernel_rfl) (fun _ _ _ h => h) (Or.inl ⟨by rfl, ?_⟩) ?_ ?_; rotate_left; intro w'; go_simp; with_reducible rfl
        rotate_left; exact qm6
        refine qf5 (by kernel_rfl) ?_; go_wp2
        go_roundg k1
        case measure => have := HK.1; omega
        case rel => exact ⟨o2, i + 1, by go_num, H', ⟨by have := HK.1; omega⟩, HPN⟩
theorem qb4.calls (k : Nat) (a0 : ByteArray) (A1 : Option Addr) (c1 : Nat) (l1 : List qac) (A2 : Option Addr) (c2 : Nat) (l2 : List qac) (a3 : Int) (A4 : Option Addr) (c4 : Nat) (l4 : List (List qac)) (r : List (List qac)) (w : World)
    (hr1 : Kd.C qaG w A1 l1.length l1) (hc1 : l1.length ≤ c1) (hr2 : Kd.C qaG w A2 l2.length l2) (hc2 : l2.length ≤ c2) (hr4 : Kd.C (Kd.slice 85 qaG) w A4 l4.length l4) (hc4 : l4.length ≤ c4) (h : qb4.f k a0 l1 l2 a3 l4 = some r) (hnil : A4 = none ∧ c4 = 0 := by exact ⟨rfl, rfl⟩) :
    Calls Tryz.prog 213 #[.string a0, .slice A1 l1.length c1, .slice A2 l2.length c2, .int .i64 a3, .slice A4 l4.length c4] w fun e w' => ∃ v0_ : Value, e = .returned (v0_) ∧ Kd.S (Kd.slice 85 qaG) 26 w' w.heap.size (fun _ => True) v0_ r ∧ Below w.heap.size w w' := by
  obtain ⟨rfl, rfl⟩ := hnil; obtain rfl : l4 = [] := List.eq_nil_of_length_eq_zero (by omega)
  have hb : ∀ W', w.grownBy W' (Value.slice none ([] : List (List qac)).length 0).ownBlock → Below w.heap.size w W' := fun W' hg => ⟨hg.os, hg.tape, hg.output, hg.size, fun k hk => hg.block k hk (by simp [Value.ownBlock])⟩
  exact (qb4.own k a0 l1 l2 a3 [] r A1 c1 A2 c2 (.slice none 0 0) w w (fun W' hg => Kd.qd0 hr1 (hb W' hg)) hc1 (fun W' hg => Kd.qd0 hr2 (hb W' hg)) hc2 (Kd.S_nil _ _ _ _ _) (Below.refl _ _) h).mono fun e w' ⟨v1, he, hp⟩ => ⟨v1, he, hp.1, hp.2.1⟩
mutual
def qbO.l0 : Nat → ByteArray → List (qac) → Int → Option ((List (qac)))
 | 0, _, _, _ => none
 | k + 1, x0, x3, x4 => if x4 ≤ 10 then (qbO.l1 k x0 x3 x4 0) else (some x3)
def qbO.l1 : Nat → ByteArray → List (qac) → Int → Int → Option ((List (qac)))
 | 0, _, _, _, _ => none
 | k + 1, x0, x3, x4, x5 => if x5 < x4 then ((qcK.f k x0 x4 x5).bind fun qaQ => (if qaQ = true then (if x3.length < 8796093022208 then (qbO.l1 k x0 (x3 ++ [(⟨x4, x5⟩ : qac)]) x4 (wrap64 (x5 + 1))) else (none)) else (qbO.l1 k x0 x3 x4 (wrap64 (x5 + 1))))) else (qbO.l0 k x0 x3 (wrap64 (x4 + 1)))
end
def qbO.f (k : Nat) (a0 : ByteArray) : Option ((List (qac))) := qbO.l0 k a0 ([] : List (qac)) 2
theorem qbO.calls (k : Nat) (a0 : ByteArray) (r : List (qac)) (w : World) (h : qbO.f k a0 = some r) :
  Calls Tryz.prog 214 #[.string a0] w fun e w' => ∃ v0_ : Value, e = .returned (v0_) ∧ Kd.R qaG 85 w' w.heap.size (fun _ => True) v0_ r ∧ Below w.heap.size w w' := by
 have qme := Tryz.underlying85; have HB := br_ w; have H : (qbO.l0 k a0 ([] : List (qac)) 2) = some r := h; clear h; have H' := ak_ H; clear H; go_enter Tryz.func214, Tryz.ntmps214; go_wp2
 go_loopg [3, 4] k (fun kq v3 v4 w' => ∃ (qbx : List (qac)) (qcP : Int), v4 = .int .i64 qcP ∧ qai (qbO.l0 kq a0 qbx qcP = some r) ∧ qai (kq ≤ k) ∧ qai (Kd.R qaG 85 w' w.heap.size (fun _ => True) v3 qbx) ∧ qai (Below w.heap.size w w'))
 case atStart => exact ⟨(([] : List (qac))), (2), qay, H', ⟨Nat.le_refl _⟩, ⟨qhg⟩, ⟨qao⟩⟩
 case round =>
  clear H'; obtain ⟨qbx, qcP, rfl, HA, HK1, qdu, HB⟩ := hrel
  cases gk with
  | zero => exact absurd HA.1 (by simp [qbO.l0])
  | succ k1 =>
   have H := HA.1; clear HA; simp only [qbO.l0] at H; by_cases c2 : qcP ≤ 10; rotate_left
   ·rw [if_neg c2] at H; have qfB := decide_eq_false c2; clear c2; obtain rfl := sj_ H; go_wp2
    go_ret
    exact ⟨_, qca, k64_, qao⟩
   rw [if_pos c2] at H; have qfB := decide_eq_true c2; clear c2; have H' := ak_ H; clear H; go_wp2
   go_loopg [3, 5] k1 (fun kq v3 v5 w' => ∃ (qg1 : List (qac)) (qf3 : Int), v5 = .int .i64 qf3 ∧ qai (qbO.l1 kq a0 qg1 qcP qf3 = some r) ∧ qai (kq ≤ k1) ∧ qai (Kd.R qaG 85 w' w.heap.size (fun _ => True) v3 qg1) ∧ qai (Below w.heap.size w w'))
   case atStart => exact ⟨(qbx), (0), qay, H', ⟨Nat.le_refl _⟩, ⟨qib⟩, ⟨qao⟩⟩
   case round =>
    clear H'; (try clear c2); (try clear qfB); obtain ⟨qg1, qf3, rfl, HA, HK2, qdu, HB⟩ := hrel
    cases gk with
    | zero => exact absurd HA.1 (by simp [qbO.l1])
    | succ k2 =>
     have H := HA.1; clear HA; simp only [qbO.l1] at H; by_cases c3 : qf3 < qcP; rotate_left
     ·rw [if_neg c3] at H; have qfr := decide_eq_false c3; clear c3; have H' := ak_ H; clear H; go_wp2
      go_roundg k2
      case measure => have := HK1.1; have := HK2.1; omega
      case rel => exact ⟨(qg1), (wrap64 (qcP + 1)), qay, H', ⟨qm3⟩, ⟨qib⟩, ⟨qao⟩⟩
     rw [if_pos c3] at H; have qfr := decide_eq_true c3; clear c3; obtain ⟨qaQ, A4, H⟩ := qaB H; (try dsimp only at H); by_cases c5 : qaQ = true; rotate_left
     ·replace c5 := Bool.eq_false_iff.mpr c5; subst c5; rw [if_neg ff_] at H; have H' := ak_ H; clear H
      go_wp2_with (first | ((with_reducible refine qam (N := 6) rfl ?_); refine bx_ 6 rfl (cs := #[.int .i64 0, .int .i64 0]) (t := 85) qa1 ?_; intro qbD hg w12 hbox hb; replace qdu := ak_ (Kd.qbs (Kd.qh0 qib qbD (Nat.le_of_eq hg.symm)) hb); have qas := ak_ (hbox); have qdO := ak_ (HB.ge hg); have qdz := ak_ (HB.ge hg); replace HB := HB.mw hb; clear hb hbox hg; obtain ⟨qiw, qix, qiy, qiz⟩ := qbl qas.1) | (refine gl_ 21 Tryz.func247 #[.string a0, .agg #[.int .i64 qcP, .int .i64 qf3]] rfl qbJ ?_; (with_reducible refine (qcK.calls k2 a0 qcP qf3 false _ A4.1).mono ?_); rintro e w14 ⟨rfl, hb⟩; refine ⟨_, rfl, ?_⟩; replace qdu := ak_ (Kd.qbs k11_ hb); replace qas := ak_ (qap (g := qbD) (o := .cells #[.int .i64 qcP, .int .i64 qf3] 85 (0, 0)) k8_ hb); replace HB := ak_ (qaa qcw hb); (try clear hb)))
      go_roundg k2
      case measure => have := HK1.1; have := HK2.1; omega
      case rel => exact ⟨(qg1), (wrap64 (qf3 + 1)), qay, H', ⟨qm3⟩, ⟨by (with_reducible repeat (first | apply Kd.qaq | apply Kd.qar | apply Kd.qax)); exact Kd.qa2 qdu.1 (fun _ hk => trivial)⟩, ⟨qcw⟩⟩
     subst c5; rw [if_pos rfl] at H; obtain ⟨c6, H⟩ := qct H; have LMc6 := ak_ c6; clear c6
     obtain ⟨qiN, hy_⟩ : ∃ y_ : List (qac), y_ = (qg1 ++ [(⟨qcP, qf3⟩ : qac)]) := ⟨_, rfl⟩
     replace H : (qbO.l1 k2 a0 qiN qcP (wrap64 (qf3 + 1))) = some r := qfb; have qj8 := ak_ hy_; clear hy_; have H' := ak_ H; clear H
     go_wp2_with (first | ((with_reducible refine qam (N := 6) rfl ?_); refine bx_ 6 rfl (cs := #[.int .i64 0, .int .i64 0]) (t := 85) qa1 ?_; intro qbD hg w7 hbox hb; replace qdu := ak_ (Kd.qbs (Kd.qh0 qib qbD (Nat.le_of_eq hg.symm)) hb); have qas := ak_ (hbox); have qdO := ak_ (HB.ge hg); have qdz := ak_ (HB.ge hg); replace HB := HB.mw hb; clear hb hbox hg; obtain ⟨qjN, qjO, qjS, qjT⟩ := qbl qas.1) | (refine gl_ 21 Tryz.func247 #[.string a0, .agg #[.int .i64 qcP, .int .i64 qf3]] rfl qbJ ?_; (with_reducible refine (qcK.calls k2 a0 qcP qf3 true _ A4.1).mono ?_); rintro e w9 ⟨rfl, hb⟩; refine ⟨_, rfl, ?_⟩; replace qdu := ak_ (Kd.qbs k11_ hb); replace qas := ak_ (qap (g := qbD) (o := .cells #[.int .i64 qcP, .int .i64 qf3] 85 (0, 0)) k8_ hb); replace HB := ak_ (qaa qcw hb); (try clear hb); obtain ⟨qkT, qkU, qkY, qkZ⟩ := qbl qas.1) | ((with_reducible refine qa5 (b := .append) (xs := #[.tmp 22, .tmp 24]) rfl ?_); at_builtin; refine Kd.qc8 qaG (w0 := w) w.heap.size rfl (.tmp 22) (.tmp 24) 26 85 (.agg #[(.int .i64 0), (.int .i64 0)]) 16 rfl Tryz.underlying26 qfV rfl (by decide) (by omega) u3 qg1 (⟨qcP, qf3⟩ : qac) [.int .i64 qcP, .int .i64 qf3] (fun k_ => k_ ≠ qbD) (fun _ => False) rfl rfl ?aP (fun _ hk => hk.elim) ?aF ?aO ?aB ?aS ?aL ?_; (case aP => exact qc7 _ _ _ (⟨qcP, qf3⟩ : qac)); (case aB => exact qcw); (case aF => exact (fun k_ hk => Kd.qnY (g := qbD) (o := .cells #[.int .i64 qcP, .int .i64 qf3] 85 (0, 0)) qmg k_ hk)); (case aO => exact (by (with_reducible repeat (first | apply Kd.qaq | apply Kd.qar | apply Kd.qax)); exact Kd.qa2 qdu.1 (fun _ hk => hk.2))); (case aS => exact (qab qcw)); (case aL => have := LMc6.1; omega); intro qrJ w11 ho hb hg hat; rw [← qj8.1] at ho; replace qas := ak_ (qd9 (g := qbD) (o := .cells #[.int .i64 qcP, .int .i64 qf3] 85 (0, 0)) qmg hg (Kd.qnA qdu.1 (fun _ hk => hk.2))); replace HB := ak_ (hb); have qes := ak_ (ho); clear qdu; clear ho hb hg hat))
     go_roundg k2
     case measure => have := HK1.1; have := HK2.1; omega
     case rel => exact ⟨(qiN), (wrap64 (qf3 + 1)), qay, H', ⟨qm3⟩, ⟨by (with_reducible repeat (first | apply Kd.qaq | apply Kd.qar | apply Kd.qax)); exact Kd.qa2 qes.1 (fun _ hk => trivial)⟩, ⟨qcw⟩⟩
def qby.f (k : Nat) (qbK : ByteArray) (qbY : Int) : Option ((List (List (qac))) × Bool) := (qdy.f k qbK qbY).bind fun qaQ => (if qaQ = true then ((qbO.f k qbK).bind fun qcb => ((qb4.f k qbK qcb ([] : List (qac)) qbY ([] : List (List (qac)))).bind fun qg0 => (if (qg0.length : Int) > 300 then (some (([] : List (List (qac))), false)) else (some (qg0, true))))) else (some (([] : List (List (qac))), false)))
def qby.T3 : Bool × List (List Nat × List Nat) := (true, [([], []), ([0], [0]), ([], []), ([2], [2]), ([3], [3]), ([], []), ([5], [5]), ([1, 4, 6, 4], [1, 4, 6]), ([7, 7, 0, 1, 2, 3, 4, 5, 6, 7], [7])])
def qby.B3 : List Nat := [0, 1, 0, 4, 12, 0, 32, 127, 255]
theorem qby.tab3 : qhC .any (opsOf Tryz.f175 3) = qby.T3 := by kernel_rfl
theorem qby.bits3 : qeG qby.T3.2 qby.B3 = true := by kernel_rfl
theorem qby.calls (k : Nat) (qbK : ByteArray) (qbY : Int) (r1 : List (List (qac))) (r2 : Bool) (w : World) (h : qby.f k qbK qbY = some (r1, r2)) :
  Calls Tryz.prog 175 #[.agg #[.string qbK, .int .i64 qbY]] w fun e w' => ∃ v0_ : Value, e = .returned (.tuple #[v0_, .bool r2]) ∧ Kd.S (Kd.slice 85 qaG) 26 w' w.heap.size (fun _ => True) v0_ r1 ∧ Below w.heap.size w w' := by
 have hu99 := Tryz.underlying99; have HB := br_ w; have H : ((qdy.f k qbK qbY).bind fun qaQ => (if qaQ = true then ((qbO.f k qbK).bind fun qcb => ((qb4.f k qbK qcb ([] : List (qac)) qbY ([] : List (List (qac)))).bind fun qg0 => (if (qg0.length : Int) > 300 then (some (([] : List (List (qac))), false)) else (some (qg0, true))))) else (some (([] : List (List (qac))), false)))) = some (r1, r2) := h; clear h; obtain ⟨qaQ, A2, H⟩ := qaB H; (try dsimp only at H); by_cases c3 : qaQ = true; rotate_left
 ·replace c3 := Bool.eq_false_iff.mpr c3; subst c3; rw [if_neg ff_] at H; obtain ⟨rfl, rfl⟩ := qdQ H; go_enter Tryz.func175, Tryz.ntmps175
  go_wp2_with (first | ((with_reducible refine qam (N := 1) rfl ?_); refine bx_ 1 rfl (cs := #[.string qbK, .int .i64 qbY]) (t := 99) qa1 ?_; intro qbD hg w23 hbox hb; have qas := ak_ (hbox); have qdO := ak_ (HB.ge hg); have qdz := ak_ (HB.ge hg); replace HB := HB.mw hb; clear hb hbox hg; obtain ⟨hcz24_0, hcz24_1, hfz24_0, hfz24_1⟩ := qbl qas.1) | (refine gl_ 6 Tryz.func174 #[.agg #[.string qbK, .int .i64 qbY]] rfl qbJ ?_; (with_reducible refine (qdy.calls k qbK qbY false _ A2.1).mono ?_); rintro e w25 ⟨rfl, hb⟩; refine ⟨_, rfl, ?_⟩; replace qas := qas.mw hb; replace HB := ak_ (qaa qcw hb); (try clear hb)))
  go_ret2
  exact ⟨_, qca, k55_, qcw⟩
 subst c3; rw [if_pos rfl] at H; obtain ⟨qcb, A4, H⟩ := qaB H; (try dsimp only at H); obtain ⟨qg0, A5, H⟩ := qaB H; (try dsimp only at H); by_cases c6 : (qg0.length : Int) > 300
 ·rw [if_pos c6] at H; have qgc : decide (300 < (qg0.length : Int)) = true := decide_eq_true c6; have qnJ : decide (300 < qg0.length) = true := decide_eq_true (by omega); clear c6; obtain ⟨rfl, rfl⟩ := qdQ H; go_enter Tryz.func175, Tryz.ntmps175
  try go_wp2_with (first | ((with_reducible refine qam (N := 1) rfl ?_); refine bx_ 1 rfl (cs := #[.string qbK, .int .i64 qbY]) (t := 99) qa1 ?_; intro qbD hg w7 hbox hb; have qas := ak_ (hbox); have qdO := ak_ (HB.ge hg); have qdz := ak_ (HB.ge hg); replace HB := HB.mw hb; clear hb hbox hg; obtain ⟨qjN, qjO, qjS, qjT⟩ := qbl qas.1) | (refine gl_ 6 Tryz.func174 #[.agg #[.string qbK, .int .i64 qbY]] rfl qbJ ?_; (with_reducible refine (qdy.calls k qbK qbY true _ A2.1).mono ?_); rintro e w9 ⟨rfl, hb⟩; refine ⟨_, rfl, ?_⟩; replace qas := qas.mw hb; replace HB := ak_ (qaa qcw hb); (try clear hb)))
  replace qas := ak_ (qak qas.1); replace HB := ak_ (qah HB.1); refine qeS (n := 9) (S := fun w' => w'.cell? ⟨qbD, 0, none⟩ = some (.string qbK) ∧ w'.cell? ⟨qbD, 1, none⟩ = some (.int .i64 qbY)) (ds := []) (rA_ [0, 9]) (by kernel_rfl) rfl rfl ⟨qd4 qas.1, qbA qas.1⟩ (fun hHeld => ?_); refine qc0 qby.tab3 qby.bits3 (fun HT_ HW_ => ?_)
  generalize w9.drew = w10 at qas HB hHeld ⊢
  refine pu_ 0 8 [1, 8] ?_; refine pu_ 2 10 [1, 1, 1, 6] ?_; refine pu_ 5 13 [1, 1, 1, 2, 1, 3] ?_; refine qii 1 9 [3, 2, 1, 3] ?_; refine qii 3 11 [4, 1, 1, 3] ?_; refine qii 6 14 [4, 1, 2, 2] ?_; refine qfC (i := 4) (N := some 12) (rA_ [7, 2]) rfl rfl (qcJ HT_.out (by kernel_rfl)) (by decide) (fun K hK => ?_); refine qfN Tryz.func214 (by kernel_rfl) rfl #[.string qbK] (by rfl) rfl rfl qbJ ?_
  with_reducible refine (qbO.calls k qbK qcb _ A4.1).mono ?_
  rintro e w11 ⟨qrJ, rfl, ho0, hb⟩; refine ⟨_, rfl, ?_⟩; have qes := ak_ (Kd.qaw ho0 (qab qcw)); replace qas := qas.mw hb; replace HB := ak_ (qaa qcw hb); (try clear hb); (try clear hb2); (try clear hk); (try clear hi); (try clear ho0); obtain ⟨qjI, qjK, qoJ⟩ := Kd.qaI qes.1; (first | subst qoJ | (injection qoJ with f1_ f2_ f3_; have f4_ := f1_.symm; have f5_ := f3_.symm; clear f1_ f2_ f3_; subst f4_; subst f5_)); refine hK.out _ _ ⟨qd4 qas.1, qbA qas.1⟩ (fun hHeld => ?_); clear hK K; refine nm_ 12 ?_; refine qfC (i := 7) (N := some 15) (rA_ [8, 1]) rfl rfl (qcJ HT_.out (by kernel_rfl)) (by decide) (fun K hK => ?_); refine qfN Tryz.func213 (by kernel_rfl) rfl #[.string qbK, .slice qjI qcb.length qjK, .slice none 0 0, .int .i64 qbY, .slice none 0 0] (by rfl) rfl rfl qbJ ?_; refine (qb4.calls k qbK _ _ qcb _ _ ([] : List (qac)) qbY _ _ ([] : List (List (qac))) qg0 _ ?qaz ?qaA ?qjw ?qjx ?side5 ?side6 A5.1).mono ?_
  (case qaz => repeat (first | exact (Kd.qan qes.1).2.2 | (with_reducible refine Kd.C_alloc ?_ _) | (with_reducible refine Kd.C_drewN ?_ _) | (with_reducible refine Kd.C_drew ?_)))
  (case qaA => exact (Kd.qan qes.1).2.1)
  (case qjw => exact Kd.C_nil _ _)
  (case qjx => exact Nat.le_refl _)
  (case side5 => exact Kd.C_nil _ _)
  (case side6 => exact Nat.le_refl _)
  rintro e w13 ⟨v107, rfl, ho0, hb⟩; refine ⟨_, rfl, ?_⟩; have qgx := ak_ (Kd.qd3 (Kd.qr9 ho0 (Kd.qkb (by apply_rules only [qes.1, Kd.qaq, Kd.qar, Kd.qax]))) (qab qcw)); replace qes := qes.mw hb; replace qas := qas.mw hb; replace HB := ak_ (qaa qcw hb); (try clear hb); (try clear hb2); (try clear hk); (try clear hi); (try clear ho0); refine hK.out _ _ ⟨qd4 qas.1, qbA qas.1⟩ (fun hHeld => ?_); clear hK K; refine nm_ 15 ?_; refine pu_ 8 4 [9] ?_; refine qf5 (qeh HT_.out (by kernel_rfl)) ?_; obtain ⟨Ao14, co14, eo14⟩ := Kd.qdT qgx.1; subst eo14
  try go_wp2
  go_ret2
  exact ⟨_, qca, k55_, qcw⟩
 rw [if_neg c6] at H; have qgc : decide (300 < (qg0.length : Int)) = false := decide_eq_false c6; have qnJ : decide (300 < qg0.length) = false := decide_eq_false (by omega); clear c6; obtain ⟨rfl, rfl⟩ := qdQ H; go_enter Tryz.func175, Tryz.ntmps175
 try go_wp2_with (first | ((with_reducible refine qam (N := 1) rfl ?_); refine bx_ 1 rfl (cs := #[.string qbK, .int .i64 qbY]) (t := 99) qa1 ?_; intro qbD hg w15 hbox hb; have qas := ak_ (hbox); have qdO := ak_ (HB.ge hg); have qdz := ak_ (HB.ge hg); replace HB := HB.mw hb; clear hb hbox hg; obtain ⟨qsP, qsQ, qs5, qs6⟩ := qbl qas.1) | (refine gl_ 6 Tryz.func174 #[.agg #[.string qbK, .int .i64 qbY]] rfl qbJ ?_; (with_reducible refine (qdy.calls k qbK qbY true _ A2.1).mono ?_); rintro e w17 ⟨rfl, hb⟩; refine ⟨_, rfl, ?_⟩; replace qas := qas.mw hb; replace HB := ak_ (qaa qcw hb); (try clear hb)))
 replace qas := ak_ (qak qas.1); replace HB := ak_ (qah HB.1); refine qeS (n := 9) (S := fun w' => w'.cell? ⟨qbD, 0, none⟩ = some (.string qbK) ∧ w'.cell? ⟨qbD, 1, none⟩ = some (.int .i64 qbY)) (ds := []) (rA_ [0, 9]) (by kernel_rfl) rfl rfl ⟨qd4 qas.1, qbA qas.1⟩ (fun hHeld => ?_); refine qc0 qby.tab3 qby.bits3 (fun HT_ HW_ => ?_)
 generalize w17.drew = w18 at qas HB hHeld ⊢
 refine pu_ 0 8 [1, 8] ?_; refine pu_ 2 10 [1, 1, 1, 6] ?_; refine pu_ 5 13 [1, 1, 1, 2, 1, 3] ?_; refine qii 1 9 [3, 2, 1, 3] ?_; refine qii 3 11 [4, 1, 1, 3] ?_; refine qii 6 14 [4, 1, 2, 2] ?_; refine qfC (i := 4) (N := some 12) (rA_ [7, 2]) rfl rfl (qcJ HT_.out (by kernel_rfl)) (by decide) (fun K hK => ?_); refine qfN Tryz.func214 (by kernel_rfl) rfl #[.string qbK] (by rfl) rfl rfl qbJ ?_
 with_reducible refine (qbO.calls k qbK qcb _ A4.1).mono ?_
 rintro e w19 ⟨qrJ, rfl, ho0, hb⟩; refine ⟨_, rfl, ?_⟩; have qes := ak_ (Kd.qaw ho0 (qab qcw)); replace qas := qas.mw hb; replace HB := ak_ (qaa qcw hb); (try clear hb); (try clear hb2); (try clear hk); (try clear hi); (try clear ho0); obtain ⟨Ao20, co20, eo20⟩ := Kd.qaI qes.1; (first | subst eo20 | (injection eo20 with f1_ f2_ f3_; have f4_ := f1_.symm; have f5_ := f3_.symm; clear f1_ f2_ f3_; subst f4_; subst f5_)); refine hK.out _ _ ⟨qd4 qas.1, qbA qas.1⟩ (fun hHeld => ?_); clear hK K; refine nm_ 12 ?_; refine qfC (i := 7) (N := some 15) (rA_ [8, 1]) rfl rfl (qcJ HT_.out (by kernel_rfl)) (by decide) (fun K hK => ?_); refine qfN Tryz.func213 (by kernel_rfl) rfl #[.string qbK, .slice Ao20 qcb.length co20, .slice none 0 0, .int .i64 qbY, .slice none 0 0] (by rfl) rfl rfl qbJ ?_; refine (qb4.calls k qbK _ _ qcb _ _ ([] : List (qac)) qbY _ _ ([] : List (List (qac))) qg0 _ ?qaz ?qaA ?qjw ?qjx ?side5 ?side6 A5.1).mono ?_
 (case qaz => repeat (first | exact (Kd.qan qes.1).2.2 | (with_reducible refine Kd.C_alloc ?_ _) | (with_reducible refine Kd.C_drewN ?_ _) | (with_reducible refine Kd.C_drew ?_)))
 (case qaA => exact (Kd.qan qes.1).2.1)
 (case qjw => exact Kd.C_nil _ _)
 (case qjx => exact Nat.le_refl _)
 (case side5 => exact Kd.C_nil _ _)
 (case side6 => exact Nat.le_refl _)
 rintro e w21 ⟨v107, rfl, ho0, hb⟩; refine ⟨_, rfl, ?_⟩; have qgx := ak_ (Kd.qd3 (Kd.qr9 ho0 (Kd.qkb (by apply_rules only [qes.1, Kd.qaq, Kd.qar, Kd.qax]))) (qab qcw)); replace qes := qes.mw hb; replace qas := qas.mw hb; replace HB := ak_ (qaa qcw hb); (try clear hb); (try clear hb2); (try clear hk); (try clear hi); (try clear ho0); refine hK.out _ _ ⟨qd4 qas.1, qbA qas.1⟩ (fun hHeld => ?_); clear hK K; refine nm_ 15 ?_; refine pu_ 8 4 [9] ?_; refine qf5 (qeh HT_.out (by kernel_rfl)) ?_; obtain ⟨Ao22, co22, eo22⟩ := Kd.qdT qgx.1; subst eo22
 try go_wp2
 go_ret2
 exact ⟨_, qca, by (with_reducible repeat (first | apply Kd.qdm | apply Kd.qdn | apply Kd.qeo)); exact Kd.qgz qgx.1 (fun _ hk => trivial), qcw⟩
def qdk.f (k : Nat) (qbK : ByteArray) (qbY : Int) : Option ((List (qac)) × Bool) := (qby.f k qbK qbY).bind fun qdo => (if qdo.2 = true then (if (qdo.1.length : Int) = 0 then (some (([] : List (qac)), false)) else (if 0 < (qdo.1.length : Int) then (some (qeD qdo.1 0, true)) else (none))) else (some (([] : List (qac)), false)))
theorem qdk.calls (k : Nat) (qbK : ByteArray) (qbY : Int) (r1 : List (qac)) (r2 : Bool) (w : World) (h : qdk.f k qbK qbY = some (r1, r2)) :
  Calls Tryz.prog 119 #[.agg #[.string qbK, .int .i64 qbY]] w fun e w' => ∃ v0_ : Value, e = .returned (.tuple #[v0_, .bool r2]) ∧ Kd.R qaG 85 w' w.heap.size (fun _ => True) v0_ r1 ∧ Below w.heap.size w w' := by
 have hu99 := Tryz.underlying99; have HB := br_ w; have H : ((qby.f k qbK qbY).bind fun qdo => (if qdo.2 = true then (if (qdo.1.length : Int) = 0 then (some (([] : List (qac)), false)) else (if 0 < (qdo.1.length : Int) then (some (qeD qdo.1 0, true)) else (none))) else (some (([] : List (qac)), false)))) = some (r1, r2) := h; clear h; obtain ⟨⟨qaQ, t105⟩, A2, H⟩ := qaB H; (try dsimp only at H); by_cases c3 : t105 = true; rotate_left
 ·replace c3 := Bool.eq_false_iff.mpr c3; subst c3; rw [if_neg ff_] at H; obtain ⟨rfl, rfl⟩ := qdQ H; go_enter Tryz.func119, Tryz.ntmps119
  go_wp2_with (first | ((with_reducible refine qam (N := 1) rfl ?_); refine bx_ 1 rfl (cs := #[.string qbK, .int .i64 qbY]) (t := 99) qa1 ?_; intro qbD hg w14 hbox hb; have qas := ak_ (hbox); have qdO := ak_ (HB.ge hg); have qdz := ak_ (HB.ge hg); replace HB := HB.mw hb; clear hb hbox hg; obtain ⟨qpp, qpq, qpv, qpw⟩ := qbl qas.1) | (refine gl_ 8 Tryz.func175 #[.agg #[.string qbK, .int .i64 qbY]] rfl qbJ ?_; (with_reducible refine (qby.calls k qbK qbY qaQ false _ A2.1).mono ?_); rintro e w16 ⟨qht, rfl, ho0, hb⟩; refine ⟨_, rfl, ?_⟩; have qbZ := ak_ (Kd.qd3 ho0 (qab qcw)); replace qas := qas.mw hb; replace HB := ak_ (qaa qcw hb); (try clear hb ho0)))
  go_ret2
  exact ⟨_, qca, qhg, qcw⟩
 subst c3; rw [if_pos rfl] at H; by_cases c4 : (qaQ.length : Int) = 0
 ·rw [if_pos c4] at H; have qfw : ((qaQ.length : Int) == 0) = true := beq_iff_eq.mpr c4; have qlY : ((qaQ.length : Int) != 0) = false := bne_eq_false_iff_eq.mpr c4; clear c4; obtain ⟨rfl, rfl⟩ := qdQ H; go_enter Tryz.func119, Tryz.ntmps119
  go_wp2_with (first | ((with_reducible refine qam (N := 1) rfl ?_); refine bx_ 1 rfl (cs := #[.string qbK, .int .i64 qbY]) (t := 99) qa1 ?_; intro qbD hg w5 hbox hb; have qas := ak_ (hbox); have qdO := ak_ (HB.ge hg); have qdz := ak_ (HB.ge hg); replace HB := HB.mw hb; clear hb hbox hg; obtain ⟨qkV, qkW, qk0, qk1⟩ := qbl qas.1) | (refine gl_ 8 Tryz.func175 #[.agg #[.string qbK, .int .i64 qbY]] rfl qbJ ?_; (with_reducible refine (qby.calls k qbK qbY qaQ true _ A2.1).mono ?_); rintro e w7 ⟨qht, rfl, ho0, hb⟩; refine ⟨_, rfl, ?_⟩; have qbZ := ak_ (Kd.qd3 ho0 (qab qcw)); replace qas := qas.mw hb; replace HB := ak_ (qaa qcw hb); (try clear hb ho0); obtain ⟨Ao8, co8, eo8⟩ := Kd.qdT qbZ.1; subst eo8))
  go_ret2
  exact ⟨_, qca, qhg, qcw⟩
 rw [if_neg c4] at H; have qfw : ((qaQ.length : Int) == 0) = false := beq_eq_false_iff_ne.mpr c4; have qlY : ((qaQ.length : Int) != 0) = true := bne_iff_ne.mpr c4
 have c4b2 : ¬ (qaQ = []) := fun h_ => c4 (by rw [h_]; rfl)
 obtain ⟨c9, H⟩ := qct H; have qmQ := decide_eq_true c9; have c9b1 : decide (0 < qaQ.length) = true := decide_eq_true (by omega); clear c9; obtain ⟨rfl, rfl⟩ := qdQ H; go_enter Tryz.func119, Tryz.ntmps119
 go_wp2_with (first | ((with_reducible refine qam (N := 1) rfl ?_); refine bx_ 1 rfl (cs := #[.string qbK, .int .i64 qbY]) (t := 99) qa1 ?_; intro qbD hg w10 hbox hb; have qas := ak_ (hbox); have qdO := ak_ (HB.ge hg); have qdz := ak_ (HB.ge hg); replace HB := HB.mw hb; clear hb hbox hg; obtain ⟨qgj, qgk, qgl, qgm⟩ := qbl qas.1) | (refine gl_ 8 Tryz.func175 #[.agg #[.string qbK, .int .i64 qbY]] rfl qbJ ?_; (with_reducible refine (qby.calls k qbK qbY qaQ true _ A2.1).mono ?_); rintro e w12 ⟨qht, rfl, ho0, hb⟩; refine ⟨_, rfl, ?_⟩; have qbZ := ak_ (Kd.qd3 ho0 (qab qcw)); replace qas := qas.mw hb; replace HB := ak_ (qaa qcw hb); (try clear hb ho0); obtain ⟨Ao13, co13, eo13⟩ := Kd.qdT qbZ.1; subst eo13; have qfW : 0 ≤ (0 : Int) := (by omega); have qfX : 0 < (qaQ.length : Int) := of_decide_eq_true qaL; obtain ⟨qg4, A106_0, c106_0, qke, qcu, qk6, qk3⟩ := qqg (Kd.qeQ qbZ.1).2.2 0 qfW qfX; cases qke; obtain ⟨ce106, qsM, qsK, qn3⟩ := Kd.qr8 qbZ.1 [] 0 qfW (by first | exact qfX | exact of_decide_eq_true qaL | (have e_ := (Kd.qeQ qbZ.1).1; omega)); obtain ⟨ve106_0, rfl, qiu⟩ := qsK; have qgo := qn3 0 _ rfl; rw [Nat.add_zero, show ((Kd.slice 85 qaG)).sz = 1 from rfl, Nat.mul_one] at qgo; replace qgo := Option.some.inj (qgo.symm.trans qcu); rw [qgo] at qiu; have qoS := ak_ (show Kd.R qaG 85 _ _ _ _ (qeD qaQ 0) from qiu); clear qgo qiu; clear qn3 qsM; have qtP : (0 < qaQ.length) = True := eq_true (by omega); (try rw [show ((0 : Int)).toNat = 0 from rfl] at qcu); (try rw [Addr.add_zero'] at qcu); have HR106_0 := ak_ qk3; have HC106_0 := ak_ qk6; clear qk3 qk6; replace qfW := eq_true qfW; replace qfX := eq_true qfX))
 go_ret2
 exact ⟨_, qca, by (with_reducible repeat (first | apply Kd.qaq | apply Kd.qar | apply Kd.qax)); exact Kd.qa2 qoS.1 (fun _ hk => trivial), qcw⟩
def qgZ.f (k : Nat) (rs : List qac) (mo : Int) (tx : ByteArray) (n : Int) (c : Cmd) : Option ByteArray := match c with
  | .cShow => qck.f k rs true
  | .cLeft => (qeE.f k rs mo).bind fun q => qdL.f k q.1 q.2
  | .cCount => (qem.f k rs mo).bind fun q => qcH.f k q.1 q.2
  | .cPeriod => (qcF.f k rs).bind fun q => qcH.f k q.1 q.2
  | .cSpokes => (qdV.f k rs).bind fun q => qdL.f k q.1 q.2
  | .cSteps => (qee.f k rs).bind fun q => qdL.f k q.1 q.2
  | .cRank => (qc5.f k rs n).bind fun q => qcH.f k q.1 q.2
  | .cFactors => (qcN.f k n).bind fun q => qcn.f k q.1 q.2
  | .cPi => (qc4.f k n).bind fun q => qcH.f k q.1 q.2
  | .cDivisors => (qdf.f k n).bind fun q => qdL.f k q.1 q.2
  | .cTotient => (qdD.f k n).bind fun q => qcH.f k q.1 q.2
  | .cPattern => (qa0.f k rs n).bind fun q => if q.2 = true then some q.1 else some (⟨#[110, 111]⟩ : ByteArray)
  | .cAnswer => (qaE.f k tx).bind fun q => if q.2.2 = true then ((qdk.f k q.1 q.2.1).bind fun u => qck.f k u.1 u.2) else some (⟨#[110, 111]⟩ : ByteArray)
  | _ => none
theorem qo8 (k base g : Nat) (rs : List qac) (mo : Int) (lr : List qac) (tx : ByteArray) (n : Int) (c : Cmd) (txt : ByteArray) (w : World) (hbase : base ≤ w.heap.size) (hD : qkz w base g rs mo lr tx n) (h : qgZ.f k rs mo tx n c = some txt) :
    Calls Tryz.prog 64 #[.pointer (some ⟨g, 0, none⟩), .string c.word] w fun e w' => e = .returned (.string txt) ∧ Below w.heap.size w w' := by
  obtain ⟨A0, c0, A1_, c1, hC, hO, hL⟩ := hD; have HCw := ak_ hC; have HOw := ak_ hO; have HLw := ak_ hL; have HC := ak_ hC; have HO := ak_ hO; have HL := ak_ hL; have HB := br_ w; obtain ⟨qrm, qrg⟩ := qcx HC.1; have qrn := qbA HC.1; have qrh := qae HC.1 1; have hzw_2 := qfx HC.1; have hfw_2 := qae HC.1 2; have hzw_3 := qfF HC.1; have hfw_3 := qae HC.1 3; have hzw_4 := qfG HC.1; have hfw_4 := qae HC.1 4; clear hC hO hL; have HBS := ak_ hbase; clear hbase; unfold qgZ.f at h
  match c, h with
  | .cShow, h =>
    simp only [Cmd.word, Cmd.bytes]; dsimp only at h; have A1 := ak_ h; clear h; go_enter Tryz.func64, Tryz.ntmps64
    go_wp2_with (first | (refine gl_ 19 Tryz.func99 #[.slice A0 rs.length c0, .bool true] rfl qb6 ?_; (refine (qck.calls k _ _ rs true txt _ qjW (Kd.qan HO.1).2.1 A1.1).mono ?_); rintro e w3 ⟨rfl, hb⟩; refine ⟨_, rfl, ?_⟩; replace HB := ak_ (qaa qao hb); clear hb))
    go_ret
    exact ⟨rfl, qao⟩
  | .cLeft, h =>
    simp only [Cmd.word, Cmd.bytes]; dsimp only at h; obtain ⟨⟨xs, ok⟩, A1, h⟩ := qaB h; (try dsimp only at h); have A2 := ak_ h; clear h; go_enter Tryz.func64, Tryz.ntmps64
    go_wp2_with (first | (refine gl_ 28 Tryz.func105 #[.slice A0 rs.length c0, .int .i64 mo] rfl qb6 ?_; (refine (qeE.calls k _ _ rs mo xs ok _ qjW (Kd.qan HO.1).2.1 A1.1).mono ?_); rintro e w2 ⟨vx, rfl, hox, hb⟩; refine ⟨_, rfl, ?_⟩; have HX := ak_ (Kd.qaw hox (Nat.le_trans HBS.1 (qab qao))); clear hox; obtain ⟨Ax, cx, ex⟩ := Kd.qaI HX.1; subst ex; replace HB := ak_ (qaa qao hb); clear hb) | (refine gl_ 31 Tryz.func104 #[.slice Ax xs.length cx, .bool ok] rfl qb6 ?_; (refine (qdL.calls k _ _ xs ok txt _ qrr (Kd.qan HX.1).2.1 A2.1).mono ?_); rintro e w5 ⟨rfl, hb⟩; refine ⟨_, rfl, ?_⟩; replace HB := ak_ (qaa qao hb); clear hb))
    go_ret
    exact ⟨rfl, qao⟩
  | .cCount, h =>
    simp only [Cmd.word, Cmd.bytes]; dsimp only at h; obtain ⟨⟨v, ok⟩, A1, h⟩ := qaB h; (try dsimp only at h); have A2 := ak_ h; clear h; go_enter Tryz.func64, Tryz.ntmps64
    go_wp2_with (first | (refine gl_ 40 Tryz.func107 #[.slice A0 rs.length c0, .int .i64 mo] rfl qb6 ?_; (refine (qem.calls k _ _ rs mo v ok _ qjW (Kd.qan HO.1).2.1 A1.1).mono ?_); rintro e w2 ⟨rfl, hb⟩; refine ⟨_, rfl, ?_⟩; replace HB := ak_ (qaa qao hb); clear hb) | (refine gl_ 43 Tryz.func106 #[.int .i64 v, .bool ok] rfl qb6 ?_; (refine (qcH.calls k v ok txt _ A2.1).mono ?_); rintro e w5 ⟨rfl, hb⟩; refine ⟨_, rfl, ?_⟩; replace HB := ak_ (qaa qao hb); clear hb))
    go_ret
    exact ⟨rfl, qao⟩
  | .cPeriod, h =>
    simp only [Cmd.word, Cmd.bytes]; dsimp only at h; obtain ⟨⟨v, ok⟩, A1, h⟩ := qaB h; (try dsimp only at h); have A2 := ak_ h; clear h; go_enter Tryz.func64, Tryz.ntmps64
    go_wp2_with (first | (refine gl_ 47 Tryz.func108 #[.slice A0 rs.length c0] rfl qb6 ?_; (refine (qcF.calls k _ _ rs v ok _ qjW (Kd.qan HO.1).2.1 A1.1).mono ?_); rintro e w2 ⟨rfl, hb⟩; refine ⟨_, rfl, ?_⟩; replace HB := ak_ (qaa qao hb); clear hb) | (refine gl_ 50 Tryz.func106 #[.int .i64 v, .bool ok] rfl qb6 ?_; (refine (qcH.calls k v ok txt _ A2.1).mono ?_); rintro e w5 ⟨rfl, hb⟩; refine ⟨_, rfl, ?_⟩; replace HB := ak_ (qaa qao hb); clear hb))
    go_ret
    exact ⟨rfl, qao⟩
  | .cSpokes, h =>
    simp only [Cmd.word, Cmd.bytes]; dsimp only at h; obtain ⟨⟨xs, ok⟩, A1, h⟩ := qaB h; (try dsimp only at h); have A2 := ak_ h; clear h; go_enter Tryz.func64, Tryz.ntmps64
    go_wp2_with (first | (refine gl_ 54 Tryz.func109 #[.slice A0 rs.length c0] rfl qb6 ?_; (refine (qdV.calls k _ _ rs xs ok _ qjW (Kd.qan HO.1).2.1 A1.1).mono ?_); rintro e w2 ⟨vx, rfl, hox, hb⟩; refine ⟨_, rfl, ?_⟩; have HX := ak_ (Kd.qaw hox (Nat.le_trans HBS.1 (qab qao))); clear hox; obtain ⟨Ax, cx, ex⟩ := Kd.qaI HX.1; subst ex; replace HB := ak_ (qaa qao hb); clear hb) | (refine gl_ 57 Tryz.func104 #[.slice Ax xs.length cx, .bool ok] rfl qb6 ?_; (refine (qdL.calls k _ _ xs ok txt _ qrr (Kd.qan HX.1).2.1 A2.1).mono ?_); rintro e w5 ⟨rfl, hb⟩; refine ⟨_, rfl, ?_⟩; replace HB := ak_ (qaa qao hb); clear hb))
    go_ret
    exact ⟨rfl, qao⟩
  | .cSteps, h =>
    simp only [Cmd.word, Cmd.bytes]; dsimp only at h; obtain ⟨⟨xs, ok⟩, A1, h⟩ := qaB h; (try dsimp only at h); have A2 := ak_ h; clear h; go_enter Tryz.func64, Tryz.ntmps64
    go_wp2_with (first | (refine gl_ 61 Tryz.func110 #[.slice A0 rs.length c0] rfl qb6 ?_; (refine (qee.calls k _ _ rs xs ok _ qjW (Kd.qan HO.1).2.1 A1.1).mono ?_); rintro e w2 ⟨vx, rfl, hox, hb⟩; refine ⟨_, rfl, ?_⟩; have HX := ak_ (Kd.qaw hox (Nat.le_trans HBS.1 (qab qao))); clear hox; obtain ⟨Ax, cx, ex⟩ := Kd.qaI HX.1; subst ex; replace HB := ak_ (qaa qao hb); clear hb) | (refine gl_ 64 Tryz.func104 #[.slice Ax xs.length cx, .bool ok] rfl qb6 ?_; (refine (qdL.calls k _ _ xs ok txt _ qrr (Kd.qan HX.1).2.1 A2.1).mono ?_); rintro e w5 ⟨rfl, hb⟩; refine ⟨_, rfl, ?_⟩; replace HB := ak_ (qaa qao hb); clear hb))
    go_ret
    exact ⟨rfl, qao⟩
  | .cRank, h =>
    simp only [Cmd.word, Cmd.bytes]; dsimp only at h; obtain ⟨⟨v, ok⟩, A1, h⟩ := qaB h; (try dsimp only at h); have A2 := ak_ h; clear h; go_enter Tryz.func64, Tryz.ntmps64
    go_wp2_with (first | (refine gl_ 72 Tryz.func111 #[.slice A0 rs.length c0, .int .i64 n] rfl qb6 ?_; (refine (qc5.calls k _ _ rs n v ok _ qjW (Kd.qan HO.1).2.1 A1.1).mono ?_); rintro e w2 ⟨rfl, hb⟩; refine ⟨_, rfl, ?_⟩; replace HB := ak_ (qaa qao hb); clear hb) | (refine gl_ 75 Tryz.func106 #[.int .i64 v, .bool ok] rfl qb6 ?_; (refine (qcH.calls k v ok txt _ A2.1).mono ?_); rintro e w5 ⟨rfl, hb⟩; refine ⟨_, rfl, ?_⟩; replace HB := ak_ (qaa qao hb); clear hb))
    go_ret
    exact ⟨rfl, qao⟩
  | .cFactors, h =>
    simp only [Cmd.word, Cmd.bytes]; dsimp only at h; obtain ⟨⟨xs, ok⟩, A1, h⟩ := qaB h; (try dsimp only at h); have A2 := ak_ h; clear h; go_enter Tryz.func64, Tryz.ntmps64
    go_wp2_with (first | (refine gl_ 82 Tryz.func113 #[.int .i64 n] rfl qb6 ?_; (refine (qcN.calls k n xs ok _ A1.1).mono ?_); rintro e w2 ⟨vx, rfl, hox, hb⟩; refine ⟨_, rfl, ?_⟩; have HX := ak_ (Kd.qd3 hox (Nat.le_trans HBS.1 (qab qao))); clear hox; obtain ⟨Ax, cx, ex⟩ := Kd.qdT HX.1; subst ex; replace HB := ak_ (qaa qao hb); clear hb) | (refine gl_ 85 Tryz.func112 #[.slice Ax xs.length cx, .bool ok] rfl qb6 ?_; (refine (qcn.calls k _ _ xs ok txt _ (by repeat (first | exact (Kd.qeQ HX.1).2.2 | (with_reducible refine Kd.C_alloc ?_ _) | (with_reducible refine Kd.C_drewN ?_ _) | (with_reducible refine Kd.C_drew ?_))) (Kd.qeQ HX.1).2.1 A2.1).mono ?_); rintro e w5 ⟨rfl, hb⟩; refine ⟨_, rfl, ?_⟩; replace HB := ak_ (qaa qao hb); clear hb))
    go_ret
    exact ⟨rfl, qao⟩
  | .cPi, h =>
    simp only [Cmd.word, Cmd.bytes]; dsimp only at h; obtain ⟨⟨v, ok⟩, A1, h⟩ := qaB h; (try dsimp only at h); have A2 := ak_ h; clear h; go_enter Tryz.func64, Tryz.ntmps64
    go_wp2_with (first | (refine gl_ 92 Tryz.func114 #[.int .i64 n] rfl qb6 ?_; (refine (qc4.calls k n v ok _ A1.1).mono ?_); rintro e w2 ⟨rfl, hb⟩; refine ⟨_, rfl, ?_⟩; replace HB := ak_ (qaa qao hb); clear hb) | (refine gl_ 95 Tryz.func106 #[.int .i64 v, .bool ok] rfl qb6 ?_; (refine (qcH.calls k v ok txt _ A2.1).mono ?_); rintro e w5 ⟨rfl, hb⟩; refine ⟨_, rfl, ?_⟩; replace HB := ak_ (qaa qao hb); clear hb))
    go_ret
    exact ⟨rfl, qao⟩
  | .cDivisors, h =>
    simp only [Cmd.word, Cmd.bytes]; dsimp only at h; obtain ⟨⟨xs, ok⟩, A1, h⟩ := qaB h; (try dsimp only at h); have A2 := ak_ h; clear h; go_enter Tryz.func64, Tryz.ntmps64
    go_wp2_with (first | (refine gl_ 102 Tryz.func115 #[.int .i64 n] rfl qb6 ?_; (refine (qdf.calls k n xs ok _ A1.1).mono ?_); rintro e w2 ⟨vx, rfl, hox, hb⟩; refine ⟨_, rfl, ?_⟩; have HX := ak_ (Kd.qaw hox (Nat.le_trans HBS.1 (qab qao))); clear hox; obtain ⟨Ax, cx, ex⟩ := Kd.qaI HX.1; subst ex; replace HB := ak_ (qaa qao hb); clear hb) | (refine gl_ 105 Tryz.func104 #[.slice Ax xs.length cx, .bool ok] rfl qb6 ?_; (refine (qdL.calls k _ _ xs ok txt _ qrr (Kd.qan HX.1).2.1 A2.1).mono ?_); rintro e w5 ⟨rfl, hb⟩; refine ⟨_, rfl, ?_⟩; replace HB := ak_ (qaa qao hb); clear hb))
    go_ret
    exact ⟨rfl, qao⟩
  | .cTotient, h =>
    simp only [Cmd.word, Cmd.bytes]; dsimp only at h; obtain ⟨⟨v, ok⟩, A1, h⟩ := qaB h; (try dsimp only at h); have A2 := ak_ h; clear h; go_enter Tryz.func64, Tryz.ntmps64
    go_wp2_with (first | (refine gl_ 112 Tryz.func116 #[.int .i64 n] rfl qb6 ?_; (refine (qdD.calls k n v ok _ A1.1).mono ?_); rintro e w2 ⟨rfl, hb⟩; refine ⟨_, rfl, ?_⟩; replace HB := ak_ (qaa qao hb); clear hb) | (refine gl_ 115 Tryz.func106 #[.int .i64 v, .bool ok] rfl qb6 ?_; (refine (qcH.calls k v ok txt _ A2.1).mono ?_); rintro e w5 ⟨rfl, hb⟩; refine ⟨_, rfl, ?_⟩; replace HB := ak_ (qaa qao hb); clear hb))
    go_ret
    exact ⟨rfl, qao⟩
  | .cPattern, h =>
    simp only [Cmd.word, Cmd.bytes]; dsimp only at h; obtain ⟨⟨s, ok⟩, A1, h⟩ := qaB h; dsimp only at h
    cases ok with
    | false =>
      rw [if_neg (by decide)] at h; obtain rfl := Option.some.inj h; go_enter Tryz.func64, Tryz.ntmps64
      go_wp2_with (first | (refine gl_ 124 Tryz.func117 #[.slice A0 rs.length c0, .int .i64 n] rfl qb6 ?_; (refine (qa0.calls k _ _ rs n s false _ qjW (Kd.qan HO.1).2.1 A1.1).mono ?_); rintro e w2 ⟨rfl, hb⟩; refine ⟨_, rfl, ?_⟩; replace HB := ak_ (qaa qao hb); clear hb))
      go_ret
      exact ⟨rfl, qao⟩
    | true =>
      rw [if_pos rfl] at h; obtain rfl := Option.some.inj h; go_enter Tryz.func64, Tryz.ntmps64
      go_wp2_with (first | (refine gl_ 124 Tryz.func117 #[.slice A0 rs.length c0, .int .i64 n] rfl qb6 ?_; (refine (qa0.calls k _ _ rs n s true _ qjW (Kd.qan HO.1).2.1 A1.1).mono ?_); rintro e w2 ⟨rfl, hb⟩; refine ⟨_, rfl, ?_⟩; replace HB := ak_ (qaa qao hb); clear hb))
      go_ret
      exact ⟨rfl, qao⟩
  | .cAnswer, h =>
    simp only [Cmd.word, Cmd.bytes]; dsimp only at h; obtain ⟨⟨pa, pb, pok⟩, A1, h⟩ := qaB h; dsimp only at h
    cases pok with
    | false =>
      rw [if_neg (by decide)] at h; obtain rfl := Option.some.inj h; go_enter Tryz.func64, Tryz.ntmps64
      go_wp2_with (first | (refine gl_ 135 Tryz.func118 #[.string tx] rfl qb6 ?_; (refine (qaE.calls k tx pa pb false _ A1.1).mono ?_); rintro e w4 ⟨rfl, hb⟩; refine ⟨_, rfl, ?_⟩; replace HB := ak_ (qaa qao hb); clear hb) | ((with_reducible refine qam (N := 8) rfl ?_); refine bx_ 8 rfl (cs := #[.string (⟨#[]⟩ : ByteArray), .int .i64 0]) (t := 99) qa1 ?_; intro gQ hg w5 hbox hb; have HGQ := ak_ (show w.heap.size ≤ gQ from qtD); have hq0 : w5.cell? ⟨gQ, 0, none⟩ = some (.string (⟨#[]⟩ : ByteArray)) := (qba hbox 0).trans rfl; have hq1 : w5.cell? ⟨gQ, 1, none⟩ = some (.int .i64 0) := (qba hbox 1).trans rfl; have hk0 := qae hbox 0; have hk1 := qae hbox 1; replace HB := ak_ (qaa qao hb); clear hb hbox hg))
      go_ret
      exact ⟨rfl, (qat (qat HB.1 HGQ.1) HGQ.1)⟩
    | true =>
      rw [if_pos rfl] at h; obtain ⟨⟨xs, ok⟩, A2, h⟩ := qaB h; dsimp only at h; have A3 := ak_ h; clear h; go_enter Tryz.func64, Tryz.ntmps64
      go_wp2_with (first | (refine gl_ 135 Tryz.func118 #[.string tx] rfl qb6 ?_; (refine (qaE.calls k tx pa pb true _ A1.1).mono ?_); rintro e w4 ⟨rfl, hb⟩; refine ⟨_, rfl, ?_⟩; replace HB := ak_ (qaa qao hb); clear hb) | ((with_reducible refine qam (N := 8) rfl ?_); refine bx_ 8 rfl (cs := #[.string (⟨#[]⟩ : ByteArray), .int .i64 0]) (t := 99) qa1 ?_; intro gQ hg w5 hbox hb; have HGQ := ak_ (show w.heap.size ≤ gQ from qtD); have hq0 : w5.cell? ⟨gQ, 0, none⟩ = some (.string (⟨#[]⟩ : ByteArray)) := (qba hbox 0).trans rfl; have hq1 : w5.cell? ⟨gQ, 1, none⟩ = some (.int .i64 0) := (qba hbox 1).trans rfl; have hk0 := qae hbox 0; have hk1 := qae hbox 1; replace HB := ak_ (qaa qao hb); clear hb hbox hg) | (refine gl_ 141 Tryz.func119 #[.agg #[.string pa, .int .i64 pb]] rfl qb6 ?_; (refine (qdk.calls k pa pb xs ok _ A2.1).mono ?_); rintro e w6 ⟨vx, rfl, hox, hb⟩; refine ⟨_, rfl, ?_⟩; have hB2 := qaa (w := w) (by first | exact (qat (qat HB.1 HGQ.1) HGQ.1) | apply_rules only [qal, qaf, qah, (qat (qat HB.1 HGQ.1) HGQ.1)]) hb; have HX := ak_ hox; clear HB hox hb; have HB := ak_ hB2; clear hB2; obtain ⟨Ax, cx, ex⟩ := Kd.qaI HX.1; subst ex) | (refine gl_ 144 Tryz.func99 #[.slice Ax xs.length cx, .bool ok] rfl qb6 ?_; (refine (qck.calls k _ _ xs ok txt _ qrr (Kd.qan HX.1).2.1 A3.1).mono ?_); rintro e w7 ⟨rfl, hb⟩; refine ⟨_, rfl, ?_⟩; replace HB := ak_ (qaa qao hb); clear hb))
      go_ret
      exact ⟨rfl, qao⟩
end
end Go.Proofs.YtjeoabbnalamcaaGreatDoor.P
