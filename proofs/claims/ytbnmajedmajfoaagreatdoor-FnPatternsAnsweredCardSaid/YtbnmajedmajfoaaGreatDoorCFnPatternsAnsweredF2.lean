/- What functions of the program answer. Proved in this text: its theorems. Conditions: as each theorem states them. -/
import Derived.Test.YtbnmajedmajfoaaGreatDoorCFnPatternsAnsweredP
import Derived.Test.YtbnmajedmajfoaaGreatDoorCFnPatternsAnsweredF1
import Derived.Test.YtbnmajedmajfoaaGreatDoorCFnPatternsAnsweredF0
namespace Go.Proofs.YtbnmajedmajfoaaGreatDoor.P
open Go.RowKit Go.Proofs.YtbnmajedmajfoaaGreatDoorW.qaG Go.Proofs.YtbnmajedmajfoaaGreatDoorW.PrintLast Go.Proofs.YtbnmajedmajfoaaGreatDoorW.PrintMore
set_option linter.unusedVariables false
set_option linter.unusedSimpArgs false
set_option maxHeartbeats 8000000
set_option maxRecDepth 100000
section
attribute [local go_sem] qfe qfg qf0 qf1 qeA qeB qff qfh
def qcA.f (qbk : List Int) (qc2 : Int) (qdU : Int) (l1 : List ByteArray) : Option (ByteArray × Int × Int) := (qan.f qbk qc2 qdU (l1.length : Int)).bind fun qb9 => (if 0 ≤ qb9.1 then (if qb9.1 < (l1.length : Int) then (some (qgL ByteArray.empty l1 qb9.1, qb9.2.1, qb9.2.2)) else (none)) else (none))
theorem qcA.calls (g : Nat) (qbk : List Int) (qc2 : Int) (qdU : Int) (A1 : Option Addr) (c1 : Nat) (l1 : List ByteArray) (r1 : ByteArray) (r2 : Int) (r3 : Int) (w0 w : World) (hI : qaE w0 w g qbk qc2 qdU) (hB : Below w0.heap.size w0 w) (hr1 : Kd.C Kd.string w A1 l1.length l1) (hc1 : l1.length ≤ c1) (hf1 : ∀ ad, A1 = some ad → 0 < l1.length → ad.block ≠ g) (h : qcA.f qbk qc2 qdU l1 = some (r1, r2, r3)) :
  Calls Tryz.prog 90 #[.pointer (some ⟨g, 0, none⟩), .slice A1 l1.length c1] w fun e w' => e = .returned (.string r1) ∧ qaE w0 w' g qbk r2 r3 ∧ Below w0.heap.size w0 w' ∧ qak w w' g none := by
 have HR1 := ak_ hr1; have HC1 := ak_ hc1; clear hr1 hc1; have HI0 := ak_ hI; have HK := ak_ (qak.refl w g none); have HL := ak_ hB.size; clear hI; have HW0 := ak_ hB.size; have HB := ak_ hB; clear hB; have H : ((qan.f qbk qc2 qdU (l1.length : Int)).bind fun qb9 => (if 0 ≤ qb9.1 then (if qb9.1 < (l1.length : Int) then (some (qgL ByteArray.empty l1 qb9.1, qb9.2.1, qb9.2.2)) else (none)) else (none))) = some (r1, r2, r3) := h; clear h; obtain ⟨⟨qco, qaF, qaX⟩, A3, H⟩ := qbh H; (try dsimp only at H); by_cases c4 : 0 ≤ qco; rotate_left
 ·rw [if_neg c4] at H; exact absurd H (by simp)
 rw [if_pos c4] at H; have qhF : decide (0 ≤ qco) = true := decide_eq_true c4; clear c4; by_cases c5 : qco < (l1.length : Int); rotate_left
 ·rw [if_neg c5] at H; exact absurd H (by simp)
 rw [if_pos c5] at H; have qi9 : decide (qco < (l1.length : Int)) = true := decide_eq_true c5; clear c5; simp only [Option.some.injEq, Prod.mk.injEq] at H; obtain ⟨rfl, rfl, rfl⟩ := H; go_enter Tryz.func90, Tryz.ntmps90
 go_wp2_with (first | ((with_reducible refine qad (f := 66) rfl ?_); refine gl_ 9 Tryz.func66 #[.pointer (some ⟨g, 0, none⟩), .int .i64 (l1.length : Int)] rfl qbK ?_; (with_reducible refine (qan.calls g qbk qc2 qdU (l1.length : Int) qco qaF qaX w0 _ ?qaB ?qaC A3.out).mono ?_); (case qaB => exact qcR); (case qaC => exact qdO); rintro e w6 ⟨rfl, hi, hb, hk⟩; refine ⟨_, rfl, ?_⟩; replace HK := ak_ (qak.trans qcW hk (.inl rfl)); replace HB := ak_ (hb); replace HI0 := ak_ (hi); (try clear hb hk hi); have qj1 : 0 ≤ (qco : Int) := of_decide_eq_true qa8; have qj3 : qco < (l1.length : Int) := of_decide_eq_true qa8; obtain ⟨qiu, qrF, qeb⟩ := Kd.qh1 HR1.out qco qj1 qj3; cases qrF; replace qeb := qju HK.out qeb (by first | (rw [qg2]; exact hf1 _ rfl (by omega)) | exact hf1 _ rfl (by omega) | exact hf1 qiu rfl (by omega)); replace qj1 := eq_true qj1; replace qj3 := eq_true qj3))
 go_ret
 exact ⟨qbx, qcR, qdO, qcW⟩
def qbE.f (qbk : List Int) (qc2 : Int) (qdU : Int) (l1 : List Int) : Option (Int × Int × Int) := (qan.f qbk qc2 qdU (l1.length : Int)).bind fun qb9 => (if 0 ≤ qb9.1 then (if qb9.1 < (l1.length : Int) then (some (rd l1 qb9.1, qb9.2.1, qb9.2.2)) else (none)) else (none))
theorem qbE.calls (g : Nat) (qbk : List Int) (qc2 : Int) (qdU : Int) (A1 : Option Addr) (c1 : Nat) (l1 : List Int) (r1 : Int) (r2 : Int) (r3 : Int) (w0 w : World) (hI : qaE w0 w g qbk qc2 qdU) (hB : Below w0.heap.size w0 w) (hr1 : Kd.C (Kd.int .i64) w A1 l1.length l1) (hc1 : l1.length ≤ c1) (hf1 : ∀ ad, A1 = some ad → 0 < l1.length → ad.block ≠ g) (h : qbE.f qbk qc2 qdU l1 = some (r1, r2, r3)) :
  Calls Tryz.prog 91 #[.pointer (some ⟨g, 0, none⟩), .slice A1 l1.length c1] w fun e w' => e = .returned (.int .i64 r1) ∧ qaE w0 w' g qbk r2 r3 ∧ Below w0.heap.size w0 w' ∧ qak w w' g none := by
 have HR1 := ak_ hr1; have HC1 := ak_ hc1; clear hr1 hc1; have HI0 := ak_ hI; have HK := ak_ (qak.refl w g none); have HL := ak_ hB.size; clear hI; have HW0 := ak_ hB.size; have HB := ak_ hB; clear hB; have H : ((qan.f qbk qc2 qdU (l1.length : Int)).bind fun qb9 => (if 0 ≤ qb9.1 then (if qb9.1 < (l1.length : Int) then (some (rd l1 qb9.1, qb9.2.1, qb9.2.2)) else (none)) else (none))) = some (r1, r2, r3) := h; clear h; obtain ⟨⟨qco, qaF, qaX⟩, A3, H⟩ := qbh H; (try dsimp only at H); by_cases c4 : 0 ≤ qco; rotate_left
 ·rw [if_neg c4] at H; exact absurd H (by simp)
 rw [if_pos c4] at H; have qhF : decide (0 ≤ qco) = true := decide_eq_true c4; clear c4; by_cases c5 : qco < (l1.length : Int); rotate_left
 ·rw [if_neg c5] at H; exact absurd H (by simp)
 rw [if_pos c5] at H; have qi9 : decide (qco < (l1.length : Int)) = true := decide_eq_true c5; clear c5; simp only [Option.some.injEq, Prod.mk.injEq] at H; obtain ⟨rfl, rfl, rfl⟩ := H; go_enter Tryz.func91, Tryz.ntmps91
 go_wp2_with (first | ((with_reducible refine qad (f := 66) rfl ?_); refine gl_ 9 Tryz.func66 #[.pointer (some ⟨g, 0, none⟩), .int .i64 (l1.length : Int)] rfl qbK ?_; (with_reducible refine (qan.calls g qbk qc2 qdU (l1.length : Int) qco qaF qaX w0 _ ?qaB ?qaC A3.out).mono ?_); (case qaB => exact qcR); (case qaC => exact qdO); rintro e w6 ⟨rfl, hi, hb, hk⟩; refine ⟨_, rfl, ?_⟩; replace HK := ak_ (qak.trans qcW hk (.inl rfl)); replace HB := ak_ (hb); replace HI0 := ak_ (hi); (try clear hb hk hi); have qj1 : 0 ≤ (qco : Int) := of_decide_eq_true qa8; have qj3 : qco < (l1.length : Int) := of_decide_eq_true qa8; obtain ⟨qiu, qrF, qeb⟩ := Kd.qmQ HR1.out qco qj1 qj3; cases qrF; replace qeb := qju HK.out qeb (by first | (rw [qg2]; exact hf1 _ rfl (by omega)) | exact hf1 _ rfl (by omega) | exact hf1 qiu rfl (by omega)); replace qj1 := eq_true qj1; replace qj3 := eq_true qj3))
 go_ret
 exact ⟨qbx, qcR, qdO, qcW⟩
mutual
def qaq.j0 : Nat → List Int → Int → Int → ByteArray → Int → Option (ByteArray × Int × Int × Int)
 | 0, _, _, _, _, _ => none
 | k + 1, x1000, qfR, qfS, qfT, qgJ => (qan.f x1000 qfR qfS 8).bind fun qnC => (qaq.l0 k qnC.1 x1000 qnC.2.1 qnC.2.2 qfT qgJ)
def qaq.j2 : Nat → List Int → Int → Int → ByteArray → Int → Option (ByteArray × Int × Int × Int)
 | 0, _, _, _, _, _ => none
 | k + 1, x1000, qfR, qfS, qfT, qgJ => (qan.f x1000 qfR qfS 16).bind fun qlh => (if qlh.1 = 0 then ((qbE.f x1000 qlh.2.1 qlh.2.2 (([(-1), 4, 4611686018427387904] : List Int))).bind fun qp1 => (some (qfT, qp1.1, qp1.2.1, qp1.2.2))) else (if qlh.1 = 1 then ((qcA.f x1000 qlh.2.1 qlh.2.2 (([(⟨#[]⟩ : ByteArray), (⟨#[120]⟩ : ByteArray), (⟨#[111]⟩ : ByteArray), (⟨#[63]⟩ : ByteArray), (⟨#[111, 120, 122]⟩ : ByteArray), (⟨#[120, 120, 120]⟩ : ByteArray)] : List ByteArray))).bind fun qp2 => (some (qp2.1, qgJ, qp2.2.1, qp2.2.2))) else (if qlh.1 = 2 then (qaq.l1 k x1000 qlh.2.1 qlh.2.2 qfT qgJ) else (some (qfT, qgJ, qlh.2.1, qlh.2.2)))))
def qaq.l1 : Nat → List Int → Int → Int → ByteArray → Int → Option (ByteArray × Int × Int × Int)
 | 0, _, _, _, _, _ => none
 | k + 1, x1000, qfR, qfS, qfT, qgJ => (qan.f x1000 qfR qfS 2).bind fun qsW => (if (qfT.size : Int) < (wrap64 (48 + qsW.1)) then ((qcA.f x1000 qsW.2.1 qsW.2.2 (([(⟨#[120]⟩ : ByteArray), (⟨#[111]⟩ : ByteArray), (⟨#[63]⟩ : ByteArray)] : List ByteArray))).bind fun qgW => (if qfT.size + qgW.1.size ≤ 9223372036854775807 then (qaq.l1 k x1000 qgW.2.1 qgW.2.2 (qfT ++ qgW.1) qgJ) else (none))) else (some (qfT, qgJ, qsW.2.1, qsW.2.2)))
def qaq.l0 : Nat → Int → List Int → Int → Int → ByteArray → Int → Option (ByteArray × Int × Int × Int)
 | 0, _, _, _, _, _, _ => none
 | k + 1, x5, x1000, qfR, qfS, qfT, qgJ => if x5 > 0 then ((qan.f x1000 qfR qfS (qfT.size : Int)).bind fun qpZ => ((qcA.f x1000 qpZ.2.1 qpZ.2.2 (([(⟨#[63]⟩ : ByteArray), (⟨#[63]⟩ : ByteArray), (⟨#[63]⟩ : ByteArray), (⟨#[111]⟩ : ByteArray), (⟨#[120]⟩ : ByteArray)] : List ByteArray))).bind fun qlg => ((qc5.f qfT qgJ (wrap64 (1 + qpZ.1)) qlg.1).bind fun qnD => ((qbH.f x1000 qlg.2.1 qlg.2.2 2).bind fun qh2 => (if qh2.1 = true then (qaq.j2 k x1000 qh2.2.1 qh2.2.2 qnD.1 qnD.2) else (qaq.l0 k (wrap64 (x5 - 1)) x1000 qh2.2.1 qh2.2.2 qnD.1 qnD.2)))))) else (qaq.j2 k x1000 qfR qfS qfT qgJ)
end
def qaq.f (k : Nat) (qbk : List Int) (qc2 : Int) (qdU : Int) : Option (ByteArray × Int × Int × Int) := (qan.f qbk qc2 qdU 20).bind fun qa5 => ((qan.f qbk qa5.2.1 qa5.2.2 4).bind fun qf8 => ((qan.f qbk qf8.2.1 qf8.2.2 10000).bind fun qgs => ((qaH.f k (wrap64 (6 + qa5.1)) qf8.1 qgs.1).bind fun qgt => (if qgt.2.2 = true then (qaq.j0 k qbk qgs.2.1 qgs.2.2 qgt.1 qgt.2.1) else (qaq.j0 k qbk qgs.2.1 qgs.2.2 (⟨#[111, 120, 111, 120, 111, 120]⟩ : ByteArray) 1)))))
def qaq.T17 : Bool × List (List Nat × List Nat) := (true, [([], []), ([0], [0]), ([], []), ([], []), ([2, 3], [2, 3]), ([1, 4], [1, 4]), ([0, 1, 2, 3, 4, 5], []), ([6, 5, 4, 0, 1, 2, 3, 4, 5], [5, 6])])
def qaq.B17 : List Nat := [0, 1, 0, 0, 12, 31, 63, 127]
theorem qaq.tab17 : qhD .any (opsOf Tryz.f64 17) = qaq.T17 := by kernel_rfl
theorem qaq.bits17 : qeE qaq.T17.2 qaq.B17 = true := by kernel_rfl
theorem qaq.calls (k : Nat) (g : Nat) (qbk : List Int) (qc2 : Int) (qdU : Int) (r1 : ByteArray) (r2 : Int) (r3 : Int) (r4 : Int) (w0 w : World) (hI : qaE w0 w g qbk qc2 qdU) (hB : Below w0.heap.size w0 w) (h : qaq.f k qbk qc2 qdU = some (r1, r2, r3, r4)) :
  Calls Tryz.prog 64 #[.pointer (some ⟨g, 0, none⟩)] w fun e w' => e = .returned (.agg #[.string r1, .int .i64 r2]) ∧ qaE w0 w' g qbk r3 r4 ∧ Below w0.heap.size w0 w' ∧ qak w w' g none := by
 have qiv := Tryz.underlying23; have HI0 := ak_ hI; have HK := ak_ (qak.refl w g none); have HL := ak_ hB.size; clear hI; have HW0 := ak_ hB.size; have HB := ak_ hB; clear hB; have H : ((qan.f qbk qc2 qdU 20).bind fun qa5 => ((qan.f qbk qa5.2.1 qa5.2.2 4).bind fun qf8 => ((qan.f qbk qf8.2.1 qf8.2.2 10000).bind fun qgs => ((qaH.f k (wrap64 (6 + qa5.1)) qf8.1 qgs.1).bind fun qgt => (if qgt.2.2 = true then (qaq.j0 k qbk qgs.2.1 qgs.2.2 qgt.1 qgt.2.1) else (qaq.j0 k qbk qgs.2.1 qgs.2.2 (⟨#[111, 120, 111, 120, 111, 120]⟩ : ByteArray) 1)))))) = some (r1, r2, r3, r4) := h; clear h; obtain ⟨⟨qaF, qaX, qcC⟩, A2, H⟩ := qbh H; (try dsimp only at H); obtain ⟨⟨t105, qgH, t107⟩, A3, H⟩ := qbh H; (try dsimp only at H); obtain ⟨⟨qd5, t109, qky⟩, A4, H⟩ := qbh H; (try dsimp only at H); obtain ⟨⟨qsc, qif, qeD⟩, A5, H⟩ := qbh H; (try dsimp only at H); have HC6 := ak_ H; clear H; go_enter Tryz.func64, Tryz.ntmps64
 go_upto_if 19 with (first | ((with_reducible refine qas (N := 2) rfl ?_); refine bx_ 2 (cs := #[.string (⟨#[]⟩ : ByteArray), .int .i64 0]) (t := 23) qa0 ?_; intro qaR hg w7 hbox hb; replace HB := ak_ (qac qdO hb); have qai := ak_ (hbox); have qcB := ak_ ((by rw [hg]; exact (qbw (w := w) (g := g) (row := none) qcW) : w.heap.size ≤ qaR)); have qcg := ak_ ((Nat.le_trans HW0.out (by rw [hg]; exact (qbw (w := w) (g := g) (row := none) qcW) : w.heap.size ≤ qaR) : w0.heap.size ≤ qaR)); replace HK := ak_ (qak.trans qcW (qak.qbG hb g none) (.inl rfl)); have qfX := ak_ ((by rw [hg]; exact Nat.ne_of_lt (qaE.lt (show qaE w0 _ g qbk qc2 qdU from qcR)) : g ≠ qaR)); have qcF := ak_ ((by rw [hg]; exact Nat.ne_of_gt (qaE.lt (show qaE w0 _ g qbk qc2 qdU from qcR)) : qaR ≠ g)); replace HI0 := ak_ (qaE.below qcR hb); clear hb hbox hg) | ((with_reducible refine qad (f := 66) rfl ?_); refine gl_ 9 Tryz.func66 #[.pointer (some ⟨g, 0, none⟩), .int .i64 20] rfl qbK ?_; (with_reducible refine (qan.calls g qbk qc2 qdU 20 qaF qaX qcC w0 _ ?qaB ?qaC A2.out).mono ?_); (case qaB => exact qrP); (case qaC => exact k63_); rintro e w8 ⟨rfl, hi, hb, hk⟩; refine ⟨_, rfl, ?_⟩; replace qai := ak_ (qak.blk hk (g' := qaR) (o := .cells #[.string (⟨#[]⟩ : ByteArray), .int .i64 0] 23 (0, 0)) qch qcF.out (by simp)); replace HK := ak_ (qak.trans qrQ hk (.inl rfl)); replace HB := ak_ (hb); replace HI0 := ak_ (hi); (try clear hb hk hi)) | ((with_reducible refine qad (f := 66) rfl ?_); refine gl_ 12 Tryz.func66 #[.pointer (some ⟨g, 0, none⟩), .int .i64 4] rfl qbK ?_; (with_reducible refine (qan.calls g qbk qaX qcC 4 t105 qgH t107 w0 _ ?qaB ?qaC A3.out).mono ?_); (case qaB => exact qrP); (case qaC => exact k63_); rintro e w9 ⟨rfl, hi, hb, hk⟩; refine ⟨_, rfl, ?_⟩; replace qai := ak_ (qak.blk hk (g' := qaR) (o := .cells #[.string (⟨#[]⟩ : ByteArray), .int .i64 0] 23 (0, 0)) qch qcF.out (by simp)); replace HK := ak_ (qak.trans qrQ hk (.inl rfl)); replace HB := ak_ (hb); replace HI0 := ak_ (hi); (try clear hb hk hi)) | ((with_reducible refine qad (f := 66) rfl ?_); refine gl_ 14 Tryz.func66 #[.pointer (some ⟨g, 0, none⟩), .int .i64 10000] rfl qbK ?_; (with_reducible refine (qan.calls g qbk qgH t107 10000 qd5 t109 qky w0 _ ?qaB ?qaC A4.out).mono ?_); (case qaB => exact qrP); (case qaC => exact k63_); rintro e w10 ⟨rfl, hi, hb, hk⟩; refine ⟨_, rfl, ?_⟩; replace qai := ak_ (qak.blk hk (g' := qaR) (o := .cells #[.string (⟨#[]⟩ : ByteArray), .int .i64 0] 23 (0, 0)) qch qcF.out (by simp)); replace HK := ak_ (qak.trans qrQ hk (.inl rfl)); replace HB := ak_ (hb); replace HI0 := ak_ (hi); (try clear hb hk hi)) | ((with_reducible refine qad (f := 88) rfl ?_); refine gl_ 15 Tryz.func88 #[.int .i64 (wrap64 (6 + qaF)), .int .i64 t105, .int .i64 qd5] rfl qbK ?_; (with_reducible refine (qaH.calls k (wrap64 (6 + qaF)) t105 qd5 qsc qif qeD _ A5.out).mono ?_); rintro e w11 ⟨rfl, hb⟩; refine ⟨_, rfl, ?_⟩; replace qai := ak_ (qam qch hb); replace HK := ak_ (qak.trans qrQ (qak.qbG hb g none) (.inl rfl)); replace HB := ak_ (qac k63_ hb); replace HI0 := ak_ (qaE.below qrP hb); (try clear hb)) | ((with_reducible refine qas (N := 3) rfl ?_); refine bx_ 3 (cs := #[.string (⟨#[]⟩ : ByteArray), .int .i64 0]) (t := 23) qa0 ?_; intro qeW hg w12 hbox hb; replace HB := ak_ (qac k63_ hb); have qbT := ak_ (hbox); have GW114 := ak_ ((by rw [hg]; exact (qbw (w := w) (g := g) (row := none) qrQ) : w.heap.size ≤ qeW)); have GE114 := ak_ ((Nat.le_trans HW0.out (by rw [hg]; exact (qbw (w := w) (g := g) (row := none) qrQ) : w.heap.size ≤ qeW) : w0.heap.size ≤ qeW)); replace HK := ak_ (qak.trans qrQ (qak.qbG hb g none) (.inl rfl)); have qcO := ak_ (qai.ne hg); have qeu := ak_ (qai.ne hg).symm; replace qai := ak_ (qam qch hb); have qhf := ak_ ((by rw [hg]; exact Nat.ne_of_lt (qaE.lt (show qaE w0 _ g qbk t109 qky from qrP)) : g ≠ qeW)); have qdR := ak_ ((by rw [hg]; exact Nat.ne_of_gt (qaE.lt (show qaE w0 _ g qbk t109 qky from qrP)) : qeW ≠ g)); replace HI0 := ak_ (qaE.below qrP hb); clear hb hbox hg; have hnb13 := qeu.out; have hnc13 := qcO.out; have hnb14 := qdR.out; have hnc14 := qhf.out; obtain ⟨qiN, qiO, qiV, qiW⟩ := qa2 qbT.out))
 (try simp only [Act.put, List.setIfInBounds_toArray, List.set_cons_zero, List.set_cons_succ])
 go_cut [] (fun wc => ∃ (kq : Nat) (qig : ByteArray) (qih : Int), qah (qaq.j0 kq qbk t109 qky qig qih = some (r1, r2, r3, r4)) ∧ qah (kq ≤ k) ∧ qah (wc.heap[qaR]? = some (.cells #[.string (⟨#[]⟩ : ByteArray), .int .i64 0] 23 (0, 0))) ∧ qah (wc.heap[qeW]? = some (.cells #[.string qig, .int .i64 qih] 23 (0, 0))) ∧ qah (qaE w0 wc g qbk t109 qky) ∧ qah (qak w wc g none) ∧ qah (Below w0.heap.size w0 wc))
 case first =>
  have H := HC6.out; clear HC6; by_cases c16 : qeD = true
  ·subst c16; rw [if_pos rfl] at H; have H' := ak_ H; clear H; go_wp2; go_meet
   case rel => exact ⟨_, (qsc), (qif), H', ⟨qg6⟩, ⟨k30_⟩, ⟨by (with_reducible repeat (first | refine qag ?_ _ | refine qae ?_ | refine qaf ?_ _)); refine qaQ (cs := #[.string qsc, .int .i64 0]) ?_ 1 _ rfl; (with_reducible repeat (first | refine qag ?_ _ | refine qae ?_ | refine qaf ?_ _)); refine qaQ (cs := #[.string (⟨#[]⟩ : ByteArray), .int .i64 0]) ?_ 0 _ rfl; apply_rules only [qbT.out, qag, qae, qaf]⟩, ⟨qg0⟩, ⟨qha⟩, ⟨qia⟩⟩
  replace c16 := Bool.eq_false_iff.mpr c16; subst c16; rw [if_neg (show ¬ (false = true) by decide)] at H; have H' := ak_ H; clear H; have hnb17 := qeu.out; have hnc17 := qcO.out; have hnb18 := qdR.out; have hnc18 := qhf.out; obtain ⟨qnT, qnU, qob, qoc⟩ := qa2 qbT.out; go_wp2; go_meet
  case rel => exact ⟨_, ((⟨#[111, 120, 111, 120, 111, 120]⟩ : ByteArray)), (1), H', ⟨qg6⟩, ⟨by (with_reducible repeat (first | refine qag ?_ _ | refine qae ?_ | refine qaf ?_ _)); refine qa4 ?_ qcO.out _; (with_reducible repeat (first | refine qag ?_ _ | refine qae ?_ | refine qaf ?_ _)); refine qa4 ?_ qcO.out _; (with_reducible repeat (first | refine qag ?_ _ | refine qae ?_ | refine qaf ?_ _)); refine qa4 ?_ qcO.out _; (with_reducible repeat (first | refine qag ?_ _ | refine qae ?_ | refine qaf ?_ _)); refine qa4 ?_ qcO.out _; apply_rules only [qai.out, qag, qae, qaf]⟩, ⟨by (with_reducible repeat (first | refine qag ?_ _ | refine qae ?_ | refine qaf ?_ _)); refine qaQ (cs := #[.string (⟨#[111, 120, 111, 120, 111, 120]⟩ : ByteArray), .int .i64 qif]) ?_ 1 _ rfl; (with_reducible repeat (first | refine qag ?_ _ | refine qae ?_ | refine qaf ?_ _)); refine qaQ (cs := #[.string qsc, .int .i64 qif]) ?_ 0 _ rfl; (with_reducible repeat (first | refine qag ?_ _ | refine qae ?_ | refine qaf ?_ _)); refine qaQ (cs := #[.string qsc, .int .i64 0]) ?_ 1 _ rfl; (with_reducible repeat (first | refine qag ?_ _ | refine qae ?_ | refine qaf ?_ _)); refine qaQ (cs := #[.string (⟨#[]⟩ : ByteArray), .int .i64 0]) ?_ 0 _ rfl; apply_rules only [qbT.out, qag, qae, qaf]⟩, ⟨qg0⟩, ⟨qha⟩, ⟨qia⟩⟩
 case rest =>
  clear HC6; (try clear qiN); (try clear qiO); (try clear qiV); (try clear qiW); obtain ⟨kq, qig, qih, HA, HJ5, qai, qbT, HI0, HK, HB⟩ := hcut
  cases kq with
  | zero => exact absurd HA.out (by simp [qaq.j0])
  | succ kj5 =>
   have H := HA.out; clear HA; simp only [qaq.j0] at H; obtain ⟨⟨qgZ, t116, t117⟩, A20, H⟩ := qbh H; (try dsimp only at H); have HC21 := ak_ H; clear H
   go_upto_block 0 with (first | ((with_reducible refine qad (f := 66) rfl ?_); refine gl_ 22 Tryz.func66 #[.pointer (some ⟨g, 0, none⟩), .int .i64 8] rfl qbK ?_; (with_reducible refine (qan.calls g qbk t109 qky 8 qgZ t116 t117 w0 _ ?qaB ?qaC A20.out).mono ?_); (case qaB => exact qg0); (case qaC => exact qia); rintro e w22 ⟨rfl, hi, hb, hk⟩; refine ⟨_, rfl, ?_⟩; replace qai := ak_ (qak.blk hk (g' := qaR) (o := .cells #[.string (⟨#[]⟩ : ByteArray), .int .i64 0] 23 (0, 0)) qch qcF.out (by simp)); replace qbT := ak_ (qak.blk hk (g' := qeW) (o := .cells #[.string qig, .int .i64 qih] 23 (0, 0)) qhm qdR.out (by simp)); replace HK := ak_ (qak.trans qha hk (.inl rfl)); replace HB := ak_ (hb); replace HI0 := ak_ (hi); (try clear hb hk hi)))
   (try simp only [Act.put, List.setIfInBounds_toArray, List.set_cons_zero, List.set_cons_succ])
   go_cut [] (fun wc => ∃ (kq : Nat) (qhr : Int) (qht : Int) (qdx : ByteArray) (qcl : Int), qah (qaq.j2 kq qbk qhr qht qdx qcl = some (r1, r2, r3, r4)) ∧ qah (kq ≤ kj5) ∧ qah (wc.heap[qaR]? = some (.cells #[.string (⟨#[]⟩ : ByteArray), .int .i64 0] 23 (0, 0))) ∧ qah (wc.heap[qeW]? = some (.cells #[.string qdx, .int .i64 qcl] 23 (0, 0))) ∧ qah (qaE w0 wc g qbk qhr qht) ∧ qah (qak w wc g none) ∧ qah (Below w0.heap.size w0 wc))
   case first =>
    have H := HC21.out; clear HC21; have H' := ak_ H; clear H; go_wp2
    go_loopg [5] kj5 (fun kq v5 w' => ∃ (qi8 : Int) (qj8 : Int) (qj9 : Int) (qc6 : ByteArray) (qdE : Int), v5 = .int .i64 qi8 ∧ qah (qaq.l0 kq qi8 qbk qj8 qj9 qc6 qdE = some (r1, r2, r3, r4)) ∧ qah (kq ≤ kj5) ∧ qah (w'.heap[qaR]? = some (.cells #[.string (⟨#[]⟩ : ByteArray), .int .i64 0] 23 (0, 0))) ∧ qah (w'.heap[qeW]? = some (.cells #[.string qc6, .int .i64 qdE] 23 (0, 0))) ∧ qah (qaE w0 w' g qbk qj8 qj9) ∧ qah (qak w w' g none) ∧ qah (Below w0.heap.size w0 w'))
    case atStart => exact ⟨(qgZ), (t116), (t117), (qig), (qih), qbg, H', ⟨Nat.le_refl _⟩, ⟨qch⟩, ⟨qhm⟩, ⟨qg0⟩, ⟨qha⟩, ⟨qia⟩⟩
    case round =>
     clear H'
     skip
     obtain ⟨qi8, qj8, qj9, qc6, qdE, rfl, HA, HK2, qai, qbT, HI0, HK, HB⟩ := hrel
     cases gk with
     | zero => exact absurd HA.out (by simp [qaq.l0])
     | succ k2 =>
      have H := HA.out; clear HA; simp only [qaq.l0] at H; by_cases c23 : qi8 > 0; rotate_left
      ·rw [if_neg c23] at H; have qnG : decide (0 < qi8) = false := decide_eq_false c23; clear c23; (first | rw [qnG] | rw [c23b1] | (simp only [qbL, qbQ]; rw [qnG]) | skip); have H' := ak_ H; clear H; go_wp2; go_meet
       case rel => exact ⟨_, (qj8), (qj9), (qc6), (qdE), H', ⟨by have := HJ5.out; have := HK2.out; first | omega | exact Nat.le_refl _⟩, ⟨qch⟩, ⟨qhm⟩, ⟨qg0⟩, ⟨qha⟩, ⟨qia⟩⟩
      rw [if_pos c23] at H; have qnG : decide (0 < qi8) = true := decide_eq_true c23; clear c23; (first | rw [qnG] | rw [c23b1] | (simp only [qbL, qbQ]; rw [qnG]) | skip); obtain ⟨⟨qra, t119, qen⟩, A24, H⟩ := qbh H; (try dsimp only at H)
      obtain ⟨y121, hy_⟩ : ∃ y_ : List ByteArray, y_ = (([(⟨#[63]⟩ : ByteArray), (⟨#[63]⟩ : ByteArray), (⟨#[63]⟩ : ByteArray), (⟨#[111]⟩ : ByteArray), (⟨#[120]⟩ : ByteArray)] : List ByteArray)) := ⟨_, rfl⟩
      replace H : ((qcA.f qbk t119 qen y121).bind fun qlg => ((qc5.f qc6 qdE (wrap64 (1 + qra)) qlg.1).bind fun qnD => ((qbH.f qbk qlg.2.1 qlg.2.2 2).bind fun qh2 => (if qh2.1 = true then (qaq.j2 k2 qbk qh2.2.1 qh2.2.2 qnD.1 qnD.2) else (qaq.l0 k2 (wrap64 (qi8 - 1)) qbk qh2.2.1 qh2.2.2 qnD.1 qnD.2))))) = some (r1, r2, r3, r4) := qkG; have Ny121 := ak_ hy_; clear hy_; obtain ⟨⟨t124, qd8, qng⟩, A25, H⟩ := qbh H; (try dsimp only at H); obtain ⟨⟨t127, qf2⟩, A26, H⟩ := qbh H; (try dsimp only at H); obtain ⟨⟨qpz, t130, t131⟩, A27, H⟩ := qbh H; (try dsimp only at H); by_cases c28 : qpz = true
      ·subst c28; rw [if_pos rfl] at H; have H' := ak_ H; clear H; have hnb29 := qeu.out; have hnc29 := qcO.out; have hnb30 := qdR.out; have hnc30 := qhf.out; obtain ⟨qh6, qh7, qh8, qh9⟩ := qa2 qbT.out
       try go_wp2_with (first | ((with_reducible refine qad (f := 66) rfl ?_); refine gl_ 31 Tryz.func66 #[.pointer (some ⟨g, 0, none⟩), .int .i64 (qc6.size : Int)] rfl qbK ?_; (with_reducible refine (qan.calls g qbk qj8 qj9 (qc6.size : Int) qra t119 qen w0 _ ?qaB ?qaC A24.out).mono ?_); (case qaB => exact qg0); (case qaC => exact qia); rintro e w32 ⟨rfl, hi, hb, hk⟩; refine ⟨_, rfl, ?_⟩; replace qai := ak_ (qak.blk hk (g' := qaR) (o := .cells #[.string (⟨#[]⟩ : ByteArray), .int .i64 0] 23 (0, 0)) qch qcF.out (by simp)); replace qbT := ak_ (qak.blk hk (g' := qeW) (o := .cells #[.string qc6, .int .i64 qdE] 23 (0, 0)) qhm qdR.out (by simp)); replace HK := ak_ (qak.trans qha hk (.inl rfl)); replace HB := ak_ (hb); replace HI0 := ak_ (hi); (try clear hb hk hi)))
       replace qai := ak_ (qae qai.out); replace qbT := ak_ (qae qbT.out); replace HI0 := ak_ (qaE.drew HI0.out); replace HK := ak_ (qee HK.out); replace HB := ak_ (qap HB.out); refine qc7 (n := 7) (S := fun w' => w'.cell? ⟨qeW, 0, none⟩ = some (.string qc6) ∧ w'.cell? ⟨qeW, 1, none⟩ = some (.int .i64 qdE)) (ds := [6]) #[false, false, false, false, false, false, false] (by kernel_rfl) rfl rfl ⟨qbj qbT.out, qbm qbT.out⟩ (fun hHeld => ?_)
       generalize w32.drew = w33 at qai qbT HI0 HK HB hHeld ⊢
       refine qef (i := 1) (N := some 34) (v := ?_) (a' := ?_) #[false, true, false, false, false, false, false] rfl rfl (by kernel_rfl) (fun _ _ _ h => h) (Or.inl ⟨by rfl, ?_⟩) ?_ ?_; rotate_left
       ·intro w'; go_simp
        with_reducible rfl
       rotate_left
       ·simp only [Act.put, List.setIfInBounds_toArray, List.set_cons_zero, List.set_cons_succ, qbL, qbQ]; rfl
       refine qef (i := 2) (N := some 35) (v := ?_) (a' := ?_) #[false, true, true, false, false, false, false] rfl rfl (by kernel_rfl) (fun _ _ _ h => h) (Or.inl ⟨by rfl, ?_⟩) ?_ ?_; rotate_left
       ·intro w'; go_simp
        with_reducible rfl
       rotate_left
       ·simp only [Act.put, List.setIfInBounds_toArray, List.set_cons_zero, List.set_cons_succ, qbL, qbQ]; rfl
       refine qg9 (i := 0) (N := some 33) (v := ?_) (a' := ?_) #[true, true, true, false, false, false, false] rfl rfl (by kernel_rfl) (fun _ _ _ h => h) (Or.inl ⟨by rfl, ?_⟩) hHeld ?_ ?_; rotate_left
       ·rintro w' ⟨s0, s1⟩; go_simp
        with_reducible rfl
       rotate_left
       ·simp only [Act.put, List.setIfInBounds_toArray, List.set_cons_zero, List.set_cons_succ, qbL, qbQ]; rfl
       refine qe2 (i := 3) (N := some 36) #[true, true, true, true, false, false, false] rfl rfl (by kernel_rfl) (by decide) (fun K hK => ?_); refine Kd.qde Kd.string _ 9 ?hg (N := 36) ?hd (xs := ([(⟨#[63]⟩ : ByteArray), (⟨#[63]⟩ : ByteArray), (⟨#[63]⟩ : ByteArray), (⟨#[111]⟩ : ByteArray), (⟨#[120]⟩ : ByteArray)] : List ByteArray)) (inner := [.string (⟨#[63]⟩ : ByteArray), .string (⟨#[63]⟩ : ByteArray), .string (⟨#[63]⟩ : ByteArray), .string (⟨#[111]⟩ : ByteArray), .string (⟨#[120]⟩ : ByteArray)]) (ok := fun _ => True) (okp := fun _ => True) ?hr ?hp (fun _ hk => hk) trivial (Below.refl _ _) (Nat.le_refl _) (by simp) ?_; (case hd => rfl); (case hg => rfl); (case hr => exact qa0); (case hp => exact (qcj.one (show Kd.M Kd.string _ _ _ (⟨#[63]⟩ : ByteArray) [.string (⟨#[63]⟩ : ByteArray)] from rfl) (qcj.one (show Kd.M Kd.string _ _ _ (⟨#[63]⟩ : ByteArray) [.string (⟨#[63]⟩ : ByteArray)] from rfl) (qcj.one (show Kd.M Kd.string _ _ _ (⟨#[63]⟩ : ByteArray) [.string (⟨#[63]⟩ : ByteArray)] from rfl) (qcj.one (show Kd.M Kd.string _ _ _ (⟨#[111]⟩ : ByteArray) [.string (⟨#[111]⟩ : ByteArray)] from rfl) (qcj.one (show Kd.M Kd.string _ _ _ (⟨#[120]⟩ : ByteArray) [.string (⟨#[120]⟩ : ByteArray)] from rfl) (qcj.none _ _))))))); intro qja w34 ho35 hb hg_ hnew_; clear hg_ hnew_; (first | rw [← Ny121.out] at ho35 | (simp only [Int.reduceToNat] at ho35; rw [← Ny121.out] at ho35)); have qda := ak_ (Kd.qby ho35 (qbw (w := w) (g := g) (row := none) qha)); replace qai := ak_ (qam qch hb); replace qbT := qbT.mw hb; replace HK := ak_ (qak.trans qha (qak.qbG hb g none) (.inl rfl)); replace HB := ak_ (qac qia hb); replace HI0 := ak_ (qaE.below qg0 hb); clear hb ho35; obtain ⟨Ao36, co36, eo36⟩ := Kd.qbC qda.out; (first | subst eo36 | (injection eo36 with f1_ f2_ f3_; have f4_ := f1_.symm; have f5_ := f3_.symm; clear f1_ f2_ f3_; subst f4_; subst f5_)); refine hK.out _ _ ⟨qbj qbT.out, qbm qbT.out⟩ (fun hHeld => ?_); clear hK K; refine nm_ 36 ?_; refine qe2 (i := 4) (N := some 37) #[true, true, true, true, true, false, false] rfl rfl (by kernel_rfl) (by decide) (fun K hK => ?_); refine qdz Tryz.func90 (by kernel_rfl) rfl #[.pointer (some ⟨g, 0, none⟩), .slice Ao36 y121.length co36] (by rfl) rfl rfl qbK ?_
       with_reducible refine (qcA.calls g qbk t119 qen _ _ y121 t124 qd8 qng w0 _ ?qaB ?qaC ?qdC ?qdD ?qhq A25.out).mono ?_
       (case qaB => exact qg0)
       (case qaC => exact qia)
       (case qdC => exact k73_)
       (case qdD => exact (Kd.R_reads' qda.out).2.1)
       (case qhq => exact qf5 (qaE.qgj HI0.out qda.out (by decide)))
       rintro e w37 ⟨rfl, hi, hb, hk⟩; refine ⟨_, rfl, ?_⟩; replace qai := ak_ (qak.blk hk (g' := qaR) (o := .cells #[.string (⟨#[]⟩ : ByteArray), .int .i64 0] 23 (0, 0)) qch qcF.out (by simp)); replace qbT := ak_ (qak.blk hk (g' := qeW) (o := .cells #[.string qc6, .int .i64 qdE] 23 (0, 0)) qhm qdR.out (by simp)); replace qda := ak_ (Kd.qaT (Kd.qdM (qaE.apart (show qaE w0 _ g qbk t119 qen from qg0) qkt (by decide)) hk (fun _ h => h.2)) (fun _ h => h.1)); replace HK := ak_ (qak.trans qha hk (.inl rfl)); replace HB := ak_ (hb); replace HI0 := ak_ (hi); (try clear hb); (try clear hb2); (try clear hk); (try clear hi); refine hK.out _ _ ⟨qbj qbT.out, qbm qbT.out⟩ (fun hHeld => ?_); clear hK K; refine nm_ 37 ?_; refine qe2 (i := 5) (N := some 38) #[true, true, true, true, true, true, false] rfl rfl (by kernel_rfl) (by decide) (fun K hK => ?_); refine qdz Tryz.func89 (by kernel_rfl) rfl #[.agg #[.string qc6, .int .i64 qdE], .int .i64 (wrap64 (1 + qra)), .string t124] (by rfl) rfl rfl qbK ?_
       with_reducible refine (qc5.calls qc6 qdE (wrap64 (1 + qra)) t124 t127 qf2 _ A26.out).mono ?_
       rintro e w38 ⟨rfl, hb⟩; refine ⟨_, rfl, ?_⟩; replace qda := qda.mw hb; replace qai := ak_ (qam qch hb); replace qbT := qbT.mw hb; replace HK := ak_ (qak.trans qha (qak.qbG hb g none) (.inl rfl)); replace HB := ak_ (qac qia hb); replace HI0 := ak_ (qaE.below qg0 hb); (try clear hb); (try clear hb2); (try clear hk); (try clear hi); refine hK.out _ _ ⟨qbj qbT.out, qbm qbT.out⟩ (fun hHeld => ?_); clear hK K; refine nm_ 38 ?_; refine qpf (i := 6) (N := none) #[true, true, true, true, true, true, true] rfl rfl (by kernel_rfl) (by decide) (fun K hK => ?_); obtain ⟨hs39, hfs39⟩ := qo0 qbT.out; have hns39_0 := qcO.out; have hms39_0 := qeu.out; have hs40 := qbm qbT.out; have hfs40 := qaU qbT.out 1; have hns40_0 := qcO.out; have hms40_0 := qeu.out; refine qmF (w1 := ?_) (by rfl) rfl ?_ ?_; rotate_left
       ·go_simp; rfl
       refine hK.out _ _ ?_; clear hK K; refine qeI (by kernel_rfl) ?_
       try go_wp2_with (first | ((with_reducible refine qad (f := 65) rfl ?_); refine gl_ 40 Tryz.func65 #[.pointer (some ⟨g, 0, none⟩), .int .i64 2] rfl qbK ?_; (with_reducible refine (qbH.calls g qbk qd8 qng 2 true t130 t131 w0 _ ?qaB ?qaC A27.out).mono ?_); (case qaB => exact qg0); (case qaC => exact qia); rintro e w41 ⟨rfl, hi, hb, hk⟩; refine ⟨_, rfl, ?_⟩; replace qai := ak_ (qak.blk hk (g' := qaR) (o := .cells #[.string (⟨#[]⟩ : ByteArray), .int .i64 0] 23 (0, 0)) k30_ qcF.out (by simp)); replace qda := ak_ (Kd.qaT (Kd.qdM (qaE.apart (show qaE w0 _ g qbk qd8 qng from qg0) k53_ (by decide)) hk (fun _ h => h.2)) (fun _ h => h.1)); replace qbT := ak_ (qak.blk hk (g' := qeW) (o := .cells #[.string t127, .int .i64 qf2] 23 (0, 0)) k12_ qdR.out (by simp)); replace HK := ak_ (qak.trans qha hk (.inl rfl)); replace HB := ak_ (hb); replace HI0 := ak_ (hi); (try clear hb hk hi)))
       go_meet
       case rel => exact ⟨_, (t130), (t131), (t127), (qf2), H', ⟨by have := HJ5.out; have := HK2.out; first | omega | exact Nat.le_refl _⟩, ⟨qch⟩, ⟨qhm⟩, ⟨qg0⟩, ⟨qha⟩, ⟨qia⟩⟩
      replace c28 := Bool.eq_false_iff.mpr c28; subst c28; rw [if_neg (show ¬ (false = true) by decide)] at H; have H' := ak_ H; clear H; have hnb42 := qeu.out; have hnc42 := qcO.out; have hnb43 := qdR.out; have hnc43 := qhf.out; obtain ⟨hcz44_0, hcz44_1, hfz44_0, hfz44_1⟩ := qa2 qbT.out
      try go_wp2_with (first | ((with_reducible refine qad (f := 66) rfl ?_); refine gl_ 31 Tryz.func66 #[.pointer (some ⟨g, 0, none⟩), .int .i64 (qc6.size : Int)] rfl qbK ?_; (with_reducible refine (qan.calls g qbk qj8 qj9 (qc6.size : Int) qra t119 qen w0 _ ?qaB ?qaC A24.out).mono ?_); (case qaB => exact qg0); (case qaC => exact qia); rintro e w45 ⟨rfl, hi, hb, hk⟩; refine ⟨_, rfl, ?_⟩; replace qai := ak_ (qak.blk hk (g' := qaR) (o := .cells #[.string (⟨#[]⟩ : ByteArray), .int .i64 0] 23 (0, 0)) qch qcF.out (by simp)); replace qbT := ak_ (qak.blk hk (g' := qeW) (o := .cells #[.string qc6, .int .i64 qdE] 23 (0, 0)) qhm qdR.out (by simp)); replace HK := ak_ (qak.trans qha hk (.inl rfl)); replace HB := ak_ (hb); replace HI0 := ak_ (hi); (try clear hb hk hi)))
      replace qai := ak_ (qae qai.out); replace qbT := ak_ (qae qbT.out); replace HI0 := ak_ (qaE.drew HI0.out); replace HK := ak_ (qee HK.out); replace HB := ak_ (qap HB.out); refine qc7 (n := 7) (S := fun w' => w'.cell? ⟨qeW, 0, none⟩ = some (.string qc6) ∧ w'.cell? ⟨qeW, 1, none⟩ = some (.int .i64 qdE)) (ds := [6]) #[false, false, false, false, false, false, false] (by kernel_rfl) rfl rfl ⟨qbj qbT.out, qbm qbT.out⟩ (fun hHeld => ?_)
      generalize w45.drew = w46 at qai qbT HI0 HK HB hHeld ⊢
      refine qef (i := 1) (N := some 34) (v := ?_) (a' := ?_) #[false, true, false, false, false, false, false] rfl rfl (by kernel_rfl) (fun _ _ _ h => h) (Or.inl ⟨by rfl, ?_⟩) ?_ ?_; rotate_left
      ·intro w'; go_simp
       with_reducible rfl
      rotate_left
      ·simp only [Act.put, List.setIfInBounds_toArray, List.set_cons_zero, List.set_cons_succ, qbL, qbQ]; rfl
      refine qef (i := 2) (N := some 35) (v := ?_) (a' := ?_) #[false, true, true, false, false, false, false] rfl rfl (by kernel_rfl) (fun _ _ _ h => h) (Or.inl ⟨by rfl, ?_⟩) ?_ ?_; rotate_left
      ·intro w'; go_simp
       with_reducible rfl
      rotate_left
      ·simp only [Act.put, List.setIfInBounds_toArray, List.set_cons_zero, List.set_cons_succ, qbL, qbQ]; rfl
      refine qg9 (i := 0) (N := some 33) (v := ?_) (a' := ?_) #[true, true, true, false, false, false, false] rfl rfl (by kernel_rfl) (fun _ _ _ h => h) (Or.inl ⟨by rfl, ?_⟩) hHeld ?_ ?_; rotate_left
      ·rintro w' ⟨s0, s1⟩; go_simp
       with_reducible rfl
      rotate_left
      ·simp only [Act.put, List.setIfInBounds_toArray, List.set_cons_zero, List.set_cons_succ, qbL, qbQ]; rfl
      refine qe2 (i := 3) (N := some 36) #[true, true, true, true, false, false, false] rfl rfl (by kernel_rfl) (by decide) (fun K hK => ?_); refine Kd.qde Kd.string _ 9 ?hg (N := 36) ?hd (xs := ([(⟨#[63]⟩ : ByteArray), (⟨#[63]⟩ : ByteArray), (⟨#[63]⟩ : ByteArray), (⟨#[111]⟩ : ByteArray), (⟨#[120]⟩ : ByteArray)] : List ByteArray)) (inner := [.string (⟨#[63]⟩ : ByteArray), .string (⟨#[63]⟩ : ByteArray), .string (⟨#[63]⟩ : ByteArray), .string (⟨#[111]⟩ : ByteArray), .string (⟨#[120]⟩ : ByteArray)]) (ok := fun _ => True) (okp := fun _ => True) ?hr ?hp (fun _ hk => hk) trivial (Below.refl _ _) (Nat.le_refl _) (by simp) ?_; (case hd => rfl); (case hg => rfl); (case hr => exact qa0); (case hp => exact (qcj.one (show Kd.M Kd.string _ _ _ (⟨#[63]⟩ : ByteArray) [.string (⟨#[63]⟩ : ByteArray)] from rfl) (qcj.one (show Kd.M Kd.string _ _ _ (⟨#[63]⟩ : ByteArray) [.string (⟨#[63]⟩ : ByteArray)] from rfl) (qcj.one (show Kd.M Kd.string _ _ _ (⟨#[63]⟩ : ByteArray) [.string (⟨#[63]⟩ : ByteArray)] from rfl) (qcj.one (show Kd.M Kd.string _ _ _ (⟨#[111]⟩ : ByteArray) [.string (⟨#[111]⟩ : ByteArray)] from rfl) (qcj.one (show Kd.M Kd.string _ _ _ (⟨#[120]⟩ : ByteArray) [.string (⟨#[120]⟩ : ByteArray)] from rfl) (qcj.none _ _))))))); intro qja w47 ho48 hb hg_ hnew_; clear hg_ hnew_; (first | rw [← Ny121.out] at ho48 | (simp only [Int.reduceToNat] at ho48; rw [← Ny121.out] at ho48)); have qda := ak_ (Kd.qby ho48 (qbw (w := w) (g := g) (row := none) qha)); replace qai := ak_ (qam qch hb); replace qbT := qbT.mw hb; replace HK := ak_ (qak.trans qha (qak.qbG hb g none) (.inl rfl)); replace HB := ak_ (qac qia hb); replace HI0 := ak_ (qaE.below qg0 hb); clear hb ho48; obtain ⟨Ao49, co49, eo49⟩ := Kd.qbC qda.out; (first | subst eo49 | (injection eo49 with f1_ f2_ f3_; have f4_ := f1_.symm; have f5_ := f3_.symm; clear f1_ f2_ f3_; subst f4_; subst f5_)); refine hK.out _ _ ⟨qbj qbT.out, qbm qbT.out⟩ (fun hHeld => ?_); clear hK K; refine nm_ 36 ?_; refine qe2 (i := 4) (N := some 37) #[true, true, true, true, true, false, false] rfl rfl (by kernel_rfl) (by decide) (fun K hK => ?_); refine qdz Tryz.func90 (by kernel_rfl) rfl #[.pointer (some ⟨g, 0, none⟩), .slice Ao49 y121.length co49] (by rfl) rfl rfl qbK ?_
      with_reducible refine (qcA.calls g qbk t119 qen _ _ y121 t124 qd8 qng w0 _ ?qaB ?qaC ?qdC ?qdD ?qhq A25.out).mono ?_
      (case qaB => exact qg0)
      (case qaC => exact qia)
      (case qdC => exact k73_)
      (case qdD => exact (Kd.R_reads' qda.out).2.1)
      (case qhq => exact qf5 (qaE.qgj HI0.out qda.out (by decide)))
      rintro e w50 ⟨rfl, hi, hb, hk⟩; refine ⟨_, rfl, ?_⟩; replace qai := ak_ (qak.blk hk (g' := qaR) (o := .cells #[.string (⟨#[]⟩ : ByteArray), .int .i64 0] 23 (0, 0)) qch qcF.out (by simp)); replace qbT := ak_ (qak.blk hk (g' := qeW) (o := .cells #[.string qc6, .int .i64 qdE] 23 (0, 0)) qhm qdR.out (by simp)); replace qda := ak_ (Kd.qaT (Kd.qdM (qaE.apart (show qaE w0 _ g qbk t119 qen from qg0) qkt (by decide)) hk (fun _ h => h.2)) (fun _ h => h.1)); replace HK := ak_ (qak.trans qha hk (.inl rfl)); replace HB := ak_ (hb); replace HI0 := ak_ (hi); (try clear hb); (try clear hb2); (try clear hk); (try clear hi); refine hK.out _ _ ⟨qbj qbT.out, qbm qbT.out⟩ (fun hHeld => ?_); clear hK K; refine nm_ 37 ?_; refine qe2 (i := 5) (N := some 38) #[true, true, true, true, true, true, false] rfl rfl (by kernel_rfl) (by decide) (fun K hK => ?_); refine qdz Tryz.func89 (by kernel_rfl) rfl #[.agg #[.string qc6, .int .i64 qdE], .int .i64 (wrap64 (1 + qra)), .string t124] (by rfl) rfl rfl qbK ?_
      with_reducible refine (qc5.calls qc6 qdE (wrap64 (1 + qra)) t124 t127 qf2 _ A26.out).mono ?_
      rintro e w51 ⟨rfl, hb⟩; refine ⟨_, rfl, ?_⟩; replace qda := qda.mw hb; replace qai := ak_ (qam qch hb); replace qbT := qbT.mw hb; replace HK := ak_ (qak.trans qha (qak.qbG hb g none) (.inl rfl)); replace HB := ak_ (qac qia hb); replace HI0 := ak_ (qaE.below qg0 hb); (try clear hb); (try clear hb2); (try clear hk); (try clear hi); refine hK.out _ _ ⟨qbj qbT.out, qbm qbT.out⟩ (fun hHeld => ?_); clear hK K; refine nm_ 38 ?_; refine qpf (i := 6) (N := none) #[true, true, true, true, true, true, true] rfl rfl (by kernel_rfl) (by decide) (fun K hK => ?_); obtain ⟨hs52, hfs52⟩ := qo0 qbT.out; have hns52_0 := qcO.out; have hms52_0 := qeu.out; have hs53 := qbm qbT.out; have hfs53 := qaU qbT.out 1; have hns53_0 := qcO.out; have hms53_0 := qeu.out; refine qmF (w1 := ?_) (by rfl) rfl ?_ ?_; rotate_left
      ·go_simp; rfl
      refine hK.out _ _ ?_; clear hK K; refine qeI (by kernel_rfl) ?_
      try go_wp2_with (first | ((with_reducible refine qad (f := 65) rfl ?_); refine gl_ 40 Tryz.func65 #[.pointer (some ⟨g, 0, none⟩), .int .i64 2] rfl qbK ?_; (with_reducible refine (qbH.calls g qbk qd8 qng 2 false t130 t131 w0 _ ?qaB ?qaC A27.out).mono ?_); (case qaB => exact qg0); (case qaC => exact qia); rintro e w54 ⟨rfl, hi, hb, hk⟩; refine ⟨_, rfl, ?_⟩; replace qai := ak_ (qak.blk hk (g' := qaR) (o := .cells #[.string (⟨#[]⟩ : ByteArray), .int .i64 0] 23 (0, 0)) k30_ qcF.out (by simp)); replace qda := ak_ (Kd.qaT (Kd.qdM (qaE.apart (show qaE w0 _ g qbk qd8 qng from qg0) k53_ (by decide)) hk (fun _ h => h.2)) (fun _ h => h.1)); replace qbT := ak_ (qak.blk hk (g' := qeW) (o := .cells #[.string t127, .int .i64 qf2] 23 (0, 0)) k12_ qdR.out (by simp)); replace HK := ak_ (qak.trans qha hk (.inl rfl)); replace HB := ak_ (hb); replace HI0 := ak_ (hi); (try clear hb hk hi)))
      go_roundg k2
      case measure => have := HJ5.out; have := HK2.out; omega
      case rel => exact ⟨(wrap64 (qi8 - 1)), (t130), (t131), (t127), (qf2), qbg, H', ⟨by have := HJ5.out; have := HK2.out; omega⟩, ⟨qch⟩, ⟨qhm⟩, ⟨qg0⟩, ⟨qha⟩, ⟨qia⟩⟩
   case rest =>
    clear HC21
    skip
    obtain ⟨kq, qhr, qht, qdx, qcl, HA, HJ20, qai, qbT, HI0, HK, HB⟩ := hcut
    cases kq with
    | zero => exact absurd HA.out (by simp [qaq.j2])
    | succ kj20 =>
     have H := HA.out; clear HA; simp only [qaq.j2] at H; obtain ⟨⟨qf7, qfq, quj⟩, A55, H⟩ := qbh H; (try dsimp only at H); by_cases c56 : qf7 = 0
     ·rw [if_pos c56] at H; have c56b0 : (qf7 == 0) = true := beq_iff_eq.mpr c56; have c56b1 : (qf7 != 0) = false := bne_eq_false_iff_eq.mpr c56; clear c56
      obtain ⟨y135, hy_⟩ : ∃ y_ : List Int, y_ = (([(-1), 4, 4611686018427387904] : List Int)) := ⟨_, rfl⟩
      replace H : ((qbE.f qbk qfq quj y135).bind fun qp1 => (some (qdx, qp1.1, qp1.2.1, qp1.2.2))) = some (r1, r2, r3, r4) := qkG; have Ny135 := ak_ hy_; clear hy_; obtain ⟨⟨t138, t139, qj7⟩, A57, H⟩ := qbh H; (try dsimp only at H); simp only [Option.some.injEq, Prod.mk.injEq] at H; obtain ⟨rfl, rfl, rfl, rfl⟩ := H
      go_wp2_with (first | ((with_reducible refine qad (f := 66) rfl ?_); refine gl_ 42 Tryz.func66 #[.pointer (some ⟨g, 0, none⟩), .int .i64 16] rfl qbK ?_; (with_reducible refine (qan.calls g qbk qhr qht 16 qf7 qfq quj w0 _ ?qaB ?qaC A55.out).mono ?_); (case qaB => exact qg0); (case qaC => exact qia); rintro e w58 ⟨rfl, hi, hb, hk⟩; refine ⟨_, rfl, ?_⟩; replace qai := ak_ (qak.blk hk (g' := qaR) (o := .cells #[.string (⟨#[]⟩ : ByteArray), .int .i64 0] 23 (0, 0)) qch qcF.out (by simp)); replace qbT := ak_ (qak.blk hk (g' := qeW) (o := .cells #[.string qdx, .int .i64 qcl] 23 (0, 0)) qhm qdR.out (by simp)); replace HK := ak_ (qak.trans qha hk (.inl rfl)); replace HB := ak_ (hb); replace HI0 := ak_ (hi); (try clear hb hk hi)) | ((with_reducible refine qas (N := 46) rfl ?_); refine Kd.qgM (Kd.int .i64) _ 3 ?hg (N := 46) ?hd (xs := ([(-1), 4, 4611686018427387904] : List Int)) (inner := [.int .i64 (-1), .int .i64 4, .int .i64 4611686018427387904]) (ok := fun _ => True) (okp := fun _ => True) ?hr ?hp (fun _ hk => hk) trivial (Below.refl _ _) (Nat.le_refl _) (by simp) ?_; (case hd => rfl); (case hg => rfl); (case hr => exact qa0); (case hp => exact (qcj.one (show Kd.M (Kd.int .i64) _ _ _ (-1) [.int .i64 (-1)] from rfl) (qcj.one (show Kd.M (Kd.int .i64) _ _ _ 4 [.int .i64 4] from rfl) (qcj.one (show Kd.M (Kd.int .i64) _ _ _ 4611686018427387904 [.int .i64 4611686018427387904] from rfl) (qcj.none _ _))))); intro v136 w59 ho60 hb hg_ hnew_; clear hg_ hnew_; (first | rw [← Ny135.out] at ho60 | (simp only [Int.reduceToNat] at ho60; rw [← Ny135.out] at ho60)); have qrr := ak_ (Kd.qby ho60 (qbw (w := w) (g := g) (row := none) qha)); replace qai := ak_ (qam qch hb); replace qbT := qbT.mw hb; replace HK := ak_ (qak.trans qha (qak.qbG hb g none) (.inl rfl)); replace HB := ak_ (qac qia hb); replace HI0 := ak_ (qaE.below qg0 hb); clear hb ho60; obtain ⟨Ao61, co61, eo61⟩ := Kd.qbC qrr.out; subst eo61) | ((with_reducible refine qad (f := 91) rfl ?_); refine gl_ 47 Tryz.func91 #[.pointer (some ⟨g, 0, none⟩), .slice Ao61 y135.length co61] rfl qbK ?_; (with_reducible refine (qbE.calls g qbk qfq quj _ _ y135 t138 t139 qj7 w0 _ ?qaB ?qaC ?qdC ?qdD ?qhq A57.out).mono ?_); (case qaB => exact qg0); (case qaC => exact qia); (case qdC => exact k74_); (case qdD => exact (Kd.R_reads' qrr.out).2.1); (case qhq => exact qf5 (qaE.qgj HI0.out qrr.out (by decide))); rintro e w62 ⟨rfl, hi, hb, hk⟩; refine ⟨_, rfl, ?_⟩; replace qai := ak_ (qak.blk hk (g' := qaR) (o := .cells #[.string (⟨#[]⟩ : ByteArray), .int .i64 0] 23 (0, 0)) qch qcF.out (by simp)); replace qbT := ak_ (qak.blk hk (g' := qeW) (o := .cells #[.string qdx, .int .i64 qcl] 23 (0, 0)) qhm qdR.out (by simp)); replace qrr := ak_ (Kd.qaT (Kd.qdM (qaE.apart (show qaE w0 _ g qbk qfq quj from qg0) (by apply_rules only [qrr.out, Kd.qaA, Kd.qaz, Kd.qaL]) (by decide)) hk (fun _ h => h.2)) (fun _ h => h.1)); replace HK := ak_ (qak.trans qha hk (.inl rfl)); replace HB := ak_ (hb); replace HI0 := ak_ (hi); (try clear hb hk hi); have hnb63 := qeu.out; have hnc63 := qcO.out; have hnb64 := qdR.out; have hnc64 := qhf.out; obtain ⟨hcz65_0, hcz65_1, hfz65_0, hfz65_1⟩ := qa2 qbT.out; have hnb66 := qcF.out; have hnc66 := qfX.out; obtain ⟨hcz67_0, hcz67_1, hfz67_0, hfz67_1⟩ := qa2 qai.out))
      refine bodyPost_ret (results_cell_row rfl _ _ qaR 23 #[.string qdx, .int .i64 t138] (0, 0) _ rfl (by (with_reducible repeat (first | refine qag ?_ _ | refine qae ?_ | refine qaf ?_ _)); refine qaQ (cs := #[.string qdx, .int .i64 0]) ?_ 1 _ rfl; (with_reducible repeat (first | refine qag ?_ _ | refine qae ?_ | refine qaf ?_ _)); refine qaQ (cs := #[.string (⟨#[]⟩ : ByteArray), .int .i64 0]) ?_ 0 _ rfl; (with_reducible repeat (first | refine qag ?_ _ | refine qae ?_ | refine qaf ?_ _)); refine qa4 ?_ qcO.out _; apply_rules only [qai.out, qag, qae, qaf]) Tryz.underlying23 rfl (by kernel_rfl)) rfl ?_; exact ⟨qbx, qg0, qia, qha⟩
     rw [if_neg c56] at H; have c56b0 : (qf7 == 0) = false := beq_eq_false_iff_ne.mpr c56; have c56b1 : (qf7 != 0) = true := bne_iff_ne.mpr c56; by_cases c68 : qf7 = 1
     ·rw [if_pos c68] at H; have c68b0 : (qf7 == 1) = true := beq_iff_eq.mpr c68; have c68b1 : (qf7 != 1) = false := bne_eq_false_iff_eq.mpr c68; clear c68
      obtain ⟨y141, hy_⟩ : ∃ y_ : List ByteArray, y_ = (([(⟨#[]⟩ : ByteArray), (⟨#[120]⟩ : ByteArray), (⟨#[111]⟩ : ByteArray), (⟨#[63]⟩ : ByteArray), (⟨#[111, 120, 122]⟩ : ByteArray), (⟨#[120, 120, 120]⟩ : ByteArray)] : List ByteArray)) := ⟨_, rfl⟩
      replace H : ((qcA.f qbk qfq quj y141).bind fun qp2 => (some (qp2.1, qcl, qp2.2.1, qp2.2.2))) = some (r1, r2, r3, r4) := qkG; have Ny141 := ak_ hy_; clear hy_; obtain ⟨⟨qgO, t145, t146⟩, A69, H⟩ := qbh H; (try dsimp only at H); simp only [Option.some.injEq, Prod.mk.injEq] at H; obtain ⟨rfl, rfl, rfl, rfl⟩ := H
      go_wp2_with (first | ((with_reducible refine qad (f := 66) rfl ?_); refine gl_ 42 Tryz.func66 #[.pointer (some ⟨g, 0, none⟩), .int .i64 16] rfl qbK ?_; (with_reducible refine (qan.calls g qbk qhr qht 16 qf7 qfq quj w0 _ ?qaB ?qaC A55.out).mono ?_); (case qaB => exact qg0); (case qaC => exact qia); rintro e w70 ⟨rfl, hi, hb, hk⟩; refine ⟨_, rfl, ?_⟩; replace qai := ak_ (qak.blk hk (g' := qaR) (o := .cells #[.string (⟨#[]⟩ : ByteArray), .int .i64 0] 23 (0, 0)) qch qcF.out (by simp)); replace qbT := ak_ (qak.blk hk (g' := qeW) (o := .cells #[.string qdx, .int .i64 qcl] 23 (0, 0)) qhm qdR.out (by simp)); replace HK := ak_ (qak.trans qha hk (.inl rfl)); replace HB := ak_ (hb); replace HI0 := ak_ (hi); (try clear hb hk hi)) | ((with_reducible refine qas (N := 52) rfl ?_); refine Kd.qgM Kd.string _ 9 ?hg (N := 52) ?hd (xs := ([(⟨#[]⟩ : ByteArray), (⟨#[120]⟩ : ByteArray), (⟨#[111]⟩ : ByteArray), (⟨#[63]⟩ : ByteArray), (⟨#[111, 120, 122]⟩ : ByteArray), (⟨#[120, 120, 120]⟩ : ByteArray)] : List ByteArray)) (inner := [.string (⟨#[]⟩ : ByteArray), .string (⟨#[120]⟩ : ByteArray), .string (⟨#[111]⟩ : ByteArray), .string (⟨#[63]⟩ : ByteArray), .string (⟨#[111, 120, 122]⟩ : ByteArray), .string (⟨#[120, 120, 120]⟩ : ByteArray)]) (ok := fun _ => True) (okp := fun _ => True) ?hr ?hp (fun _ hk => hk) trivial (Below.refl _ _) (Nat.le_refl _) (by simp) ?_; (case hd => rfl); (case hg => rfl); (case hr => exact qa0); (case hp => exact (qcj.one (show Kd.M Kd.string _ _ _ (⟨#[]⟩ : ByteArray) [.string (⟨#[]⟩ : ByteArray)] from rfl) (qcj.one (show Kd.M Kd.string _ _ _ (⟨#[120]⟩ : ByteArray) [.string (⟨#[120]⟩ : ByteArray)] from rfl) (qcj.one (show Kd.M Kd.string _ _ _ (⟨#[111]⟩ : ByteArray) [.string (⟨#[111]⟩ : ByteArray)] from rfl) (qcj.one (show Kd.M Kd.string _ _ _ (⟨#[63]⟩ : ByteArray) [.string (⟨#[63]⟩ : ByteArray)] from rfl) (qcj.one (show Kd.M Kd.string _ _ _ (⟨#[111, 120, 122]⟩ : ByteArray) [.string (⟨#[111, 120, 122]⟩ : ByteArray)] from rfl) (qcj.one (show Kd.M Kd.string _ _ _ (⟨#[120, 120, 120]⟩ : ByteArray) [.string (⟨#[120, 120, 120]⟩ : ByteArray)] from rfl) (qcj.none _ _)))))))); intro v142 w71 ho72 hb hg_ hnew_; clear hg_ hnew_; (first | rw [← Ny141.out] at ho72 | (simp only [Int.reduceToNat] at ho72; rw [← Ny141.out] at ho72)); have qrs := ak_ (Kd.qby ho72 (qbw (w := w) (g := g) (row := none) qha)); replace qai := ak_ (qam qch hb); replace qbT := qbT.mw hb; replace HK := ak_ (qak.trans qha (qak.qbG hb g none) (.inl rfl)); replace HB := ak_ (qac qia hb); replace HI0 := ak_ (qaE.below qg0 hb); clear hb ho72; obtain ⟨Ao73, co73, eo73⟩ := Kd.qbC qrs.out; subst eo73) | ((with_reducible refine qad (f := 90) rfl ?_); refine gl_ 53 Tryz.func90 #[.pointer (some ⟨g, 0, none⟩), .slice Ao73 y141.length co73] rfl qbK ?_; (with_reducible refine (qcA.calls g qbk qfq quj _ _ y141 qgO t145 t146 w0 _ ?qaB ?qaC ?qdC ?qdD ?qhq A69.out).mono ?_); (case qaB => exact qg0); (case qaC => exact qia); (case qdC => repeat (first | exact (Kd.R_reads' qrs.out).2.2 | (with_reducible refine Kd.qbV ?_ _) | (with_reducible refine Kd.qbW ?_ _) | (with_reducible refine Kd.qcs ?_))); (case qdD => exact (Kd.R_reads' qrs.out).2.1); (case qhq => exact qf5 (qaE.qgj HI0.out qrs.out (by decide))); rintro e w74 ⟨rfl, hi, hb, hk⟩; refine ⟨_, rfl, ?_⟩; replace qai := ak_ (qak.blk hk (g' := qaR) (o := .cells #[.string (⟨#[]⟩ : ByteArray), .int .i64 0] 23 (0, 0)) qch qcF.out (by simp)); replace qbT := ak_ (qak.blk hk (g' := qeW) (o := .cells #[.string qdx, .int .i64 qcl] 23 (0, 0)) qhm qdR.out (by simp)); replace qrs := ak_ (Kd.qaT (Kd.qdM (qaE.apart (show qaE w0 _ g qbk qfq quj from qg0) (by apply_rules only [qrs.out, Kd.qaA, Kd.qaz, Kd.qaL]) (by decide)) hk (fun _ h => h.2)) (fun _ h => h.1)); replace HK := ak_ (qak.trans qha hk (.inl rfl)); replace HB := ak_ (hb); replace HI0 := ak_ (hi); (try clear hb hk hi); have hnb75 := qeu.out; have hnc75 := qcO.out; have hnb76 := qdR.out; have hnc76 := qhf.out; obtain ⟨hcz77_0, hcz77_1, hfz77_0, hfz77_1⟩ := qa2 qbT.out; have hnb78 := qcF.out; have hnc78 := qfX.out; obtain ⟨hcz79_0, hcz79_1, hfz79_0, hfz79_1⟩ := qa2 qai.out))
      refine bodyPost_ret (results_cell_row rfl _ _ qaR 23 #[.string qgO, .int .i64 qcl] (0, 0) _ rfl (by (with_reducible repeat (first | refine qag ?_ _ | refine qae ?_ | refine qaf ?_ _)); refine qaQ (cs := #[.string qgO, .int .i64 0]) ?_ 1 _ rfl; (with_reducible repeat (first | refine qag ?_ _ | refine qae ?_ | refine qaf ?_ _)); refine qaQ (cs := #[.string (⟨#[]⟩ : ByteArray), .int .i64 0]) ?_ 0 _ rfl; (with_reducible repeat (first | refine qag ?_ _ | refine qae ?_ | refine qaf ?_ _)); refine qa4 ?_ qcO.out _; apply_rules only [qai.out, qag, qae, qaf]) Tryz.underlying23 rfl (by kernel_rfl)) rfl ?_; exact ⟨qbx, qg0, qia, qha⟩
     rw [if_neg c68] at H; have c68b0 : (qf7 == 1) = false := beq_eq_false_iff_ne.mpr c68; have c68b1 : (qf7 != 1) = true := bne_iff_ne.mpr c68; by_cases c80 : qf7 = 2; rotate_left
     ·rw [if_neg c80] at H; have c80b0 : (qf7 == 2) = false := beq_eq_false_iff_ne.mpr c80; have c80b1 : (qf7 != 2) = true := bne_iff_ne.mpr c80; simp only [Option.some.injEq, Prod.mk.injEq] at H; obtain ⟨rfl, rfl, rfl, rfl⟩ := H
      go_wp2_with (first | ((with_reducible refine qad (f := 66) rfl ?_); refine gl_ 42 Tryz.func66 #[.pointer (some ⟨g, 0, none⟩), .int .i64 16] rfl qbK ?_; (with_reducible refine (qan.calls g qbk qhr qht 16 qf7 qfq quj w0 _ ?qaB ?qaC A55.out).mono ?_); (case qaB => exact qg0); (case qaC => exact qia); rintro e w101 ⟨rfl, hi, hb, hk⟩; refine ⟨_, rfl, ?_⟩; replace qai := ak_ (qak.blk hk (g' := qaR) (o := .cells #[.string (⟨#[]⟩ : ByteArray), .int .i64 0] 23 (0, 0)) qch qcF.out (by simp)); replace qbT := ak_ (qak.blk hk (g' := qeW) (o := .cells #[.string qdx, .int .i64 qcl] 23 (0, 0)) qhm qdR.out (by simp)); replace HK := ak_ (qak.trans qha hk (.inl rfl)); replace HB := ak_ (hb); replace HI0 := ak_ (hi); (try clear hb hk hi); have hnb102 := qeu.out; have hnc102 := qcO.out; have hnb103 := qdR.out; have hnc103 := qhf.out; obtain ⟨hcz104_0, hcz104_1, hfz104_0, hfz104_1⟩ := qa2 qbT.out; have hnb105 := qcF.out; have hnc105 := qfX.out; obtain ⟨hcz106_0, hcz106_1, hfz106_0, hfz106_1⟩ := qa2 qai.out))
      refine bodyPost_ret (results_cell_row rfl _ _ qaR 23 #[.string qdx, .int .i64 qcl] (0, 0) _ rfl (by (with_reducible repeat (first | refine qag ?_ _ | refine qae ?_ | refine qaf ?_ _)); refine qaQ (cs := #[.string qdx, .int .i64 0]) ?_ 1 _ rfl; (with_reducible repeat (first | refine qag ?_ _ | refine qae ?_ | refine qaf ?_ _)); refine qaQ (cs := #[.string (⟨#[]⟩ : ByteArray), .int .i64 0]) ?_ 0 _ rfl; apply_rules only [qai.out, qag, qae, qaf]) Tryz.underlying23 rfl (by kernel_rfl)) rfl ?_; exact ⟨qbx, qg0, qia, qha⟩
     rw [if_pos c80] at H; have c80b0 : (qf7 == 2) = true := beq_iff_eq.mpr c80; have c80b1 : (qf7 != 2) = false := bne_eq_false_iff_eq.mpr c80; clear c80; have H' := ak_ H; clear H
     go_wp2_with (first | ((with_reducible refine qad (f := 66) rfl ?_); refine gl_ 42 Tryz.func66 #[.pointer (some ⟨g, 0, none⟩), .int .i64 16] rfl qbK ?_; (with_reducible refine (qan.calls g qbk qhr qht 16 qf7 qfq quj w0 _ ?qaB ?qaC A55.out).mono ?_); (case qaB => exact qg0); (case qaC => exact qia); rintro e w81 ⟨rfl, hi, hb, hk⟩; refine ⟨_, rfl, ?_⟩; replace qai := ak_ (qak.blk hk (g' := qaR) (o := .cells #[.string (⟨#[]⟩ : ByteArray), .int .i64 0] 23 (0, 0)) qch qcF.out (by simp)); replace qbT := ak_ (qak.blk hk (g' := qeW) (o := .cells #[.string qdx, .int .i64 qcl] 23 (0, 0)) qhm qdR.out (by simp)); replace HK := ak_ (qak.trans qha hk (.inl rfl)); replace HB := ak_ (hb); replace HI0 := ak_ (hi); (try clear hb hk hi)))
     go_loopg [] kj20 (fun kq w' => ∃ (qfw : Int) (qfx : Int) (qcX : ByteArray), qah (qaq.l1 kq qbk qfw qfx qcX qcl = some (r1, r2, r3, r4)) ∧ qah (kq ≤ kj20) ∧ qah (w'.heap[qaR]? = some (.cells #[.string (⟨#[]⟩ : ByteArray), .int .i64 0] 23 (0, 0))) ∧ qah (w'.heap[qeW]? = some (.cells #[.string qcX, .int .i64 qcl] 23 (0, 0))) ∧ qah (qaE w0 w' g qbk qfw qfx) ∧ qah (qak w w' g none) ∧ qah (Below w0.heap.size w0 w'))
     case atStart => exact ⟨(qfq), (quj), (qdx), H', ⟨Nat.le_refl _⟩, ⟨qch⟩, ⟨qhm⟩, ⟨qg0⟩, ⟨qha⟩, ⟨qia⟩⟩
     case round =>
      clear H'
      skip
      obtain ⟨qfw, qfx, qcX, HA, HK3, qai, qbT, HI0, HK, HB⟩ := hrel
      cases gk with
      | zero => exact absurd HA.out (by simp [qaq.l1])
      | succ k3 =>
       have H := HA.out; clear HA; simp only [qaq.l1] at H; obtain ⟨⟨qfW, t148, qi7⟩, A82, H⟩ := qbh H; (try dsimp only at H); by_cases c83 : (qcX.size : Int) < (wrap64 (48 + qfW)); rotate_left
       ·rw [if_neg c83] at H; have c83b0 : decide ((qcX.size : Int) < (wrap64 (48 + qfW))) = false := decide_eq_false c83; clear c83; simp only [Option.some.injEq, Prod.mk.injEq] at H; obtain ⟨rfl, rfl, rfl, rfl⟩ := H
        try go_wp2
        replace qai := ak_ (qae qai.out); replace qbT := ak_ (qae qbT.out); replace HI0 := ak_ (qaE.drew HI0.out); replace HK := ak_ (qee HK.out); replace HB := ak_ (qap HB.out); refine qc7 (n := 7) (S := fun w' => w'.cell? ⟨qeW, 0, none⟩ = some (.string qcX) ∧ w'.cell? ⟨qeW, 1, none⟩ = some (.int .i64 qcl)) (ds := []) #[false, false, false, false, false, false, false] (by kernel_rfl) rfl rfl ⟨qbj qbT.out, qbm qbT.out⟩ (fun hHeld => ?_)
        generalize wr.drew = w94 at qai qbT HI0 HK HB hHeld ⊢
        refine qef (i := 0) (N := some 57) (v := ?_) (a' := ?_) #[true, false, false, false, false, false, false] rfl rfl (by kernel_rfl) (fun _ _ _ h => h) (Or.inl ⟨by rfl, ?_⟩) ?_ ?_; rotate_left
        ·intro w'; go_simp
         with_reducible rfl
        rotate_left
        ·simp only [Act.put, List.setIfInBounds_toArray, List.set_cons_zero, List.set_cons_succ, qbL, qbQ]; rfl
        refine qef (i := 3) (N := some 60) (v := ?_) (a' := ?_) #[true, false, false, true, false, false, false] rfl rfl (by kernel_rfl) (fun _ _ _ h => h) (Or.inl ⟨by rfl, ?_⟩) ?_ ?_; rotate_left
        ·intro w'; go_simp
         with_reducible rfl
        rotate_left
        ·simp only [Act.put, List.setIfInBounds_toArray, List.set_cons_zero, List.set_cons_succ, qbL, qbQ]; rfl
        refine qg9 (i := 1) (N := some 58) (v := ?_) (a' := ?_) #[true, true, false, true, false, false, false] rfl rfl (by kernel_rfl) (fun _ _ _ h => h) (Or.inl ⟨by rfl, ?_⟩) hHeld ?_ ?_; rotate_left
        ·rintro w' ⟨s0, s1⟩; go_simp
         with_reducible rfl
        rotate_left
        ·simp only [Act.put, List.setIfInBounds_toArray, List.set_cons_zero, List.set_cons_succ, qbL, qbQ]; rfl
        refine qef (i := 2) (N := some 59) (v := ?_) (a' := ?_) #[true, true, true, true, false, false, false] rfl rfl (by kernel_rfl) (fun _ _ _ h => h) (Or.inl ⟨by rfl, ?_⟩) ?_ ?_; rotate_left
        ·intro w'; go_simp
         with_reducible rfl
        rotate_left
        ·simp only [Act.put, List.setIfInBounds_toArray, List.set_cons_zero, List.set_cons_succ, qbL, qbQ]; rfl
        refine qe2 (i := 4) (N := some 61) #[true, true, true, true, true, false, false] rfl rfl (by kernel_rfl) (by decide) (fun K hK => ?_); refine qdz Tryz.func66 (by kernel_rfl) rfl #[.pointer (some ⟨g, 0, none⟩), .int .i64 2] (by rfl) rfl rfl qbK ?_
        with_reducible refine (qan.calls g qbk qfw qfx 2 qfW t148 qi7 w0 _ ?qaB ?qaC A82.out).mono ?_
        (case qaB => exact qg0)
        (case qaC => exact qia)
        rintro e w95 ⟨rfl, hi, hb, hk⟩; refine ⟨_, rfl, ?_⟩; replace qai := ak_ (qak.blk hk (g' := qaR) (o := .cells #[.string (⟨#[]⟩ : ByteArray), .int .i64 0] 23 (0, 0)) qch qcF.out (by simp)); replace qbT := ak_ (qak.blk hk (g' := qeW) (o := .cells #[.string qcX, .int .i64 qcl] 23 (0, 0)) qhm qdR.out (by simp)); replace HK := ak_ (qak.trans qha hk (.inl rfl)); replace HB := ak_ (hb); replace HI0 := ak_ (hi); (try clear hb); (try clear hb2); (try clear hk); (try clear hi); refine hK.out _ _ ⟨qbj qbT.out, qbm qbT.out⟩ (fun hHeld => ?_); clear hK K; refine nm_ 61 ?_; refine qef (i := 5) (N := some 62) (v := ?_) (a' := ?_) #[true, true, true, true, true, true, false] rfl rfl (by kernel_rfl) (fun _ _ _ h => h) (Or.inl ⟨by rfl, ?_⟩) ?_ ?_; rotate_left
        ·intro w'; go_simp
         with_reducible rfl
        rotate_left
        ·simp only [Act.put, List.setIfInBounds_toArray, List.set_cons_zero, List.set_cons_succ, qbL, qbQ]; rfl
        refine qef (i := 6) (N := some 63) (v := ?_) (a' := ?_) #[true, true, true, true, true, true, true] rfl rfl (by kernel_rfl) (fun _ _ _ h => h) (Or.inl ⟨by rfl, ?_⟩) ?_ ?_; rotate_left
        ·intro w'; go_simp
         with_reducible rfl
        rotate_left
        ·simp only [Act.put, List.setIfInBounds_toArray, List.set_cons_zero, List.set_cons_succ, qbL, qbQ]; rfl
        refine qeI (by kernel_rfl) ?_; have hnb96 := qeu.out; have hnc96 := qcO.out; have hnb97 := qdR.out; have hnc97 := qhf.out; obtain ⟨hcz98_0, hcz98_1, hfz98_0, hfz98_1⟩ := qa2 qbT.out; have hnb99 := qcF.out; have hnc99 := qfX.out; obtain ⟨hcz100_0, hcz100_1, hfz100_0, hfz100_1⟩ := qa2 qai.out
        try go_wp2
        refine bodyPost_ret (results_cell_row rfl _ _ qaR 23 #[.string qcX, .int .i64 qcl] (0, 0) _ rfl (by (with_reducible repeat (first | refine qag ?_ _ | refine qae ?_ | refine qaf ?_ _)); refine qaQ (cs := #[.string qcX, .int .i64 0]) ?_ 1 _ rfl; (with_reducible repeat (first | refine qag ?_ _ | refine qae ?_ | refine qaf ?_ _)); refine qaQ (cs := #[.string (⟨#[]⟩ : ByteArray), .int .i64 0]) ?_ 0 _ rfl; apply_rules only [qai.out, qag, qae, qaf]) Tryz.underlying23 rfl (by kernel_rfl)) rfl ?_; exact ⟨qbx, qg0, qia, qha⟩
       rw [if_pos c83] at H; have c83b0 : decide ((qcX.size : Int) < (wrap64 (48 + qfW))) = true := decide_eq_true c83; clear c83
       obtain ⟨y150, hy_⟩ : ∃ y_ : List ByteArray, y_ = (([(⟨#[120]⟩ : ByteArray), (⟨#[111]⟩ : ByteArray), (⟨#[63]⟩ : ByteArray)] : List ByteArray)) := ⟨_, rfl⟩
       replace H : ((qcA.f qbk t148 qi7 y150).bind fun qgW => (if qcX.size + qgW.1.size ≤ 9223372036854775807 then (qaq.l1 k3 qbk qgW.2.1 qgW.2.2 (qcX ++ qgW.1) qcl) else (none))) = some (r1, r2, r3, r4) := qkG; have Ny150 := ak_ hy_; clear hy_; obtain ⟨⟨qki, t154, qsd⟩, A84, H⟩ := qbh H; (try dsimp only at H); by_cases c85 : qcX.size + qki.size ≤ 9223372036854775807; rotate_left
       ·rw [if_neg c85] at H; exact absurd H (by simp)
       rw [if_pos c85] at H; have c85b0 := eq_true c85; have c85b1 : decide (qcX.size + qki.size ≤ 9223372036854775807) = true := decide_eq_true c85
       try have c85b2 : (9223372036854775807 < qcX.size + qki.size) = False := eq_false (Nat.not_lt.2 c85)
       have H' := ak_ H; clear H
       try go_wp2
       replace qai := ak_ (qae qai.out); replace qbT := ak_ (qae qbT.out); replace HI0 := ak_ (qaE.drew HI0.out); replace HK := ak_ (qee HK.out); replace HB := ak_ (qap HB.out); refine qc7 (n := 7) (S := fun w' => w'.cell? ⟨qeW, 0, none⟩ = some (.string qcX) ∧ w'.cell? ⟨qeW, 1, none⟩ = some (.int .i64 qcl)) (ds := []) #[false, false, false, false, false, false, false] (by kernel_rfl) rfl rfl ⟨qbj qbT.out, qbm qbT.out⟩ (fun hHeld => ?_)
       generalize wr.drew = w86 at qai qbT HI0 HK HB hHeld ⊢
       refine qef (i := 0) (N := some 57) (v := ?_) (a' := ?_) #[true, false, false, false, false, false, false] rfl rfl (by kernel_rfl) (fun _ _ _ h => h) (Or.inl ⟨by rfl, ?_⟩) ?_ ?_; rotate_left
       ·intro w'; go_simp
        with_reducible rfl
       rotate_left
       ·simp only [Act.put, List.setIfInBounds_toArray, List.set_cons_zero, List.set_cons_succ, qbL, qbQ]; rfl
       refine qef (i := 3) (N := some 60) (v := ?_) (a' := ?_) #[true, false, false, true, false, false, false] rfl rfl (by kernel_rfl) (fun _ _ _ h => h) (Or.inl ⟨by rfl, ?_⟩) ?_ ?_; rotate_left
       ·intro w'; go_simp
        with_reducible rfl
       rotate_left
       ·simp only [Act.put, List.setIfInBounds_toArray, List.set_cons_zero, List.set_cons_succ, qbL, qbQ]; rfl
       refine qg9 (i := 1) (N := some 58) (v := ?_) (a' := ?_) #[true, true, false, true, false, false, false] rfl rfl (by kernel_rfl) (fun _ _ _ h => h) (Or.inl ⟨by rfl, ?_⟩) hHeld ?_ ?_; rotate_left
       ·rintro w' ⟨s0, s1⟩; go_simp
        with_reducible rfl
       rotate_left
       ·simp only [Act.put, List.setIfInBounds_toArray, List.set_cons_zero, List.set_cons_succ, qbL, qbQ]; rfl
       refine qef (i := 2) (N := some 59) (v := ?_) (a' := ?_) #[true, true, true, true, false, false, false] rfl rfl (by kernel_rfl) (fun _ _ _ h => h) (Or.inl ⟨by rfl, ?_⟩) ?_ ?_; rotate_left
       ·intro w'; go_simp
        with_reducible rfl
       rotate_left
       ·simp only [Act.put, List.setIfInBounds_toArray, List.set_cons_zero, List.set_cons_succ, qbL, qbQ]; rfl
       refine qe2 (i := 4) (N := some 61) #[true, true, true, true, true, false, false] rfl rfl (by kernel_rfl) (by decide) (fun K hK => ?_); refine qdz Tryz.func66 (by kernel_rfl) rfl #[.pointer (some ⟨g, 0, none⟩), .int .i64 2] (by rfl) rfl rfl qbK ?_
       with_reducible refine (qan.calls g qbk qfw qfx 2 qfW t148 qi7 w0 _ ?qaB ?qaC A82.out).mono ?_
       (case qaB => exact qg0)
       (case qaC => exact qia)
       rintro e w87 ⟨rfl, hi, hb, hk⟩; refine ⟨_, rfl, ?_⟩; replace qai := ak_ (qak.blk hk (g' := qaR) (o := .cells #[.string (⟨#[]⟩ : ByteArray), .int .i64 0] 23 (0, 0)) qch qcF.out (by simp)); replace qbT := ak_ (qak.blk hk (g' := qeW) (o := .cells #[.string qcX, .int .i64 qcl] 23 (0, 0)) qhm qdR.out (by simp)); replace HK := ak_ (qak.trans qha hk (.inl rfl)); replace HB := ak_ (hb); replace HI0 := ak_ (hi); (try clear hb); (try clear hb2); (try clear hk); (try clear hi); refine hK.out _ _ ⟨qbj qbT.out, qbm qbT.out⟩ (fun hHeld => ?_); clear hK K; refine nm_ 61 ?_; refine qef (i := 5) (N := some 62) (v := ?_) (a' := ?_) #[true, true, true, true, true, true, false] rfl rfl (by kernel_rfl) (fun _ _ _ h => h) (Or.inl ⟨by rfl, ?_⟩) ?_ ?_; rotate_left
       ·intro w'; go_simp
        with_reducible rfl
       rotate_left
       ·simp only [Act.put, List.setIfInBounds_toArray, List.set_cons_zero, List.set_cons_succ, qbL, qbQ]; rfl
       refine qef (i := 6) (N := some 63) (v := ?_) (a' := ?_) #[true, true, true, true, true, true, true] rfl rfl (by kernel_rfl) (fun _ _ _ h => h) (Or.inl ⟨by rfl, ?_⟩) ?_ ?_; rotate_left
       ·intro w'; go_simp
        with_reducible rfl
       rotate_left
       ·simp only [Act.put, List.setIfInBounds_toArray, List.set_cons_zero, List.set_cons_succ, qbL, qbQ]; rfl
       refine qeI (by kernel_rfl) ?_
       try go_wp2
       replace qai := ak_ (qae qai.out); replace qbT := ak_ (qae qbT.out); replace HI0 := ak_ (qaE.drew HI0.out); replace HK := ak_ (qee HK.out); replace HB := ak_ (qap HB.out); refine qc7 (n := 8) (S := fun w' => w'.cell? ⟨qeW, 0, none⟩ = some (.string qcX) ∧ w'.cell? ⟨qeW, 1, none⟩ = some (.int .i64 qcl)) (ds := [7]) (rA_ [0, 8]) (by kernel_rfl) rfl rfl ⟨qbj qbT.out, qbm qbT.out⟩ (fun hHeld => ?_); refine qb1 qaq.tab17 qaq.bits17 (fun HT_ HW_ => ?_)
       generalize w87.drew = w88 at qai qbT HI0 HK HB hHeld ⊢
       refine pu_ 0 64 [1, 7] ?_; refine pu_ 2 66 [1, 1, 1, 5] ?_; refine qip 1 65 [3, 5] ?_; refine qe2 (i := 3) (N := some 67) (rA_ [4, 4]) rfl rfl (qcn HT_.out (by kernel_rfl)) (by decide) (fun K hK => ?_); refine Kd.qde Kd.string _ 9 ?hg (N := 67) ?hd (xs := ([(⟨#[120]⟩ : ByteArray), (⟨#[111]⟩ : ByteArray), (⟨#[63]⟩ : ByteArray)] : List ByteArray)) (inner := [.string (⟨#[120]⟩ : ByteArray), .string (⟨#[111]⟩ : ByteArray), .string (⟨#[63]⟩ : ByteArray)]) (ok := fun _ => True) (okp := fun _ => True) ?hr ?hp (fun _ hk => hk) trivial (Below.refl _ _) (Nat.le_refl _) (by simp) ?_; (case hd => rfl); (case hg => rfl); (case hr => exact qa0); (case hp => exact (qcj.one (show Kd.M Kd.string _ _ _ (⟨#[120]⟩ : ByteArray) [.string (⟨#[120]⟩ : ByteArray)] from rfl) (qcj.one (show Kd.M Kd.string _ _ _ (⟨#[111]⟩ : ByteArray) [.string (⟨#[111]⟩ : ByteArray)] from rfl) (qcj.one (show Kd.M Kd.string _ _ _ (⟨#[63]⟩ : ByteArray) [.string (⟨#[63]⟩ : ByteArray)] from rfl) (qcj.none _ _))))); intro v151 w89 ho90 hb hg_ hnew_; clear hg_ hnew_; (first | rw [← Ny150.out] at ho90 | (simp only [Int.reduceToNat] at ho90; rw [← Ny150.out] at ho90)); have qrt := ak_ (Kd.qby ho90 (qbw (w := w) (g := g) (row := none) qha)); replace qai := ak_ (qam qch hb); replace qbT := qbT.mw hb; replace HK := ak_ (qak.trans qha (qak.qbG hb g none) (.inl rfl)); replace HB := ak_ (qac qia hb); replace HI0 := ak_ (qaE.below qg0 hb); clear hb ho90; obtain ⟨Ao91, co91, eo91⟩ := Kd.qbC qrt.out; (first | subst eo91 | (injection eo91 with f1_ f2_ f3_; have f4_ := f1_.symm; have f5_ := f3_.symm; clear f1_ f2_ f3_; subst f4_; subst f5_)); refine hK.out _ _ ⟨qbj qbT.out, qbm qbT.out⟩ (fun hHeld => ?_); clear hK K; refine nm_ 67 ?_; refine qe2 (i := 4) (N := some 68) (rA_ [5, 3]) rfl rfl (qcn HT_.out (by kernel_rfl)) (by decide) (fun K hK => ?_); refine qdz Tryz.func90 (by kernel_rfl) rfl #[.pointer (some ⟨g, 0, none⟩), .slice Ao91 y150.length co91] (by rfl) rfl rfl qbK ?_
       with_reducible refine (qcA.calls g qbk t148 qi7 _ _ y150 qki t154 qsd w0 _ ?qaB ?qaC ?qdC ?qdD ?qhq A84.out).mono ?_
       (case qaB => exact qg0)
       (case qaC => exact qia)
       (case qdC => repeat (first | exact (Kd.R_reads' qrt.out).2.2 | (with_reducible refine Kd.qbV ?_ _) | (with_reducible refine Kd.qbW ?_ _) | (with_reducible refine Kd.qcs ?_)))
       (case qdD => exact (Kd.R_reads' qrt.out).2.1)
       (case qhq => exact qf5 (qaE.qgj HI0.out qrt.out (by decide)))
       rintro e w92 ⟨rfl, hi, hb, hk⟩; refine ⟨_, rfl, ?_⟩; replace qai := ak_ (qak.blk hk (g' := qaR) (o := .cells #[.string (⟨#[]⟩ : ByteArray), .int .i64 0] 23 (0, 0)) qch qcF.out (by simp)); replace qbT := ak_ (qak.blk hk (g' := qeW) (o := .cells #[.string qcX, .int .i64 qcl] 23 (0, 0)) qhm qdR.out (by simp)); replace qrt := ak_ (Kd.qaT (Kd.qdM (qaE.apart (show qaE w0 _ g qbk t148 qi7 from qg0) (by apply_rules only [qrt.out, Kd.qaA, Kd.qaz, Kd.qaL]) (by decide)) hk (fun _ h => h.2)) (fun _ h => h.1)); replace HK := ak_ (qak.trans qha hk (.inl rfl)); replace HB := ak_ (hb); replace HI0 := ak_ (hi); (try clear hb); (try clear hb2); (try clear hk); (try clear hi); refine hK.out _ _ ⟨qbj qbT.out, qbm qbT.out⟩ (fun hHeld => ?_); clear hK K; refine nm_ 68 ?_; refine pu_ 5 69 [6, 2] ?_; refine pu_ 6 70 [7, 1] ?_; refine qpf (i := 7) (N := none) (rA_ [8]) rfl rfl (qcn HT_.out (by kernel_rfl)) (by decide) (fun K hK => ?_); obtain ⟨hs93, hfs93⟩ := qo0 qbT.out; have hns93_0 := qcO.out; have hms93_0 := qeu.out; refine qmF (w1 := ?_) (by rfl) rfl ?_ ?_; rotate_left
       ·go_simp; rfl
       refine hK.out _ _ ?_; clear hK K; refine qeI (qc3 HT_.out (by kernel_rfl)) ?_
       try go_wp2
       go_roundg k3
       case measure => have := HJ5.out; have := HJ20.out; have := HK3.out; omega
       case rel => exact ⟨(t154), (qsd), (qcX ++ qki), H', ⟨by have := HJ5.out; have := HJ20.out; have := HK3.out; omega⟩, ⟨by (with_reducible repeat (first | refine qag ?_ _ | refine qae ?_ | refine qaf ?_ _)); refine qa4 ?_ qcO.out _; apply_rules only [qai.out, qag, qae, qaf]⟩, ⟨by (with_reducible repeat (first | refine qag ?_ _ | refine qae ?_ | refine qaf ?_ _)); refine qaQ (cs := #[.string qcX, .int .i64 qcl]) ?_ 0 _ rfl; apply_rules only [qbT.out, qag, qae, qaf]⟩, ⟨qg0⟩, ⟨qha⟩, ⟨qia⟩⟩
def qbz.g (k : Nat) (qbk : List Int) (qc2 : Int) (qdU : Int) : Option (ByteArray × Int × Int × Int) := (qaq.f k qbk qc2 qdU).bind fun qa5 => (some (qa5.1, qa5.2.1, qa5.2.2.1, qa5.2.2.2))
def qbz.qiA : Option Code → Code
 | some c => c
 | none => .skip
def qbz.qeG : Code → Code
 | .seq _ b => b
 | c => c
theorem qbz.rest (k : Nat) (g : Nat) (qbk : List Int) (qc2 : Int) (qdU : Int) (r1 : ByteArray) (r2 : Int) (r3 : Int) (r4 : Int) (w0 w wc : World) (hI : qaE w0 wc g qbk qc2 qdU) (hK : qak w wc g none) (hL : w0.heap.size ≤ w.heap.size) (hB : Below w0.heap.size w0 wc) (qaR : Nat) (qo2 : wc.heap[qaR]? = some (.cells #[.string (⟨#[]⟩ : ByteArray), .int .i64 0] 23 (0, 0))) (qo5 : w.heap.size ≤ qaR) (qo4 : w0.heap.size ≤ qaR) (qlT : g ≠ qaR) (h : qbz.g k qbk qc2 qdU = some (r1, r2, r3, r4)) (u0 u1 u4 u5 u6 u7 u8 : Value) (P : Ending → World → Prop) (hP : ∀ e w', (e = .returned (.agg #[.string r1, .int .i64 r2]) ∧ qaE w0 w' g qbk r3 r4 ∧ Below w0.heap.size w0 w' ∧ qak w w' g none) → P e w') :
  Code.wp Tryz.prog (qbz.qeG (qbz.qeG (qbz.qiA Tryz.f63.body))) (bodyPost Tryz.prog Tryz.f63 P) ⟨#[u0, u1, .pointer (some ⟨qaR, 0, none⟩), .pointer (some ⟨g, 0, none⟩), u4, u5, u6, u7, u8], []⟩ wc := by
 have HP := ak_ hP; clear hP; have qai := ak_ qo2; have qcB := ak_ qo5; have qcg := ak_ qo4; have qfX := ak_ qlT; have qcF := ak_ qlT.symm; clear qo2 qo5 qo4 qlT; have qiv := Tryz.underlying23; have HI0 := ak_ hI; have HK := ak_ hK; clear hK; have HL := ak_ hL; clear hI; have HW0 := ak_ hL; clear hL; have HB := ak_ hB; clear hB; have H : ((qaq.f k qbk qc2 qdU).bind fun qa5 => (some (qa5.1, qa5.2.1, qa5.2.2.1, qa5.2.2.2))) = some (r1, r2, r3, r4) := h; clear h; obtain ⟨⟨qaF, qaX, qcC, t105⟩, A2, H⟩ := qbh H; (try dsimp only at H); simp only [Option.some.injEq, Prod.mk.injEq] at H; obtain ⟨rfl, rfl, rfl, rfl⟩ := H
 show (let Q'_ := bodyPost Tryz.prog Tryz.f63 P; Code.wp Tryz.prog _ Q'_ _ _)
 intro Q'_
 conv => arg 2; whnf
 go_wp2_with (first | ((with_reducible refine qas (N := 2) rfl ?_); refine bx_ 2 (cs := #[.string (⟨#[]⟩ : ByteArray), .int .i64 0]) (t := 23) qa0 ?_; intro qaR hg w3 hbox hb; replace HB := ak_ (qac qdO hb); have qai := ak_ (hbox); have qcB := ak_ ((by rw [hg]; exact (qbw (w := w) (g := g) (row := none) qcW) : w.heap.size ≤ qaR)); have qcg := ak_ ((Nat.le_trans HW0.out (by rw [hg]; exact (qbw (w := w) (g := g) (row := none) qcW) : w.heap.size ≤ qaR) : w0.heap.size ≤ qaR)); replace HK := ak_ (qak.trans qcW (qak.qbG hb g none) (.inl rfl)); have qfX := ak_ ((by rw [hg]; exact Nat.ne_of_lt (qaE.lt (show qaE w0 _ g qbk qc2 qdU from qcR)) : g ≠ qaR)); have qcF := ak_ ((by rw [hg]; exact Nat.ne_of_gt (qaE.lt (show qaE w0 _ g qbk qc2 qdU from qcR)) : qaR ≠ g)); replace HI0 := ak_ (qaE.below qcR hb); clear hb hbox hg) | ((with_reducible refine qad (f := 64) rfl ?_); refine gl_ 8 Tryz.func64 #[.pointer (some ⟨g, 0, none⟩)] rfl qbK ?_; (with_reducible refine (qaq.calls k g qbk qc2 qdU qaF qaX qcC t105 w0 _ ?qaB ?qaC A2.out).mono ?_); (case qaB => exact qrP); (case qaC => exact k63_); rintro e w4 ⟨rfl, hi, hb, hk⟩; refine ⟨_, rfl, ?_⟩; replace qai := ak_ (qak.blk hk (g' := qaR) (o := .cells #[.string (⟨#[]⟩ : ByteArray), .int .i64 0] 23 (0, 0)) qch qcF.out (by simp)); replace HK := ak_ (qak.trans qrQ hk (.inl rfl)); replace HB := ak_ (hb); replace HI0 := ak_ (hi); (try clear hb hk hi); have hnb5 := qcF.out; have hnc5 := qfX.out; obtain ⟨qjn, qjo, qkd, qjq⟩ := qa2 qai.out))
 refine bodyPost_ret (results_cell_row rfl _ _ qaR 23 #[.string qaF, .int .i64 qaX] (0, 0) _ rfl k17_ Tryz.underlying23 rfl (by kernel_rfl)) rfl ?_; refine HP.out _ _ ?_; exact ⟨qbx, qrP, k63_, qrQ⟩
def qbz.f (k : Nat) (l0 : List Int) : Option (ByteArray × Int) := (qbz.g k l0 0 0).bind fun t => some (t.1, t.2.1)
theorem qbz.calls (k : Nat) (A0 : Option Addr) (c0 : Nat) (l0 : List Int) (r1 : ByteArray) (r2 : Int) (w : World) (hr0 : Kd.C (Kd.int .u8) w A0 l0.length l0) (hc0 : l0.length ≤ c0) (h : qbz.f k l0 = some (r1, r2)) :
  Calls Tryz.prog 63 #[.slice A0 l0.length c0] w fun e w' => e = .returned (.agg #[.string r1, .int .i64 r2]) ∧ Below w.heap.size w w' := by
 obtain ⟨⟨r1_, r2_, r3, r4⟩, hg, he⟩ := Option.bind_eq_some_iff.mp h; simp only [Option.some.injEq, Prod.mk.injEq] at he; obtain ⟨rfl, rfl⟩ := he; go_enter Tryz.func63, Tryz.ntmps63; apply wp_seq_k; intro K1 hK1; have HK1 := ak_ hK1; clear hK1
 go_wp2_with (first | ((with_reducible refine qas (N := 2) rfl ?_); (try (refine qav (by rfl) ?_; dsimp only)); refine bx_ 2 (cs := #[.string (⟨#[]⟩ : ByteArray), .int .i64 0]) (t := 23) qa0 ?_; intro gR hgr wR hbr hbb; have HGR := ak_ hgr; have HBR := ak_ hbr; have HBB0 := ak_ hbb; clear hgr hbr hbb))
 refine HK1.out _ _ ?_; apply wp_seq_k; intro K2 hK2; have HK2 := ak_ hK2; clear hK2
 go_wp2_with (first | ((with_reducible refine qas (N := 6) rfl ?_); (try (refine qav (by rfl) ?_; dsimp only)); refine bx_ 6 (cs := #[.slice A0 l0.length c0, .int .i64 0, .int .u64 0]) (t := 75) qa0 ?_; intro gP hgp w1 hbox hb; have HGP := ak_ hgp; have HBX := ak_ hbox; have HBB := ak_ hb; clear hgp hbox hb))
 refine HK2.out _ _ ?_; have hBw : Below w.heap.size w w1 := qac HBB0.out HBB.out
 have hgP : w.heap.size ≤ gP := by rw [HGP.out]; exact qal HBB0.out
 have hgR : w.heap.size ≤ gR := by rw [HGR.out]; exact Nat.le_refl _
 have hne : gP ≠ gR := by rw [HGP.out]; exact Nat.ne_of_gt (qdN HBR.out)
 refine qbz.rest k gP l0 0 0 r1_ r2_ r3 r4 w w w1 ⟨A0, c0, HBX.out, hgP, hr0⟩ (qak.qbG hBw gP none) (Nat.le_refl _) hBw gR (qam HBR.out HBB.out) hgR hgR hne hg _ _ _ _ _ _ _ _ ?_; rintro e w' ⟨rfl, _hI1, hb_2, _hk3⟩; exact ⟨rfl, hb_2⟩
def qc0.f (k : Nat) (l0 : List Int) : Option (ByteArray × Int) := (qbz.f k l0).bind fun qa5 => (some (qa5.1, qa5.2))
theorem qc0.calls (k : Nat) (A0 : Option Addr) (c0 : Nat) (l0 : List Int) (r1 : ByteArray) (r2 : Int) (w : World) (hr0 : Kd.C (Kd.int .u8) w A0 l0.length l0) (hc0 : l0.length ≤ c0) (h : qc0.f k l0 = some (r1, r2)) :
  Calls Tryz.prog 32 #[.slice A0 l0.length c0] w fun e w' => e = .returned (.agg #[.string r1, .int .i64 r2]) ∧ Below w.heap.size w w' := by
 have qiv := Tryz.underlying23; have HR0 := ak_ hr0; have HC0 := ak_ hc0; clear hr0 hc0; have HB := ak_ (Below.refl w.heap.size w); have H : ((qbz.f k l0).bind fun qa5 => (some (qa5.1, qa5.2))) = some (r1, r2) := h; clear h; obtain ⟨⟨qaF, qaX⟩, A2, H⟩ := qbh H; (try dsimp only at H); simp only [Option.some.injEq, Prod.mk.injEq] at H; obtain ⟨rfl, rfl⟩ := H; go_enter Tryz.func32, Tryz.ntmps32
 go_wp2_with (first | ((with_reducible refine qas (N := 2) rfl ?_); refine bx_ 2 (cs := #[.string (⟨#[]⟩ : ByteArray), .int .i64 0]) (t := 23) qa0 ?_; intro qaR hg w3 hbox hb; have qai := ak_ (hbox); have qcB := ak_ (HB.ge hg); have qcg := ak_ (HB.ge hg); replace HB := HB.mw hb; clear hb hbox hg) | ((with_reducible refine qad (f := 63) rfl ?_); refine gl_ 4 Tryz.func63 #[.slice A0 l0.length c0] rfl qbK ?_; (with_reducible refine (qbz.calls k _ _ l0 qaF qaX _ ?qaB ?qaC A2.out).mono ?_); (case qaB => exact k70_); (case qaC => exact HC0.out); rintro e w4 ⟨rfl, hb⟩; refine ⟨_, rfl, ?_⟩; replace qai := ak_ (qam qch hb); replace HB := ak_ (qac qaM hb); (try clear hb); obtain ⟨qtz, qtA, hfz5_0, qtH⟩ := qa2 qai.out))
 refine bodyPost_ret (results_cell_row rfl _ _ qaR 23 #[.string qaF, .int .i64 qaX] (0, 0) _ rfl k17_ Tryz.underlying23 rfl (by kernel_rfl)) rfl ?_; exact ⟨qbx, qaM⟩
def qed.f (k : Nat) (qax : ByteArray) (qaZ : Int) : Option ((List (List (qaj))) × Bool) := (qbJ.f k qax qaZ).bind fun qa5 => (some (qa5.1, qa5.2))
theorem qed.calls (k : Nat) (qax : ByteArray) (qaZ : Int) (r1 : List (List (qaj))) (r2 : Bool) (w : World) (h : qed.f k qax qaZ = some (r1, r2)) :
  Calls Tryz.prog 5 #[.agg #[.string qax, .int .i64 qaZ]] w fun e w' => ∃ v0_ : Value, e = .returned (.tuple #[v0_, .bool r2]) ∧ Kd.S (Kd.slice 33 qa1) 24 w' w.heap.size (fun _ => True) v0_ r1 ∧ Below w.heap.size w w' := by
 have qiv := Tryz.underlying23; have HB := ak_ (Below.refl w.heap.size w); have H : ((qbJ.f k qax qaZ).bind fun qa5 => (some (qa5.1, qa5.2))) = some (r1, r2) := h; clear h; obtain ⟨⟨qaF, t105⟩, A2, H⟩ := qbh H; (try dsimp only at H); simp only [Option.some.injEq, Prod.mk.injEq] at H; obtain ⟨rfl, rfl⟩ := H; go_enter Tryz.func5, Tryz.ntmps5
 go_wp2_with (first | ((with_reducible refine qas (N := 1) rfl ?_); refine bx_ 1 (cs := #[.string qax, .int .i64 qaZ]) (t := 23) qa0 ?_; intro qaR hg w3 hbox hb; have qai := ak_ (hbox); have qcB := ak_ (HB.ge hg); have qcg := ak_ (HB.ge hg); replace HB := HB.mw hb; clear hb hbox hg; obtain ⟨qmY, qmZ, qm0, qm1⟩ := qa2 qai.out) | ((with_reducible refine qad (f := 35) rfl ?_); refine gl_ 5 Tryz.func35 #[.agg #[.string qax, .int .i64 qaZ]] rfl qbK ?_; (with_reducible refine (qbJ.calls k qax qaZ qaF t105 _ A2.out).mono ?_); rintro e w5 ⟨qsf, rfl, ho0, hb⟩; refine ⟨_, rfl, ?_⟩; have qfE := ak_ (Kd.qeV ho0 (qal qaM)); replace qai := qai.mw hb; replace HB := ak_ (qac qaM hb); (try clear hb ho0)))
 go_ret2
 exact ⟨_, qbx, by (with_reducible repeat (first | apply Kd.qdk | apply Kd.qdl | apply Kd.qdy)); exact qfE.out, qaM⟩
def ql7 : Go.Shelf.Ren := ⟨fun | 145 => 84 | 220 => 104 | 219 => 117 | 217 => 131 | 225 => 132 | 224 => 133 | 267 => 134 | 266 => 146 | 314 => 147 | n => n, fun | 9 => 9 | 4 => 4 | 59 => 91 | 3 => 3 | 5 => 5 | 46 => 113 | 146 => 150 | 51 => 147 | n => n, fun | 1 => 0 | n => n⟩
theorem lays145 : Go.Proofs.Lays.n145 Tryz.prog ql7 := {
  mixed := by kernel_rfl
  f145 := Tryz.func84.trans (congrArg some (by kernel_rfl))
  f217 := Tryz.func131.trans (congrArg some (by kernel_rfl))
  f219 := Tryz.func117.trans (congrArg some (by kernel_rfl))
  f220 := Tryz.func104.trans (congrArg some (by kernel_rfl))
  f224 := Tryz.func133.trans (congrArg some (by kernel_rfl))
  f225 := Tryz.func132.trans (congrArg some (by kernel_rfl))
  f266 := Tryz.func146.trans (congrArg some (by kernel_rfl))
  f267 := Tryz.func134.trans (congrArg some (by kernel_rfl))
  f314 := Tryz.func147.trans (congrArg some (by kernel_rfl))
  t3 := Tryz.underlying3
  a3 := Tryz.isAgg3
  z3 := Tryz.sizeOf3
  v3 := Tryz.zeroValue3
  t4 := Tryz.underlying4
  a4 := Tryz.isAgg4
  z4 := Tryz.sizeOf4
  v4 := Tryz.zeroValue4
  t5 := Tryz.underlying5
  a5 := Tryz.isAgg5
  z5 := Tryz.sizeOf5
  v5 := Tryz.zeroValue5
  t9 := Tryz.underlying9
  a9 := Tryz.isAgg9
  z9 := Tryz.sizeOf9
  v9 := Tryz.zeroValue9
  t46 := Tryz.underlying113
  a46 := Tryz.isAgg113
  z46 := Tryz.sizeOf113
  v46 := Tryz.zeroValue113
  t51 := Tryz.underlying147
  a51 := Tryz.isAgg147
  z51 := Tryz.sizeOf147
  v51 := Tryz.zeroValue147
  t59 := Tryz.underlying91
  a59 := Tryz.isAgg91
  z59 := Tryz.sizeOf91
  v59 := Tryz.zeroValue91
  t146 := Tryz.underlying150
  a146 := Tryz.isAgg150
  z146 := Tryz.sizeOf150
  v146 := Tryz.zeroValue150
  g1 := by kernel_rfl }
def qi3 : Go.Shelf.Ren := ⟨fun | 172 => 85 | 244 => 105 | 245 => 106 | 247 => 118 | 279 => 119 | 280 => 120 | 281 => 121 | 282 => 122 | 287 => 135 | 316 => 136 | 171 => 76 | 205 => 137 | 321 => 148 | 322 => 149 | 243 => 101 | 246 => 114 | 283 => 127 | 284 => 128 | 285 => 129 | 286 => 130 | 129 => 142 | 317 => 141 | 318 => 143 | 319 => 144 | 320 => 145 | 337 => 150 | 338 => 151 | n => n, fun | 9 => 9 | 3 => 3 | 75 => 94 | 76 => 95 | 4 => 4 | 5 => 5 | 167 => 121 | 37 => 50 | 0 => 0 | 85 => 122 | 2 => 2 | 168 => 124 | 53 => 73 | 175 => 134 | 46 => 113 | 210 => 138 | 127 => 153 | 145 => 156 | 143 => 154 | 21 => 21 | 171 => 128 | 173 => 131 | 212 => 146 | 51 => 147 | 20 => 20 | 213 => 148 | 232 => 158 | 233 => 159 | 80 => 160 | n => n, fun | 15 => 1 | 16 => 2 | 17 => 5 | 18 => 6 | 19 => 7 | n => n⟩
theorem qqt : Go.Proofs.LaysC.n172 Tryz.prog qi3 := {
  mixed := by kernel_rfl
  f129 := Tryz.func142.trans (congrArg some (by kernel_rfl))
  f171 := Tryz.func76.trans (congrArg some (by kernel_rfl))
  f172 := Tryz.func85.trans (congrArg some (by kernel_rfl))
  f205 := Tryz.func137.trans (congrArg some (by kernel_rfl))
  f243 := Tryz.func101.trans (congrArg some (by kernel_rfl))
  f244 := Tryz.func105.trans (congrArg some (by kernel_rfl))
  f245 := Tryz.func106.trans (congrArg some (by kernel_rfl))
  f246 := Tryz.func114.trans (congrArg some (by kernel_rfl))
  f247 := Tryz.func118.trans (congrArg some (by kernel_rfl))
  f279 := Tryz.func119.trans (congrArg some (by kernel_rfl))
  f280 := Tryz.func120.trans (congrArg some (by kernel_rfl))
  f281 := Tryz.func121.trans (congrArg some (by kernel_rfl))
  f282 := Tryz.func122.trans (congrArg some (by kernel_rfl))
  f283 := Tryz.func127.trans (congrArg some (by kernel_rfl))
  f284 := Tryz.func128.trans (congrArg some (by kernel_rfl))
  f285 := Tryz.func129.trans (congrArg some (by kernel_rfl))
  f286 := Tryz.func130.trans (congrArg some (by kernel_rfl))
  f287 := Tryz.func135.trans (congrArg some (by kernel_rfl))
  f316 := Tryz.func136.trans (congrArg some (by kernel_rfl))
  f317 := Tryz.func141.trans (congrArg some (by kernel_rfl))
  f318 := Tryz.func143.trans (congrArg some (by kernel_rfl))
  f319 := Tryz.func144.trans (congrArg some (by kernel_rfl))
  f320 := Tryz.func145.trans (congrArg some (by kernel_rfl))
  f321 := Tryz.func148.trans (congrArg some (by kernel_rfl))
  f322 := Tryz.func149.trans (congrArg some (by kernel_rfl))
  f337 := Tryz.func150.trans (congrArg some (by kernel_rfl))
  f338 := Tryz.func151.trans (congrArg some (by kernel_rfl))
  t0 := Tryz.underlying0
  a0 := Tryz.isAgg0
  z0 := Tryz.sizeOf0
  v0 := Tryz.zeroValue0
  t2 := Tryz.underlying2
  a2 := Tryz.isAgg2
  z2 := Tryz.sizeOf2
  v2 := Tryz.zeroValue2
  t3 := Tryz.underlying3
  a3 := Tryz.isAgg3
  z3 := Tryz.sizeOf3
  v3 := Tryz.zeroValue3
  t4 := Tryz.underlying4
  a4 := Tryz.isAgg4
  z4 := Tryz.sizeOf4
  v4 := Tryz.zeroValue4
  t5 := Tryz.underlying5
  a5 := Tryz.isAgg5
  z5 := Tryz.sizeOf5
  v5 := Tryz.zeroValue5
  t9 := Tryz.underlying9
  a9 := Tryz.isAgg9
  z9 := Tryz.sizeOf9
  v9 := Tryz.zeroValue9
  t20 := Tryz.underlying20
  a20 := Tryz.isAgg20
  z20 := Tryz.sizeOf20
  v20 := Tryz.zeroValue20
  t21 := Tryz.underlying21
  a21 := Tryz.isAgg21
  z21 := Tryz.sizeOf21
  v21 := Tryz.zeroValue21
  t37 := Tryz.underlying50
  a37 := Tryz.isAgg50
  z37 := Tryz.sizeOf50
  v37 := Tryz.zeroValue50
  t46 := Tryz.underlying113
  a46 := Tryz.isAgg113
  z46 := Tryz.sizeOf113
  v46 := Tryz.zeroValue113
  t51 := Tryz.underlying147
  a51 := Tryz.isAgg147
  z51 := Tryz.sizeOf147
  v51 := Tryz.zeroValue147
  t53 := Tryz.underlying73
  a53 := Tryz.isAgg73
  z53 := Tryz.sizeOf73
  v53 := Tryz.zeroValue73
  t75 := Tryz.underlying94
  a75 := Tryz.isAgg94
  z75 := Tryz.sizeOf94
  v75 := Tryz.zeroValue94
  t76 := Tryz.underlying95
  a76 := Tryz.isAgg95
  z76 := Tryz.sizeOf95
  v76 := Tryz.zeroValue95
  t85 := Tryz.underlying122
  a85 := Tryz.isAgg122
  z85 := Tryz.sizeOf122
  v85 := Tryz.zeroValue122
  t127 := Tryz.underlying153
  a127 := Tryz.isAgg153
  z127 := Tryz.sizeOf153
  v127 := Tryz.zeroValue153
  t143 := Tryz.underlying154
  a143 := Tryz.isAgg154
  z143 := Tryz.sizeOf154
  v143 := Tryz.zeroValue154
  t145 := Tryz.underlying156
  a145 := Tryz.isAgg156
  z145 := Tryz.sizeOf156
  v145 := Tryz.zeroValue156
  t167 := Tryz.underlying121
  a167 := Tryz.isAgg121
  z167 := Tryz.sizeOf121
  v167 := Tryz.zeroValue121
  t168 := Tryz.underlying124
  a168 := Tryz.isAgg124
  z168 := Tryz.sizeOf124
  v168 := Tryz.zeroValue124
  t171 := Tryz.underlying128
  a171 := Tryz.isAgg128
  z171 := Tryz.sizeOf128
  v171 := Tryz.zeroValue128
  t173 := Tryz.underlying131
  a173 := Tryz.isAgg131
  z173 := Tryz.sizeOf131
  v173 := Tryz.zeroValue131
  t175 := Tryz.underlying134
  a175 := Tryz.isAgg134
  z175 := Tryz.sizeOf134
  v175 := Tryz.zeroValue134
  t210 := Tryz.underlying138
  a210 := Tryz.isAgg138
  z210 := Tryz.sizeOf138
  v210 := Tryz.zeroValue138
  t212 := Tryz.underlying146
  a212 := Tryz.isAgg146
  z212 := Tryz.sizeOf146
  v212 := Tryz.zeroValue146
  t213 := Tryz.underlying148
  a213 := Tryz.isAgg148
  z213 := Tryz.sizeOf148
  t232 := Tryz.underlying158
  a232 := Tryz.isAgg158
  z232 := Tryz.sizeOf158
  v232 := Tryz.zeroValue158
  t233 := Tryz.underlying159
  a233 := Tryz.isAgg159
  z233 := Tryz.sizeOf159
  v233 := Tryz.zeroValue159
  g15 := by kernel_rfl
  g16 := by kernel_rfl
  g17 := by kernel_rfl
  g18 := by kernel_rfl
  g19 := by kernel_rfl
  t80 := Tryz.underlying160
  a80 := Tryz.isAgg160
  z80 := Tryz.sizeOf160
  v80 := Tryz.zeroValue160
  i0 := by kernel_rfl
  i2 := by kernel_rfl
  i3 := by kernel_rfl
  i4 := by kernel_rfl
  i5 := by kernel_rfl
  i9 := by kernel_rfl
  i20 := by kernel_rfl
  i21 := by kernel_rfl
  i37 := by kernel_rfl
  i46 := by kernel_rfl
  i51 := by kernel_rfl
  i53 := by kernel_rfl
  i75 := by kernel_rfl
  i76 := by kernel_rfl
  i80 := by kernel_rfl
  i85 := by kernel_rfl
  i127 := by kernel_rfl
  i143 := by kernel_rfl
  i145 := by kernel_rfl
  i167 := by kernel_rfl
  i168 := by kernel_rfl
  i171 := by kernel_rfl
  i173 := by kernel_rfl
  i175 := by kernel_rfl
  i210 := by kernel_rfl
  i212 := by kernel_rfl
  i232 := by kernel_rfl
  i233 := by kernel_rfl
  m15 := by kernel_rfl
  m16 := by kernel_rfl
  m17 := by kernel_rfl
  m18 := by kernel_rfl
  m19 := by kernel_rfl
  c0 := by kernel_rfl
  c2 := by kernel_rfl
  c3 := by kernel_rfl
  c4 := by kernel_rfl
  c5 := by kernel_rfl
  c9 := by kernel_rfl
  c20 := by kernel_rfl
  c21 := by kernel_rfl
  c37 := by kernel_rfl
  c46 := by kernel_rfl
  c51 := by kernel_rfl
  c53 := by kernel_rfl
  c75 := by kernel_rfl
  c76 := by kernel_rfl
  c80 := by kernel_rfl
  c85 := by kernel_rfl
  c127 := by kernel_rfl
  c143 := by kernel_rfl
  c145 := by kernel_rfl
  c167 := by kernel_rfl
  c168 := by kernel_rfl
  c171 := by kernel_rfl
  c173 := by kernel_rfl
  c175 := by kernel_rfl
  c210 := by kernel_rfl
  c212 := by kernel_rfl
  c213 := by kernel_rfl
  c232 := by kernel_rfl
  c233 := by kernel_rfl }
def qeY (w : World) : Prop := (∃ m : Int, w.cell? ⟨ql7.g 1, 0, none⟩ = some (.int .i64 m)) ∧ (∃ ev : Value, w.cell? ⟨qi3.g 15, 0, none⟩ = some ev ∧ (ev = .nilIface ∨ ∃ te pe, ev = .iface te pe)) ∧ (∃ ev : Value, w.cell? ⟨qi3.g 16, 0, none⟩ = some ev ∧ (ev = .nilIface ∨ ∃ te pe, ev = .iface te pe))
theorem qeY.below {w w' : World} (h : qeY w) (hb : Below w.heap.size w w') : qeY w' := by
  obtain ⟨⟨m, h1⟩, ⟨e1, h2, h3⟩, ⟨e2, h4, h5⟩⟩ := h; exact ⟨⟨m, (hb.cell (World.block_lt_of_cell? w _ h1)).trans h1⟩, ⟨e1, (hb.cell (World.block_lt_of_cell? w _ h2)).trans h2, h3⟩, ⟨e2, (hb.cell (World.block_lt_of_cell? w _ h4)).trans h4, h5⟩⟩
def qdh.f (a0 : ByteArray) : Option (ByteArray × Int × Bool) := if a0.size ≤ 1048576 then (match Lib.atoiAll (Lib.cut a0.data.toList [58]).2.1 with
  | .ok v => (qa7.f ⟨(Lib.cut a0.data.toList [58]).1.toArray⟩ v).bind fun t => if t = true then ((qbu.f ⟨(Lib.cut a0.data.toList [58]).1.toArray⟩ v).bind fun txt => if txt.toList = a0.toList then some (⟨(Lib.cut a0.data.toList [58]).1.toArray⟩, v, true) else some ((⟨#[]⟩ : ByteArray), 0, false)) else some ((⟨#[]⟩ : ByteArray), 0, false)
  | _ => some ((⟨#[]⟩ : ByteArray), 0, false)) else none
theorem cut_len (s : List UInt8) (sep : List UInt8) : (Lib.cut s sep).2.1.length ≤ s.length := by
  unfold Lib.cut; split
  ·simp only [List.length_drop]; omega
  simp
theorem qij (s : ByteArray) (w : World) (hs : s.size ≤ 281474976710656) (hG : qeY w) :
    Calls Tryz.prog 85 #[.string s] w fun e w' => ∃ (n : Int) (ev : Value), e = .returned (.tuple #[.int .i64 n, ev]) ∧ ((Lib.atoiAll s.data.toList = .ok n ∧ ev = .nilIface) ∨ ((∀ v, Lib.atoiAll s.data.toList ≠ .ok v) ∧ ∃ te pe, ev = .iface te pe)) ∧ Below w.heap.size w w' := by
  obtain ⟨-, ⟨e1, h2, h3⟩, ⟨e2, h4, h5⟩⟩ := hG
  cases h : Lib.atoiAll s.data.toList with
  | ok v =>
    refine (Any.strconv_Atoi_ok qqt s (by omega) v h w).mono ?_; rintro e w' ⟨rfl, hw⟩; refine ⟨v, .nilIface, rfl, .inl ⟨rfl, rfl⟩, ?_⟩
    rcases hw with rfl | ⟨t, rfl⟩
    ·exact Below.refl _ _
    exact Lib.bytesWorld_below _ _ _
  | range =>
    refine (Any.strconv_Atoi_range qqt s hs h e2 w h4 h5).mono ?_; rintro e w' ⟨N, rfl, -, -, hb⟩; exact ⟨_, _, rfl, .inr ⟨fun v hv => (by cases hv), _, _, rfl⟩, hb⟩
  | _ =>
    refine (Any.strconv_Atoi_syntax qqt s hs h e1 w h2 h3).mono ?_; rintro e w' ⟨N, rfl, -, -, hb⟩; exact ⟨_, _, rfl, .inr ⟨fun v hv => (by cases hv), _, _, rfl⟩, hb⟩
theorem qnK (s : ByteArray) (w : World) (hs : s.size < 4294967281) (hG : qeY w) :
    Calls Tryz.prog 84 #[.string s, .string ⟨#[58]⟩] w fun e w' => e = .returned (.tuple #[.string ⟨(Lib.cut s.data.toList [58]).1.toArray⟩, .string ⟨(Lib.cut s.data.toList [58]).2.1.toArray⟩, .bool (Lib.cut s.data.toList [58]).2.2]) ∧ Below w.heap.size w w' := by
  obtain ⟨⟨m, hm⟩, -⟩ := hG; refine (Any.strings_Cut lays145 s ⟨#[58]⟩ m w hs hm).mono ?_; rintro e w' ⟨rfl, n, rfl⟩; exact ⟨rfl, qao (Below.refl _ _) _⟩
theorem qdh.calls (a0 : ByteArray) (r1 : ByteArray) (r2 : Int) (r3 : Bool) (w : World) (h : qdh.f a0 = some (r1, r2, r3)) (hG : qeY w) :
    Calls Tryz.prog 56 #[.string a0] w fun e w' => e = .returned (.tuple #[.agg #[.string r1, .int .i64 r2], .bool r3]) ∧ Below w.heap.size w w' := by
  have hu := Tryz.underlying23; have HG := ak_ hG; clear hG; unfold qdh.f at h; by_cases hs : a0.size ≤ 1048576; rotate_left
  ·rw [if_neg hs] at h; exact absurd h (by simp)
  rw [if_pos hs] at h; have HS := ak_ hs; have hnl := cut_len a0.data.toList [58]
  obtain ⟨bf, hbf⟩ : ∃ x : ByteArray, x = ⟨(Lib.cut a0.data.toList [58]).1.toArray⟩ := ⟨_, rfl⟩
  obtain ⟨nb, hnb⟩ : ∃ x : ByteArray, x = ⟨(Lib.cut a0.data.toList [58]).2.1.toArray⟩ := ⟨_, rfl⟩
  have hnd : nb.data.toList = (Lib.cut a0.data.toList [58]).2.1 := by rw [hnb]
  rw [← hnd, ← hbf] at h; have HNL := ak_ (show nb.size ≤ a0.size by rw [← hnd] at hnl; simpa using hnl); have HBF := ak_ hbf; have HNB := ak_ hnb; clear hbf hnb hnl hnd hs; by_cases hv : ∃ v, Lib.atoiAll nb.data.toList = .ok v; rotate_left
  ·have he : ∀ v, Lib.atoiAll nb.data.toList ≠ .ok v := fun v h_ => hv ⟨v, h_⟩
   have h2 : some ((⟨#[]⟩ : ByteArray), (0 : Int), false) = some (r1, r2, r3) := by
     cases hc : Lib.atoiAll nb.data.toList with
     | ok v => exact absurd hc (he v)
     | _ => rw [hc] at h; exact h
   have HE := ak_ he; clear he hv h; simp only [Option.some.injEq, Prod.mk.injEq] at h2; obtain ⟨rfl, rfl, rfl⟩ := h2; go_enter Tryz.func56, Tryz.ntmps56
   go_wp2_with (first | ((with_reducible refine qas (N := 2) rfl ?_); (try (refine qav (by rfl) ?_; dsimp only)); refine bx_ 2 (cs := #[.string (⟨#[]⟩ : ByteArray), .int .i64 0]) (t := 23) qa0 ?_; intro gQ hg w1 hbox hb; have BQ1 := ak_ hbox; have HB1 := ak_ hb; have GQ := ak_ (show w.heap.size ≤ gQ by rw [hg]; exact Nat.le_refl _); have HG1 := ak_ (qeY.below HG.out hb); clear hbox hb hg) | ((with_reducible refine qad (f := 84) rfl ?_); (try (refine qav (by rfl) ?_; dsimp only)); refine gl_ 12 Tryz.func84 #[.string a0, .string ⟨#[58]⟩] rfl qeX ?_; (refine (qnK a0 _ (by have := HS.out; omega) HG1.out).mono ?_); rintro e w2 ⟨rfl, hb⟩; refine ⟨_, rfl, ?_⟩; have BQ2 := ak_ (qam BQ1.out hb); have HB2 := ak_ (qac HB1.out hb); have HG2 := ak_ (qeY.below HG1.out hb); clear hb BQ1 HB1 HG1; rw [← HBF.out, ← HNB.out]) | ((with_reducible refine qad (f := 85) rfl ?_); (try (refine qav (by rfl) ?_; dsimp only)); refine gl_ 18 Tryz.func85 #[.string nb] rfl qeX ?_; (refine (qij nb _ (by have := HS.out; have := HNL.out; omega) HG2.out).mono ?_); rintro e w4 ⟨n, ev, rfl, hc_, hb⟩; refine ⟨_, rfl, ?_⟩; have BQ4 := ak_ (qam BQ2.out hb); have HB4 := ak_ (qac HB2.out hb); obtain ⟨te, pe, rfl⟩ : ∃ te pe, ev = .iface te pe := (by rcases hc_ with ⟨h1_, -⟩ | ⟨-, h2_⟩; exact absurd h1_ (HE.out n); exact h2_); clear hc_; clear hb BQ2 HB2 HG2) | ((with_reducible refine qas (N := 9) rfl ?_); (try (refine qav (by rfl) ?_; dsimp only)); refine bx_ 9 (cs := #[.string (⟨#[]⟩ : ByteArray), .int .i64 0]) (t := 23) qa0 ?_; intro g9 hg w9 hbox hb; have B9_ := ak_ (show ((w9.setCell ⟨g9, 0, none⟩ (.string bf)).setCell ⟨g9, 1, none⟩ (.int .i64 n)).heap[g9]? = _ from qaQ (cs' := #[.string bf, .int .i64 n]) (qaQ (cs' := #[.string bf, .int .i64 0]) hbox 0 (.string bf) rfl) 1 (.int .i64 n) rfl); have HB9 := ak_ (show Below w4.heap.size w4 ((w9.setCell ⟨g9, 0, none⟩ (.string bf)).setCell ⟨g9, 1, none⟩ (.int .i64 n)) from qaw (qaw hb (Nat.le_of_eq hg.symm)) (Nat.le_of_eq hg.symm)); have BQ9 := ak_ (qam BQ4.out HB9.out); have hz0 : w9.cell? ⟨g9, 0, none⟩ = some (.string (⟨#[]⟩ : ByteArray)) := (qaO hbox 0).trans rfl; have hz1 : w9.cell? ⟨g9, 1, none⟩ = some (.int .i64 0) := (qaO hbox 1).trans rfl; have hf0 := qaU hbox 0; have hf1 := qaU hbox 1; have hne : gQ ≠ g9 := (by rw [hg]; exact Nat.ne_of_lt (qdN BQ4.out)); have hne' : ¬ g9 = gQ := fun e_ => hne e_.symm; have qmz : w9.cell? ⟨gQ, 0, none⟩ = some (.string (⟨#[]⟩ : ByteArray)) := (qaO (qam BQ4.out hb) 0).trans rfl; have qmA : w9.cell? ⟨gQ, 1, none⟩ = some (.int .i64 0) := (qaO (qam BQ4.out hb) 1).trans rfl; have qmx := qaU (qam BQ4.out hb) 0; have qmy := qaU (qam BQ4.out hb) 1; clear hbox hb hg))
   refine bodyPost_ret (qdX (rs := [.cell 2 23, .tmp 3]) rfl (by simp) (.cell gQ 23 #[.string (⟨#[]⟩ : ByteArray), .int .i64 0] (0, 0) _ rfl (qaQ (cs' := #[.string (⟨#[]⟩ : ByteArray), .int .i64 0]) (qaQ (cs' := #[.string (⟨#[]⟩ : ByteArray), .int .i64 0]) BQ9.out 0 _ rfl) 1 _ rfl) Tryz.underlying23 rfl (by kernel_rfl) (.tmp .nil))) rfl ?_; exact ⟨rfl, qaw (qaw (qac HB4.out HB9.out) (by have h_ := GQ.out; omega)) (by have h_ := GQ.out; omega)⟩
  obtain ⟨v, hv⟩ := hv; rw [hv] at h; replace h : ((qa7.f bf v).bind fun t => if t = true then ((qbu.f bf v).bind fun txt => if txt.toList = a0.toList then some (bf, v, true) else some ((⟨#[]⟩ : ByteArray), 0, false)) else some ((⟨#[]⟩ : ByteArray), 0, false)) = some (r1, r2, r3) := h; have HV := ak_ hv; clear hv; replace h := Option.bind_eq_some_iff.mp h; obtain ⟨t, A0_, h⟩ := h; have A1 := ak_ A0_; clear A0_
  cases t with
  | false =>
    rw [if_neg (by decide)] at h; simp only [Option.some.injEq, Prod.mk.injEq] at h; obtain ⟨rfl, rfl, rfl⟩ := h; go_enter Tryz.func56, Tryz.ntmps56
    go_wp2_with (first | ((with_reducible refine qas (N := 2) rfl ?_); (try (refine qav (by rfl) ?_; dsimp only)); refine bx_ 2 (cs := #[.string (⟨#[]⟩ : ByteArray), .int .i64 0]) (t := 23) qa0 ?_; intro gQ hg w1 hbox hb; have BQ1 := ak_ hbox; have HB1 := ak_ hb; have GQ := ak_ (show w.heap.size ≤ gQ by rw [hg]; exact Nat.le_refl _); have HG1 := ak_ (qeY.below HG.out hb); clear hbox hb hg) | ((with_reducible refine qad (f := 84) rfl ?_); (try (refine qav (by rfl) ?_; dsimp only)); refine gl_ 12 Tryz.func84 #[.string a0, .string ⟨#[58]⟩] rfl qeX ?_; (refine (qnK a0 _ (by have := HS.out; omega) HG1.out).mono ?_); rintro e w2 ⟨rfl, hb⟩; refine ⟨_, rfl, ?_⟩; have BQ2 := ak_ (qam BQ1.out hb); have HB2 := ak_ (qac HB1.out hb); have HG2 := ak_ (qeY.below HG1.out hb); clear hb BQ1 HB1 HG1; rw [← HBF.out, ← HNB.out]) | ((with_reducible refine qad (f := 85) rfl ?_); (try (refine qav (by rfl) ?_; dsimp only)); refine gl_ 18 Tryz.func85 #[.string nb] rfl qeX ?_; (refine (qij nb _ (by have := HS.out; have := HNL.out; omega) HG2.out).mono ?_); rintro e w4 ⟨n, ev, rfl, hc_, hb⟩; refine ⟨_, rfl, ?_⟩; have BQ4 := ak_ (qam BQ2.out hb); have HB4 := ak_ (qac HB2.out hb); obtain ⟨rfl, rfl⟩ : n = v ∧ ev = .nilIface := (by rcases hc_ with ⟨h1_, h2_⟩ | ⟨h1_, -⟩; exact ⟨by rw [HV.out] at h1_; injection h1_ with h1_; exact h1_.symm, h2_⟩; exact absurd HV.out (h1_ v)); clear hc_; clear hb BQ2 HB2 HG2) | ((with_reducible refine qas (N := 9) rfl ?_); (try (refine qav (by rfl) ?_; dsimp only)); refine bx_ 9 (cs := #[.string (⟨#[]⟩ : ByteArray), .int .i64 0]) (t := 23) qa0 ?_; intro g9 hg w9 hbox hb; have B9_ := ak_ (show ((w9.setCell ⟨g9, 0, none⟩ (.string bf)).setCell ⟨g9, 1, none⟩ (.int .i64 n)).heap[g9]? = _ from qaQ (cs' := #[.string bf, .int .i64 n]) (qaQ (cs' := #[.string bf, .int .i64 0]) hbox 0 (.string bf) rfl) 1 (.int .i64 n) rfl); have HB9 := ak_ (show Below w4.heap.size w4 ((w9.setCell ⟨g9, 0, none⟩ (.string bf)).setCell ⟨g9, 1, none⟩ (.int .i64 n)) from qaw (qaw hb (Nat.le_of_eq hg.symm)) (Nat.le_of_eq hg.symm)); have BQ9 := ak_ (qam BQ4.out HB9.out); have hz0 : w9.cell? ⟨g9, 0, none⟩ = some (.string (⟨#[]⟩ : ByteArray)) := (qaO hbox 0).trans rfl; have hz1 : w9.cell? ⟨g9, 1, none⟩ = some (.int .i64 0) := (qaO hbox 1).trans rfl; have hf0 := qaU hbox 0; have hf1 := qaU hbox 1; have hne : gQ ≠ g9 := (by rw [hg]; exact Nat.ne_of_lt (qdN BQ4.out)); have hne' : ¬ g9 = gQ := fun e_ => hne e_.symm; have qmz : w9.cell? ⟨gQ, 0, none⟩ = some (.string (⟨#[]⟩ : ByteArray)) := (qaO (qam BQ4.out hb) 0).trans rfl; have qmA : w9.cell? ⟨gQ, 1, none⟩ = some (.int .i64 0) := (qaO (qam BQ4.out hb) 1).trans rfl; have qmx := qaU (qam BQ4.out hb) 0; have qmy := qaU (qam BQ4.out hb) 1; clear hbox hb hg) | ((with_reducible refine qad (f := 43) rfl ?_); (try (refine qav (by rfl) ?_; dsimp only)); refine gl_ 28 Tryz.func43 #[.agg #[.string bf, .int .i64 n]] rfl qeX ?_; (refine (qa7.calls bf n false _ A1.out).mono ?_); rintro e w10 ⟨rfl, hb⟩; refine ⟨_, rfl, ?_⟩; have B10 := ak_ (qam B9_.out hb); have BQ10 := ak_ (qam BQ9.out hb); have HB10 := ak_ (qac (qac HB4.out HB9.out) hb); clear hz0 hz1 hf0 hf1 qmz qmA qmx qmy B9_ BQ9 HB9 hb; have hz0 := qbj B10.out; have hz1 := qbm B10.out; obtain ⟨qmz, qmA, qmx, qmy⟩ := qa2 BQ10.out))
    refine bodyPost_ret (qdX (rs := [.cell 2 23, .tmp 3]) rfl (by simp) (.cell gQ 23 #[.string (⟨#[]⟩ : ByteArray), .int .i64 0] (0, 0) _ rfl (qaQ (cs' := #[.string (⟨#[]⟩ : ByteArray), .int .i64 0]) (qaQ (cs' := #[.string (⟨#[]⟩ : ByteArray), .int .i64 0]) BQ10.out 0 _ rfl) 1 _ rfl) Tryz.underlying23 rfl (by kernel_rfl) (.tmp .nil))) rfl ?_; exact ⟨rfl, qaw (qaw HB10.out (by have h_ := GQ.out; omega)) (by have h_ := GQ.out; omega)⟩
  | true =>
    rw [if_pos rfl] at h; replace h := Option.bind_eq_some_iff.mp h; obtain ⟨txt, A0_, h⟩ := h; have A2 := ak_ A0_; clear A0_; by_cases hx : txt.toList = a0.toList
    ·rw [if_pos hx] at h; simp only [Option.some.injEq, Prod.mk.injEq] at h; obtain ⟨rfl, rfl, rfl⟩ := h; have hxb : (txt.toList != a0.toList) = false := bne_eq_false_iff_eq.2 hx; have hxc : (txt.toList == a0.toList) = true := beq_iff_eq.2 hx; clear hx; go_enter Tryz.func56, Tryz.ntmps56
     go_wp2_with (first | ((with_reducible refine qas (N := 2) rfl ?_); (try (refine qav (by rfl) ?_; dsimp only)); refine bx_ 2 (cs := #[.string (⟨#[]⟩ : ByteArray), .int .i64 0]) (t := 23) qa0 ?_; intro gQ hg w1 hbox hb; have BQ1 := ak_ hbox; have HB1 := ak_ hb; have GQ := ak_ (show w.heap.size ≤ gQ by rw [hg]; exact Nat.le_refl _); have HG1 := ak_ (qeY.below HG.out hb); clear hbox hb hg) | ((with_reducible refine qad (f := 84) rfl ?_); (try (refine qav (by rfl) ?_; dsimp only)); refine gl_ 12 Tryz.func84 #[.string a0, .string ⟨#[58]⟩] rfl qeX ?_; (refine (qnK a0 _ (by have := HS.out; omega) HG1.out).mono ?_); rintro e w2 ⟨rfl, hb⟩; refine ⟨_, rfl, ?_⟩; have BQ2 := ak_ (qam BQ1.out hb); have HB2 := ak_ (qac HB1.out hb); have HG2 := ak_ (qeY.below HG1.out hb); clear hb BQ1 HB1 HG1; rw [← HBF.out, ← HNB.out]) | ((with_reducible refine qad (f := 85) rfl ?_); (try (refine qav (by rfl) ?_; dsimp only)); refine gl_ 18 Tryz.func85 #[.string nb] rfl qeX ?_; (refine (qij nb _ (by have := HS.out; have := HNL.out; omega) HG2.out).mono ?_); rintro e w4 ⟨n, ev, rfl, hc_, hb⟩; refine ⟨_, rfl, ?_⟩; have BQ4 := ak_ (qam BQ2.out hb); have HB4 := ak_ (qac HB2.out hb); obtain ⟨rfl, rfl⟩ : n = v ∧ ev = .nilIface := (by rcases hc_ with ⟨h1_, h2_⟩ | ⟨h1_, -⟩; exact ⟨by rw [HV.out] at h1_; injection h1_ with h1_; exact h1_.symm, h2_⟩; exact absurd HV.out (h1_ v)); clear hc_; clear hb BQ2 HB2 HG2) | ((with_reducible refine qas (N := 9) rfl ?_); (try (refine qav (by rfl) ?_; dsimp only)); refine bx_ 9 (cs := #[.string (⟨#[]⟩ : ByteArray), .int .i64 0]) (t := 23) qa0 ?_; intro g9 hg w9 hbox hb; have B9_ := ak_ (show ((w9.setCell ⟨g9, 0, none⟩ (.string bf)).setCell ⟨g9, 1, none⟩ (.int .i64 n)).heap[g9]? = _ from qaQ (cs' := #[.string bf, .int .i64 n]) (qaQ (cs' := #[.string bf, .int .i64 0]) hbox 0 (.string bf) rfl) 1 (.int .i64 n) rfl); have HB9 := ak_ (show Below w4.heap.size w4 ((w9.setCell ⟨g9, 0, none⟩ (.string bf)).setCell ⟨g9, 1, none⟩ (.int .i64 n)) from qaw (qaw hb (Nat.le_of_eq hg.symm)) (Nat.le_of_eq hg.symm)); have BQ9 := ak_ (qam BQ4.out HB9.out); have hz0 : w9.cell? ⟨g9, 0, none⟩ = some (.string (⟨#[]⟩ : ByteArray)) := (qaO hbox 0).trans rfl; have hz1 : w9.cell? ⟨g9, 1, none⟩ = some (.int .i64 0) := (qaO hbox 1).trans rfl; have hf0 := qaU hbox 0; have hf1 := qaU hbox 1; have hne : gQ ≠ g9 := (by rw [hg]; exact Nat.ne_of_lt (qdN BQ4.out)); have hne' : ¬ g9 = gQ := fun e_ => hne e_.symm; have qmz : w9.cell? ⟨gQ, 0, none⟩ = some (.string (⟨#[]⟩ : ByteArray)) := (qaO (qam BQ4.out hb) 0).trans rfl; have qmA : w9.cell? ⟨gQ, 1, none⟩ = some (.int .i64 0) := (qaO (qam BQ4.out hb) 1).trans rfl; have qmx := qaU (qam BQ4.out hb) 0; have qmy := qaU (qam BQ4.out hb) 1; clear hbox hb hg) | ((with_reducible refine qad (f := 43) rfl ?_); (try (refine qav (by rfl) ?_; dsimp only)); refine gl_ 28 Tryz.func43 #[.agg #[.string bf, .int .i64 n]] rfl qeX ?_; (refine (qa7.calls bf n true _ A1.out).mono ?_); rintro e w10 ⟨rfl, hb⟩; refine ⟨_, rfl, ?_⟩; have B10 := ak_ (qam B9_.out hb); have BQ10 := ak_ (qam BQ9.out hb); have HB10 := ak_ (qac (qac HB4.out HB9.out) hb); clear hz0 hz1 hf0 hf1 qmz qmA qmx qmy B9_ BQ9 HB9 hb; have hz0 := qbj B10.out; have hz1 := qbm B10.out; obtain ⟨qmz, qmA, qmx, qmy⟩ := qa2 BQ10.out) | ((with_reducible refine qad (f := 49) rfl ?_); (try (refine qav (by rfl) ?_; dsimp only)); refine gl_ 33 Tryz.func49 #[.agg #[.string bf, .int .i64 n]] rfl qeX ?_; (refine (qbu.calls bf n txt _ A2.out).mono ?_); rintro e w11 ⟨rfl, hb⟩; refine ⟨_, rfl, ?_⟩; have B11 := ak_ (qam B10.out hb); have BQ11 := ak_ (qam BQ10.out hb); have HB11 := ak_ (qac HB10.out hb); clear hz0 hz1 qmz qmA qmx qmy hb; have hz0 := qbj B11.out; have hz1 := qbm B11.out; obtain ⟨qmz, qmA, qmx, qmy⟩ := qa2 BQ11.out))
     refine bodyPost_ret (qdX (rs := [.cell 2 23, .tmp 3]) rfl (by simp) (.cell gQ 23 #[.string bf, .int .i64 n] (0, 0) _ rfl (qaQ (cs' := #[.string bf, .int .i64 n]) (qaQ (cs' := #[.string bf, .int .i64 0]) BQ11.out 0 _ rfl) 1 _ rfl) Tryz.underlying23 rfl (by kernel_rfl) (.tmp .nil))) rfl ?_; exact ⟨rfl, qaw (qaw HB11.out (by have h_ := GQ.out; omega)) (by have h_ := GQ.out; omega)⟩
    rw [if_neg hx] at h; simp only [Option.some.injEq, Prod.mk.injEq] at h; obtain ⟨rfl, rfl, rfl⟩ := h; have hxb : (txt.toList != a0.toList) = true := bne_iff_ne.2 hx; have hxc : (txt.toList == a0.toList) = false := beq_eq_false_iff_ne.2 hx; clear hx; go_enter Tryz.func56, Tryz.ntmps56
    go_wp2_with (first | ((with_reducible refine qas (N := 2) rfl ?_); (try (refine qav (by rfl) ?_; dsimp only)); refine bx_ 2 (cs := #[.string (⟨#[]⟩ : ByteArray), .int .i64 0]) (t := 23) qa0 ?_; intro gQ hg w1 hbox hb; have BQ1 := ak_ hbox; have HB1 := ak_ hb; have GQ := ak_ (show w.heap.size ≤ gQ by rw [hg]; exact Nat.le_refl _); have HG1 := ak_ (qeY.below HG.out hb); clear hbox hb hg) | ((with_reducible refine qad (f := 84) rfl ?_); (try (refine qav (by rfl) ?_; dsimp only)); refine gl_ 12 Tryz.func84 #[.string a0, .string ⟨#[58]⟩] rfl qeX ?_; (refine (qnK a0 _ (by have := HS.out; omega) HG1.out).mono ?_); rintro e w2 ⟨rfl, hb⟩; refine ⟨_, rfl, ?_⟩; have BQ2 := ak_ (qam BQ1.out hb); have HB2 := ak_ (qac HB1.out hb); have HG2 := ak_ (qeY.below HG1.out hb); clear hb BQ1 HB1 HG1; rw [← HBF.out, ← HNB.out]) | ((with_reducible refine qad (f := 85) rfl ?_); (try (refine qav (by rfl) ?_; dsimp only)); refine gl_ 18 Tryz.func85 #[.string nb] rfl qeX ?_; (refine (qij nb _ (by have := HS.out; have := HNL.out; omega) HG2.out).mono ?_); rintro e w4 ⟨n, ev, rfl, hc_, hb⟩; refine ⟨_, rfl, ?_⟩; have BQ4 := ak_ (qam BQ2.out hb); have HB4 := ak_ (qac HB2.out hb); obtain ⟨rfl, rfl⟩ : n = v ∧ ev = .nilIface := (by rcases hc_ with ⟨h1_, h2_⟩ | ⟨h1_, -⟩; exact ⟨by rw [HV.out] at h1_; injection h1_ with h1_; exact h1_.symm, h2_⟩; exact absurd HV.out (h1_ v)); clear hc_; clear hb BQ2 HB2 HG2) | ((with_reducible refine qas (N := 9) rfl ?_); (try (refine qav (by rfl) ?_; dsimp only)); refine bx_ 9 (cs := #[.string (⟨#[]⟩ : ByteArray), .int .i64 0]) (t := 23) qa0 ?_; intro g9 hg w9 hbox hb; have B9_ := ak_ (show ((w9.setCell ⟨g9, 0, none⟩ (.string bf)).setCell ⟨g9, 1, none⟩ (.int .i64 n)).heap[g9]? = _ from qaQ (cs' := #[.string bf, .int .i64 n]) (qaQ (cs' := #[.string bf, .int .i64 0]) hbox 0 (.string bf) rfl) 1 (.int .i64 n) rfl); have HB9 := ak_ (show Below w4.heap.size w4 ((w9.setCell ⟨g9, 0, none⟩ (.string bf)).setCell ⟨g9, 1, none⟩ (.int .i64 n)) from qaw (qaw hb (Nat.le_of_eq hg.symm)) (Nat.le_of_eq hg.symm)); have BQ9 := ak_ (qam BQ4.out HB9.out); have hz0 : w9.cell? ⟨g9, 0, none⟩ = some (.string (⟨#[]⟩ : ByteArray)) := (qaO hbox 0).trans rfl; have hz1 : w9.cell? ⟨g9, 1, none⟩ = some (.int .i64 0) := (qaO hbox 1).trans rfl; have hf0 := qaU hbox 0; have hf1 := qaU hbox 1; have hne : gQ ≠ g9 := (by rw [hg]; exact Nat.ne_of_lt (qdN BQ4.out)); have hne' : ¬ g9 = gQ := fun e_ => hne e_.symm; have qmz : w9.cell? ⟨gQ, 0, none⟩ = some (.string (⟨#[]⟩ : ByteArray)) := (qaO (qam BQ4.out hb) 0).trans rfl; have qmA : w9.cell? ⟨gQ, 1, none⟩ = some (.int .i64 0) := (qaO (qam BQ4.out hb) 1).trans rfl; have qmx := qaU (qam BQ4.out hb) 0; have qmy := qaU (qam BQ4.out hb) 1; clear hbox hb hg) | ((with_reducible refine qad (f := 43) rfl ?_); (try (refine qav (by rfl) ?_; dsimp only)); refine gl_ 28 Tryz.func43 #[.agg #[.string bf, .int .i64 n]] rfl qeX ?_; (refine (qa7.calls bf n true _ A1.out).mono ?_); rintro e w10 ⟨rfl, hb⟩; refine ⟨_, rfl, ?_⟩; have B10 := ak_ (qam B9_.out hb); have BQ10 := ak_ (qam BQ9.out hb); have HB10 := ak_ (qac (qac HB4.out HB9.out) hb); clear hz0 hz1 hf0 hf1 qmz qmA qmx qmy B9_ BQ9 HB9 hb; have hz0 := qbj B10.out; have hz1 := qbm B10.out; obtain ⟨qmz, qmA, qmx, qmy⟩ := qa2 BQ10.out) | ((with_reducible refine qad (f := 49) rfl ?_); (try (refine qav (by rfl) ?_; dsimp only)); refine gl_ 33 Tryz.func49 #[.agg #[.string bf, .int .i64 n]] rfl qeX ?_; (refine (qbu.calls bf n txt _ A2.out).mono ?_); rintro e w11 ⟨rfl, hb⟩; refine ⟨_, rfl, ?_⟩; have B11 := ak_ (qam B10.out hb); have BQ11 := ak_ (qam BQ10.out hb); have HB11 := ak_ (qac HB10.out hb); clear hz0 hz1 qmz qmA qmx qmy hb; have hz0 := qbj B11.out; have hz1 := qbm B11.out; obtain ⟨qmz, qmA, qmx, qmy⟩ := qa2 BQ11.out))
    refine bodyPost_ret (qdX (rs := [.cell 2 23, .tmp 3]) rfl (by simp) (.cell gQ 23 #[.string (⟨#[]⟩ : ByteArray), .int .i64 0] (0, 0) _ rfl (qaQ (cs' := #[.string (⟨#[]⟩ : ByteArray), .int .i64 0]) (qaQ (cs' := #[.string (⟨#[]⟩ : ByteArray), .int .i64 0]) BQ11.out 0 _ rfl) 1 _ rfl) Tryz.underlying23 rfl (by kernel_rfl) (.tmp .nil))) rfl ?_; exact ⟨rfl, qaw (qaw HB11.out (by have h_ := GQ.out; omega)) (by have h_ := GQ.out; omega)⟩
def qeg.f (k : Nat) (qax : ByteArray) (qaZ : Int) : Option ((List (List (qaj))) × Bool) := (qba.f k qax qaZ).bind fun qa5 => (some (qa5.1, qa5.2))
theorem qeg.calls (k : Nat) (qax : ByteArray) (qaZ : Int) (r1 : List (List (qaj))) (r2 : Bool) (w : World) (h : qeg.f k qax qaZ = some (r1, r2)) :
  Calls Tryz.prog 6 #[.agg #[.string qax, .int .i64 qaZ]] w fun e w' => ∃ v0_ : Value, e = .returned (.tuple #[v0_, .bool r2]) ∧ Kd.S (Kd.slice 33 qa1) 24 w' w.heap.size (fun _ => True) v0_ r1 ∧ Below w.heap.size w w' := by
 have qiv := Tryz.underlying23; have HB := ak_ (Below.refl w.heap.size w); have H : ((qba.f k qax qaZ).bind fun qa5 => (some (qa5.1, qa5.2))) = some (r1, r2) := h; clear h; obtain ⟨⟨qaF, t105⟩, A2, H⟩ := qbh H; (try dsimp only at H); simp only [Option.some.injEq, Prod.mk.injEq] at H; obtain ⟨rfl, rfl⟩ := H; go_enter Tryz.func6, Tryz.ntmps6
 go_wp2_with (first | ((with_reducible refine qas (N := 1) rfl ?_); refine bx_ 1 (cs := #[.string qax, .int .i64 qaZ]) (t := 23) qa0 ?_; intro qaR hg w3 hbox hb; have qai := ak_ (hbox); have qcB := ak_ (HB.ge hg); have qcg := ak_ (HB.ge hg); replace HB := HB.mw hb; clear hb hbox hg; obtain ⟨qmY, qmZ, qm0, qm1⟩ := qa2 qai.out) | ((with_reducible refine qad (f := 36) rfl ?_); refine gl_ 5 Tryz.func36 #[.agg #[.string qax, .int .i64 qaZ]] rfl qbK ?_; (with_reducible refine (qba.calls k qax qaZ qaF t105 _ A2.out).mono ?_); rintro e w5 ⟨qsf, rfl, ho0, hb⟩; refine ⟨_, rfl, ?_⟩; have qfE := ak_ (Kd.qeV ho0 (qal qaM)); replace qai := qai.mw hb; replace HB := ak_ (qac qaM hb); (try clear hb ho0)))
 go_ret2
 exact ⟨_, qbx, by (with_reducible repeat (first | apply Kd.qdk | apply Kd.qdl | apply Kd.qdy)); exact qfE.out, qaM⟩
def qcL.f (k : Nat) (qax : ByteArray) (qaZ : Int) : Option (Int × Bool) := (qbJ.f k qax qaZ).bind fun qa5 => (some ((qa5.1.length : Int), qa5.2))
theorem qcL.calls (k : Nat) (qax : ByteArray) (qaZ : Int) (r1 : Int) (r2 : Bool) (w : World) (h : qcL.f k qax qaZ = some (r1, r2)) :
  Calls Tryz.prog 7 #[.agg #[.string qax, .int .i64 qaZ]] w fun e w' => e = .returned (.tuple #[.int .i64 r1, .bool r2]) ∧ Below w.heap.size w w' := by
 have qiv := Tryz.underlying23; have HB := ak_ (Below.refl w.heap.size w); have H : ((qbJ.f k qax qaZ).bind fun qa5 => (some ((qa5.1.length : Int), qa5.2))) = some (r1, r2) := h; clear h; obtain ⟨⟨qaF, t105⟩, A2, H⟩ := qbh H; (try dsimp only at H); simp only [Option.some.injEq, Prod.mk.injEq] at H; obtain ⟨rfl, rfl⟩ := H; go_enter Tryz.func7, Tryz.ntmps7
 go_wp2_with (first | ((with_reducible refine qas (N := 1) rfl ?_); refine bx_ 1 (cs := #[.string qax, .int .i64 qaZ]) (t := 23) qa0 ?_; intro qaR hg w3 hbox hb; have qai := ak_ (hbox); have qcB := ak_ (HB.ge hg); have qcg := ak_ (HB.ge hg); replace HB := HB.mw hb; clear hb hbox hg; obtain ⟨qmY, qmZ, qm0, qm1⟩ := qa2 qai.out) | ((with_reducible refine qad (f := 35) rfl ?_); refine gl_ 8 Tryz.func35 #[.agg #[.string qax, .int .i64 qaZ]] rfl qbK ?_; (with_reducible refine (qbJ.calls k qax qaZ qaF t105 _ A2.out).mono ?_); rintro e w5 ⟨qsf, rfl, ho0, hb⟩; refine ⟨_, rfl, ?_⟩; have qfE := ak_ (Kd.qeV ho0 (qal qaM)); replace qai := qai.mw hb; replace HB := ak_ (qac qaM hb); (try clear hb ho0); obtain ⟨Ao6, co6, eo6⟩ := Kd.qcU qfE.out; subst eo6))
 go_ret2
 exact ⟨qbx, qaM⟩
def qcM.f (k : Nat) (qax : ByteArray) (qaZ : Int) : Option (Int × Bool) := (qba.f k qax qaZ).bind fun qa5 => (some ((qa5.1.length : Int), qa5.2))
theorem qcM.calls (k : Nat) (qax : ByteArray) (qaZ : Int) (r1 : Int) (r2 : Bool) (w : World) (h : qcM.f k qax qaZ = some (r1, r2)) :
  Calls Tryz.prog 8 #[.agg #[.string qax, .int .i64 qaZ]] w fun e w' => e = .returned (.tuple #[.int .i64 r1, .bool r2]) ∧ Below w.heap.size w w' := by
 have qiv := Tryz.underlying23; have HB := ak_ (Below.refl w.heap.size w); have H : ((qba.f k qax qaZ).bind fun qa5 => (some ((qa5.1.length : Int), qa5.2))) = some (r1, r2) := h; clear h; obtain ⟨⟨qaF, t105⟩, A2, H⟩ := qbh H; (try dsimp only at H); simp only [Option.some.injEq, Prod.mk.injEq] at H; obtain ⟨rfl, rfl⟩ := H; go_enter Tryz.func8, Tryz.ntmps8
 go_wp2_with (first | ((with_reducible refine qas (N := 1) rfl ?_); refine bx_ 1 (cs := #[.string qax, .int .i64 qaZ]) (t := 23) qa0 ?_; intro qaR hg w3 hbox hb; have qai := ak_ (hbox); have qcB := ak_ (HB.ge hg); have qcg := ak_ (HB.ge hg); replace HB := HB.mw hb; clear hb hbox hg; obtain ⟨qmY, qmZ, qm0, qm1⟩ := qa2 qai.out) | ((with_reducible refine qad (f := 36) rfl ?_); refine gl_ 8 Tryz.func36 #[.agg #[.string qax, .int .i64 qaZ]] rfl qbK ?_; (with_reducible refine (qba.calls k qax qaZ qaF t105 _ A2.out).mono ?_); rintro e w5 ⟨qsf, rfl, ho0, hb⟩; refine ⟨_, rfl, ?_⟩; have qfE := ak_ (Kd.qeV ho0 (qal qaM)); replace qai := qai.mw hb; replace HB := ak_ (qac qaM hb); (try clear hb ho0); obtain ⟨Ao6, co6, eo6⟩ := Kd.qcU qfE.out; subst eo6))
 go_ret2
 exact ⟨qbx, qaM⟩
def qcY.f (k : Nat) (qax : ByteArray) (qaZ : Int) : Option ((List (qaj)) × Bool) := (qbJ.f k qax qaZ).bind fun qa5 => (if qa5.2 = true then (if (qa5.1.length : Int) = 0 then (some (([] : List (qaj)), false)) else (if 0 < (qa5.1.length : Int) then (some (qar qa5.1 0, true)) else (none))) else (some (([] : List (qaj)), false)))
theorem qcY.calls (k : Nat) (qax : ByteArray) (qaZ : Int) (r1 : List (qaj)) (r2 : Bool) (w : World) (h : qcY.f k qax qaZ = some (r1, r2)) :
  Calls Tryz.prog 9 #[.agg #[.string qax, .int .i64 qaZ]] w fun e w' => ∃ v0_ : Value, e = .returned (.tuple #[v0_, .bool r2]) ∧ Kd.R qa1 33 w' w.heap.size (fun _ => True) v0_ r1 ∧ Below w.heap.size w w' := by
 have qiv := Tryz.underlying23; have HB := ak_ (Below.refl w.heap.size w); have H : ((qbJ.f k qax qaZ).bind fun qa5 => (if qa5.2 = true then (if (qa5.1.length : Int) = 0 then (some (([] : List (qaj)), false)) else (if 0 < (qa5.1.length : Int) then (some (qar qa5.1 0, true)) else (none))) else (some (([] : List (qaj)), false)))) = some (r1, r2) := h; clear h; obtain ⟨⟨qaF, t105⟩, A2, H⟩ := qbh H; (try dsimp only at H); by_cases c3 : t105 = true; rotate_left
 ·replace c3 := Bool.eq_false_iff.mpr c3; subst c3; rw [if_neg (show ¬ (false = true) by decide)] at H; simp only [Option.some.injEq, Prod.mk.injEq] at H; obtain ⟨rfl, rfl⟩ := H; go_enter Tryz.func9, Tryz.ntmps9
  go_wp2_with (first | ((with_reducible refine qas (N := 1) rfl ?_); (try (refine qav (by rfl) ?_; dsimp only)); refine bx_ 1 (cs := #[.string qax, .int .i64 qaZ]) (t := 23) qa0 ?_; intro qaR hg w14 hbox hb; have qai := ak_ (hbox); have qcB := ak_ (HB.ge hg); have qcg := ak_ (HB.ge hg); replace HB := HB.mw hb; clear hb hbox hg; obtain ⟨qiN, qiO, qiV, qiW⟩ := qa2 qai.out) | ((with_reducible refine qad (f := 35) rfl ?_); refine gl_ 8 Tryz.func35 #[.agg #[.string qax, .int .i64 qaZ]] rfl qbK ?_; (with_reducible refine (qbJ.calls k qax qaZ qaF false _ A2.out).mono ?_); rintro e w16 ⟨qsf, rfl, ho0, hb⟩; refine ⟨_, rfl, ?_⟩; have qfE := ak_ (Kd.qeV ho0 (qal qaM)); replace qai := qai.mw hb; replace HB := ak_ (qac qaM hb); (try clear hb ho0)))
  go_ret2
  exact ⟨_, qbx, qsa, qaM⟩
 subst c3; rw [if_pos rfl] at H; by_cases c4 : (qaF.length : Int) = 0
 ·rw [if_pos c4] at H; have qhF : ((qaF.length : Int) == 0) = true := beq_iff_eq.mpr c4; have c4b1 : ((qaF.length : Int) != 0) = false := bne_eq_false_iff_eq.mpr c4; clear c4; simp only [Option.some.injEq, Prod.mk.injEq] at H; obtain ⟨rfl, rfl⟩ := H; go_enter Tryz.func9, Tryz.ntmps9
  go_wp2_with (first | ((with_reducible refine qas (N := 1) rfl ?_); (try (refine qav (by rfl) ?_; dsimp only)); refine bx_ 1 (cs := #[.string qax, .int .i64 qaZ]) (t := 23) qa0 ?_; intro qaR hg w5 hbox hb; have qai := ak_ (hbox); have qcB := ak_ (HB.ge hg); have qcg := ak_ (HB.ge hg); replace HB := HB.mw hb; clear hb hbox hg; obtain ⟨qjn, qjo, qkd, qjq⟩ := qa2 qai.out) | ((with_reducible refine qad (f := 35) rfl ?_); refine gl_ 8 Tryz.func35 #[.agg #[.string qax, .int .i64 qaZ]] rfl qbK ?_; (with_reducible refine (qbJ.calls k qax qaZ qaF true _ A2.out).mono ?_); rintro e w7 ⟨qsf, rfl, ho0, hb⟩; refine ⟨_, rfl, ?_⟩; have qfE := ak_ (Kd.qeV ho0 (qal qaM)); replace qai := qai.mw hb; replace HB := ak_ (qac qaM hb); (try clear hb ho0); obtain ⟨Ao8, co8, eo8⟩ := Kd.qcU qfE.out; subst eo8))
  go_ret2
  exact ⟨_, qbx, qsa, qaM⟩
 rw [if_neg c4] at H; have qhF : ((qaF.length : Int) == 0) = false := beq_eq_false_iff_ne.mpr c4; have c4b1 : ((qaF.length : Int) != 0) = true := bne_iff_ne.mpr c4
 have c4b2 : ¬ (qaF = []) := fun h_ => c4 (by rw [h_]; rfl)
 by_cases c9 : 0 < (qaF.length : Int); rotate_left
 ·rw [if_neg c9] at H; exact absurd H (by simp)
 rw [if_pos c9] at H; have qqJ : decide (0 < (qaF.length : Int)) = true := decide_eq_true c9; have c9b1 : decide (0 < qaF.length) = true := decide_eq_true (by omega); clear c9; simp only [Option.some.injEq, Prod.mk.injEq] at H; obtain ⟨rfl, rfl⟩ := H; go_enter Tryz.func9, Tryz.ntmps9
 go_wp2_with (first | ((with_reducible refine qas (N := 1) rfl ?_); (try (refine qav (by rfl) ?_; dsimp only)); refine bx_ 1 (cs := #[.string qax, .int .i64 qaZ]) (t := 23) qa0 ?_; intro qaR hg w10 hbox hb; have qai := ak_ (hbox); have qcB := ak_ (HB.ge hg); have qcg := ak_ (HB.ge hg); replace HB := HB.mw hb; clear hb hbox hg; obtain ⟨qgv, qgw, qgx, qgy⟩ := qa2 qai.out) | ((with_reducible refine qad (f := 35) rfl ?_); refine gl_ 8 Tryz.func35 #[.agg #[.string qax, .int .i64 qaZ]] rfl qbK ?_; (with_reducible refine (qbJ.calls k qax qaZ qaF true _ A2.out).mono ?_); rintro e w12 ⟨qsf, rfl, ho0, hb⟩; refine ⟨_, rfl, ?_⟩; have qfE := ak_ (Kd.qeV ho0 (qal qaM)); replace qai := qai.mw hb; replace HB := ak_ (qac qaM hb); (try clear hb ho0); obtain ⟨Ao13, co13, eo13⟩ := Kd.qcU qfE.out; subst eo13; have qkw : 0 ≤ (0 : Int) := (by omega); have qkx : 0 < (qaF.length : Int) := of_decide_eq_true qa8; obtain ⟨qnx, A106_0, c106_0, qtj, qdc, qlS, qlO⟩ := qfL (Kd.S_reads' qfE.out).2.2 0 qkw qkx; cases qtj; obtain ⟨ce106, qts, qtq, qo3⟩ := Kd.S_get qfE.out [] 0 qkw (by first | exact qkx | exact of_decide_eq_true qa8 | (have e_ := (Kd.S_reads' qfE.out).1; omega)); obtain ⟨ve106_0, rfl, qiK⟩ := qtq; have qgB := qo3 0 _ rfl; rw [Nat.add_zero, show ((Kd.slice 33 qa1)).sz = 1 from rfl, Nat.mul_one] at qgB; replace qgB := Option.some.inj (qgB.symm.trans qdc); rw [qgB] at qiK; have qpP := ak_ (show Kd.R qa1 33 _ _ _ _ (qar qaF 0) from qiK); clear qgB qiK; clear qo3 qts; have qi106 : (0 < qaF.length) = True := eq_true (by omega); (try rw [show ((0 : Int)).toNat = 0 from rfl] at qdc); (try rw [Addr.add_zero'] at qdc); have HR106_0 := ak_ qlO; have HC106_0 := ak_ qlS; clear qlO qlS; replace qkw := eq_true qkw; replace qkx := eq_true qkx))
 go_ret2
 exact ⟨_, qbx, by (with_reducible repeat (first | apply Kd.qaA | apply Kd.qaz | apply Kd.qaL)); exact Kd.qaT qpP.out (fun _ hk => trivial), qaM⟩
def qdf.l0 : Nat → Int → List Int → Int → Int → Option (Int)
 | 0, _, _, _, _ => none
 | k + 1, x3, x6, x7, x8 => if x8 < x7 then (if 0 ≤ x8 then (if x8 < (x6.length : Int) then (if (rd x6 x8) = x3 then (qdf.l0 k x3 x6 x7 (wrap64 (x8 + 1))) else (some (rd x6 x8))) else (none)) else (none)) else (some x3)
def qdf.f (k : Nat) (l0 : List Int) : Option (Int) := qdf.l0 k 0 l0 (l0.length : Int) 0
theorem qdf.calls (k : Nat) (A0 : Option Addr) (c0 : Nat) (l0 : List Int) (r : Int) (w : World) (hr0 : Kd.C (Kd.int .i64) w A0 l0.length l0) (hc0 : l0.length ≤ c0) (h : qdf.f k l0 = some r) :
  Calls Tryz.prog 80 #[.slice A0 l0.length c0] w fun e w' => e = .returned (.int .i64 r) ∧ qd0 w w' := by
 have HR0 := ak_ hr0; have HC0 := ak_ hc0; clear hr0 hc0; have H : (qdf.l0 k 0 l0 (l0.length : Int) 0) = some r := h; clear h; have H' := ak_ H; clear H; go_enter Tryz.func80, Tryz.ntmps80; go_wp2
 go_loopg [8] k (fun kq v8 w' => ∃ (qdP : Int), v8 = .int .i64 qdP ∧ qah (qdf.l0 kq 0 l0 (l0.length : Int) qdP = some r) ∧ qah (kq ≤ k) ∧ qd0 w w')
 case atStart => exact ⟨(0), qbg, H', ⟨Nat.le_refl _⟩, qdT⟩
 case round =>
  clear H'; obtain ⟨qdP, rfl, HA, HK1, ⟨m1, rfl⟩⟩ := hrel
  cases gk with
  | zero => exact absurd HA.out (by simp [qdf.l0])
  | succ k1 =>
   have H := HA.out; clear HA; simp only [qdf.l0] at H; by_cases c2 : qdP < (l0.length : Int); rotate_left
   ·rw [if_neg c2] at H; have qkC : decide (qdP < (l0.length : Int)) = false := decide_eq_false c2; clear c2; obtain rfl := Option.some.inj H; go_wp2
    go_ret
    exact ⟨qbg, qdT⟩
   rw [if_pos c2] at H; have qkC : decide (qdP < (l0.length : Int)) = true := decide_eq_true c2; clear c2; by_cases c3 : 0 ≤ qdP; rotate_left
   ·rw [if_neg c3] at H; exact absurd H (by simp)
   rw [if_pos c3] at H; have qil : decide (0 ≤ qdP) = true := decide_eq_true c3; clear c3; by_cases c4 : qdP < (l0.length : Int); rotate_left
   ·rw [if_neg c4] at H; exact absurd H (by simp)
   rw [if_pos c4] at H; have qhF : decide (qdP < (l0.length : Int)) = true := decide_eq_true c4; clear c4; by_cases c5 : (rd l0 qdP) = 0; rotate_left
   ·rw [if_neg c5] at H; have qi9 : ((rd l0 qdP) == 0) = false := beq_eq_false_iff_ne.mpr c5; have c5b1 : ((rd l0 qdP) != 0) = true := bne_iff_ne.mpr c5; obtain rfl := Option.some.inj H; have qgF : 0 ≤ (qdP : Int) := of_decide_eq_true qa8; have qgG : qdP < (l0.length : Int) := of_decide_eq_true qa8; obtain ⟨qlc, qlo, qdv⟩ := Kd.qmQ HR0.out qdP qgF qgG
    cases qlo
    replace qgF := eq_true qgF; replace qgG := eq_true qgG; go_wp2
    go_ret
    exact ⟨qbg, qdT⟩
   rw [if_pos c5] at H; have qi9 : ((rd l0 qdP) == 0) = true := beq_iff_eq.mpr c5; have c5b1 : ((rd l0 qdP) != 0) = false := bne_eq_false_iff_eq.mpr c5; clear c5; have H' := ak_ H; clear H; have qgF : 0 ≤ (qdP : Int) := of_decide_eq_true qa8; have qgG : qdP < (l0.length : Int) := of_decide_eq_true qa8; obtain ⟨qlc, qlo, qdv⟩ := Kd.qmQ HR0.out qdP qgF qgG
   cases qlo
   replace qgF := eq_true qgF; replace qgG := eq_true qgG; go_wp2
   go_roundg k1
   case measure => have := HK1.out; omega
   case rel => exact ⟨(wrap64 (qdP + 1)), qbg, H', ⟨qgl⟩, qdT⟩
def qbU.f (a0 : Int) : Option (Bool) := some (a0 != a0)
theorem qbU.calls (a0 : Int) (r : Bool) (w : World) (h : qbU.f a0 = some r) :
  Calls Tryz.prog 102 #[.int .i64 a0] w fun e w' => e = .returned (.bool r) ∧ qd0 w w' := by
 have H : (some (a0 != a0)) = some r := h; clear h; obtain rfl := Option.some.inj H; go_enter Tryz.func102, Tryz.ntmps102; go_wp2
 go_ret
 exact ⟨qbg, qdT⟩
def qcV.f (a0 : Int) (a1 : Int) : Option (Int) := (qbU.f a0).bind fun qco => ((qbU.f a1).bind fun qaF => (if qco = true then (if qaF = true then (some 0) else (some (-1))) else (if qaF = true then (some 1) else (if a0 < a1 then (some (-1)) else (if a0 > a1 then (some 1) else (some 0))))))
theorem qcV.calls (a0 : Int) (a1 : Int) (r : Int) (w : World) (h : qcV.f a0 a1 = some r) :
  Calls Tryz.prog 81 #[.int .i64 a0, .int .i64 a1] w fun e w' => e = .returned (.int .i64 r) ∧ qd0 w w' := by
 have H : ((qbU.f a0).bind fun qco => ((qbU.f a1).bind fun qaF => (if qco = true then (if qaF = true then (some 0) else (some (-1))) else (if qaF = true then (some 1) else (if a0 < a1 then (some (-1)) else (if a0 > a1 then (some 1) else (some 0))))))) = some r := h; clear h; obtain ⟨qco, A3, H⟩ := qbh H; (try dsimp only at H); obtain ⟨qaF, A4, H⟩ := qbh H; (try dsimp only at H); by_cases c5 : qco = true
 ·subst c5; rw [if_pos rfl] at H; by_cases c6 : qaF = true
  ·subst c6; rw [if_pos rfl] at H; obtain rfl := Option.some.inj H; go_enter Tryz.func81, Tryz.ntmps81
   go_wp2_with (first | ((with_reducible refine qad (f := 102) rfl ?_); refine gl_ 8 Tryz.func102 #[.int .i64 a0] rfl qbK ?_; (with_reducible refine (qbU.calls a0 true _ A3.out).mono ?_); rintro e w' ⟨rfl, ⟨nd, rfl⟩⟩; refine ⟨_, rfl, ?_⟩) | ((with_reducible refine qad (f := 102) rfl ?_); refine gl_ 10 Tryz.func102 #[.int .i64 a1] rfl qbK ?_; (with_reducible refine (qbU.calls a1 true _ A4.out).mono ?_); rintro e w' ⟨rfl, ⟨nd, rfl⟩⟩; refine ⟨_, rfl, ?_⟩))
   go_ret
   exact ⟨qbg, qdT⟩
  replace c6 := Bool.eq_false_iff.mpr c6; subst c6; rw [if_neg (show ¬ (false = true) by decide)] at H; obtain rfl := Option.some.inj H; go_enter Tryz.func81, Tryz.ntmps81
  go_wp2_with (first | ((with_reducible refine qad (f := 102) rfl ?_); refine gl_ 8 Tryz.func102 #[.int .i64 a0] rfl qbK ?_; (with_reducible refine (qbU.calls a0 true _ A3.out).mono ?_); rintro e w' ⟨rfl, ⟨nd, rfl⟩⟩; refine ⟨_, rfl, ?_⟩) | ((with_reducible refine qad (f := 102) rfl ?_); refine gl_ 10 Tryz.func102 #[.int .i64 a1] rfl qbK ?_; (with_reducible refine (qbU.calls a1 false _ A4.out).mono ?_); rintro e w' ⟨rfl, ⟨nd, rfl⟩⟩; refine ⟨_, rfl, ?_⟩))
  go_ret
  exact ⟨qbg, qdT⟩
 replace c5 := Bool.eq_false_iff.mpr c5; subst c5; rw [if_neg (show ¬ (false = true) by decide)] at H; by_cases c7 : qaF = true
 ·subst c7; rw [if_pos rfl] at H; obtain rfl := Option.some.inj H; go_enter Tryz.func81, Tryz.ntmps81
  go_wp2_with (first | ((with_reducible refine qad (f := 102) rfl ?_); refine gl_ 8 Tryz.func102 #[.int .i64 a0] rfl qbK ?_; (with_reducible refine (qbU.calls a0 false _ A3.out).mono ?_); rintro e w' ⟨rfl, ⟨nd, rfl⟩⟩; refine ⟨_, rfl, ?_⟩) | ((with_reducible refine qad (f := 102) rfl ?_); refine gl_ 10 Tryz.func102 #[.int .i64 a1] rfl qbK ?_; (with_reducible refine (qbU.calls a1 true _ A4.out).mono ?_); rintro e w' ⟨rfl, ⟨nd, rfl⟩⟩; refine ⟨_, rfl, ?_⟩))
  go_ret
  exact ⟨qbg, qdT⟩
 replace c7 := Bool.eq_false_iff.mpr c7; subst c7; rw [if_neg (show ¬ (false = true) by decide)] at H; by_cases c8 : a0 < a1
 ·rw [if_pos c8] at H; have c8b0 : decide (a0 < a1) = true := decide_eq_true c8; clear c8; obtain rfl := Option.some.inj H; go_enter Tryz.func81, Tryz.ntmps81
  go_wp2_with (first | ((with_reducible refine qad (f := 102) rfl ?_); refine gl_ 8 Tryz.func102 #[.int .i64 a0] rfl qbK ?_; (with_reducible refine (qbU.calls a0 false _ A3.out).mono ?_); rintro e w' ⟨rfl, ⟨nd, rfl⟩⟩; refine ⟨_, rfl, ?_⟩) | ((with_reducible refine qad (f := 102) rfl ?_); refine gl_ 10 Tryz.func102 #[.int .i64 a1] rfl qbK ?_; (with_reducible refine (qbU.calls a1 false _ A4.out).mono ?_); rintro e w' ⟨rfl, ⟨nd, rfl⟩⟩; refine ⟨_, rfl, ?_⟩))
  go_ret
  exact ⟨qbg, qdT⟩
 rw [if_neg c8] at H; have c8b0 : decide (a0 < a1) = false := decide_eq_false c8; clear c8; by_cases c9 : a0 > a1
 ·rw [if_pos c9] at H; have qqJ : decide (a1 < a0) = true := decide_eq_true c9; clear c9; obtain rfl := Option.some.inj H; go_enter Tryz.func81, Tryz.ntmps81
  go_wp2_with (first | ((with_reducible refine qad (f := 102) rfl ?_); refine gl_ 8 Tryz.func102 #[.int .i64 a0] rfl qbK ?_; (with_reducible refine (qbU.calls a0 false _ A3.out).mono ?_); rintro e w' ⟨rfl, ⟨nd, rfl⟩⟩; refine ⟨_, rfl, ?_⟩) | ((with_reducible refine qad (f := 102) rfl ?_); refine gl_ 10 Tryz.func102 #[.int .i64 a1] rfl qbK ?_; (with_reducible refine (qbU.calls a1 false _ A4.out).mono ?_); rintro e w' ⟨rfl, ⟨nd, rfl⟩⟩; refine ⟨_, rfl, ?_⟩))
  go_ret
  exact ⟨qbg, qdT⟩
 rw [if_neg c9] at H; have qqJ : decide (a1 < a0) = false := decide_eq_false c9; clear c9; obtain rfl := Option.some.inj H; go_enter Tryz.func81, Tryz.ntmps81
 go_wp2_with (first | ((with_reducible refine qad (f := 102) rfl ?_); refine gl_ 8 Tryz.func102 #[.int .i64 a0] rfl qbK ?_; (with_reducible refine (qbU.calls a0 false _ A3.out).mono ?_); rintro e w' ⟨rfl, ⟨nd, rfl⟩⟩; refine ⟨_, rfl, ?_⟩) | ((with_reducible refine qad (f := 102) rfl ?_); refine gl_ 10 Tryz.func102 #[.int .i64 a1] rfl qbK ?_; (with_reducible refine (qbU.calls a1 false _ A4.out).mono ?_); rintro e w' ⟨rfl, ⟨nd, rfl⟩⟩; refine ⟨_, rfl, ?_⟩))
 go_ret
 exact ⟨qbg, qdT⟩
def qbt.f (k : Nat) (qax : Int) (qaZ : Int) (qc8 : Int) (qdG : Int) : Option (Int) := (qcV.f qax qc8).bind fun qaX => ((qcV.f qaZ qdG).bind fun qcC => ((qdf.f k (([qaX, qcC] : List Int))).bind fun qd5 => (some qd5)))
def qbt.T1 : Bool × List (List Nat × List Nat) := (true, [([], []), ([0], [0]), ([], []), ([2], [2]), ([1, 3], [1, 3]), ([], []), ([5], [5]), ([], []), ([7], [7]), ([6, 8, 4], [6, 8]), ([4, 9], [4, 9]), ([10, 9], [10]), ([11, 11, 0, 1, 2, 3, 4, 5, 6, 7, 8, 9, 10, 11], [11])])
def qbt.B1 : List Nat := [0, 1, 0, 4, 15, 0, 32, 0, 128, 511, 1023, 2047, 4095]
theorem qbt.tab1 : qhD .any (opsOf Tryz.f52 1) = qbt.T1 := by kernel_rfl
theorem qbt.qsS : qeE qbt.T1.2 qbt.B1 = true := by kernel_rfl
theorem qbt.calls (k : Nat) (qax : Int) (qaZ : Int) (qc8 : Int) (qdG : Int) (r : Int) (w : World) (h : qbt.f k qax qaZ qc8 qdG = some r) :
  Calls Tryz.prog 52 #[.agg #[.int .i64 qax, .int .i64 qaZ], .agg #[.int .i64 qc8, .int .i64 qdG]] w fun e w' => e = .returned (.int .i64 r) ∧ Below w.heap.size w w' := by
 have qkE := Tryz.underlying33; have HB := ak_ (Below.refl w.heap.size w); have H : ((qcV.f qax qc8).bind fun qaX => ((qcV.f qaZ qdG).bind fun qcC => ((qdf.f k (([qaX, qcC] : List Int))).bind fun qd5 => (some qd5)))) = some r := h; clear h; obtain ⟨qaX, A3, H⟩ := qbh H; (try dsimp only at H); obtain ⟨qcC, A4, H⟩ := qbh H; (try dsimp only at H)
 obtain ⟨qmL, hy_⟩ : ∃ y_ : List Int, y_ = (([qaX, qcC] : List Int)) := ⟨_, rfl⟩
 replace H : ((qdf.f k qmL).bind fun qd5 => (some qd5)) = some r := qkG; have qnr := ak_ hy_; clear hy_; obtain ⟨qd5, A5, H⟩ := qbh H; (try dsimp only at H); obtain rfl := Option.some.inj H; go_enter Tryz.func52, Tryz.ntmps52
 try go_wp2_with (first | ((with_reducible refine qas (N := 2) rfl ?_); refine bx_ 2 (cs := #[.int .i64 qax, .int .i64 qaZ]) (t := 33) qa0 ?_; intro qaR hg w6 hbox hb; have qai := ak_ (hbox); have qcB := ak_ (HB.ge hg); have qcg := ak_ (HB.ge hg); replace HB := HB.mw hb; clear hb hbox hg) | ((with_reducible refine qas (N := 3) rfl ?_); refine bx_ 3 (cs := #[.int .i64 qc8, .int .i64 qdG]) (t := 33) qa0 ?_; intro qe1 hg w7 hbox hb; have qdr := ak_ (hbox); have qiD := ak_ ((by rw [hg]; exact (qal qaM) : w.heap.size ≤ qe1)); have qgT := ak_ ((by rw [hg]; exact (qal qaM) : w.heap.size ≤ qe1)); replace HB := ak_ (qac qaM hb); have qd1 := ak_ (qai.ne hg); have qdL := ak_ (qai.ne hg).symm; replace qai := qai.mw hb; clear hb hbox hg))
 replace qai := ak_ (qae qai.out); replace qdr := ak_ (qae qdr.out); replace HB := ak_ (qap HB.out); refine qc7 (n := 13) (S := fun w' => w'.cell? ⟨qaR, 0, none⟩ = some (.int .i64 qax) ∧ w'.cell? ⟨qaR, 1, none⟩ = some (.int .i64 qaZ) ∧ w'.cell? ⟨qe1, 0, none⟩ = some (.int .i64 qc8) ∧ w'.cell? ⟨qe1, 1, none⟩ = some (.int .i64 qdG)) (ds := []) (rA_ [0, 13]) (by kernel_rfl) rfl rfl ⟨qbj qai.out, qbm qai.out, qbj qdr.out, qbm qdr.out⟩ (fun hHeld => ?_); refine qb1 qbt.tab1 qbt.qsS (fun HT_ HW_ => ?_)
 generalize w7.drew = w8 at qai qdr HB hHeld ⊢
 refine pu_ 0 5 [1, 12] ?_; refine pu_ 2 7 [1, 1, 1, 10] ?_; refine pu_ 5 10 [1, 1, 1, 2, 1, 7] ?_; refine pu_ 7 12 [1, 1, 1, 2, 1, 1, 1, 5] ?_; refine qoB 1 6 [3, 2, 1, 1, 1, 5] ?_; refine qoB 3 8 [4, 1, 1, 1, 1, 5] ?_; refine qoB 6 11 [4, 1, 3, 5] ?_; refine qoB 8 13 [4, 1, 4, 4] ?_; refine qe2 (i := 4) (N := some 9) (rA_ [9, 4]) rfl rfl (qcn HT_.out (by kernel_rfl)) (by decide) (fun K hK => ?_); refine qdz Tryz.func81 (by kernel_rfl) rfl #[.int .i64 qax, .int .i64 qc8] (by rfl) rfl rfl qbK ?_
 with_reducible refine (qcV.calls qax qc8 qaX _ A3.out).mono ?_
 rintro e w' ⟨rfl, ⟨nd, rfl⟩⟩; refine ⟨_, rfl, ?_⟩; refine hK.out _ _ ⟨qbj qai.out, qbm qai.out, qbj qdr.out, qbm qdr.out⟩ (fun hHeld => ?_); clear hK K; refine nm_ 9 ?_; refine qe2 (i := 9) (N := some 14) (rA_ [10, 3]) rfl rfl (qcn HT_.out (by kernel_rfl)) (by decide) (fun K hK => ?_); refine qdz Tryz.func81 (by kernel_rfl) rfl #[.int .i64 qaZ, .int .i64 qdG] (by rfl) rfl rfl qbK ?_
 with_reducible refine (qcV.calls qaZ qdG qcC _ A4.out).mono ?_
 rintro e w' ⟨rfl, ⟨nd, rfl⟩⟩; refine ⟨_, rfl, ?_⟩; refine hK.out _ _ ⟨qbj qai.out, qbm qai.out, qbj qdr.out, qbm qdr.out⟩ (fun hHeld => ?_); clear hK K; refine nm_ 14 ?_; refine qe2 (i := 10) (N := some 15) (rA_ [11, 2]) rfl rfl (qcn HT_.out (by kernel_rfl)) (by decide) (fun K hK => ?_); refine Kd.qde (Kd.int .i64) _ 3 ?hg (N := 15) ?hd (xs := ([qaX, qcC] : List Int)) (inner := [.int .i64 qaX, .int .i64 qcC]) (ok := fun _ => True) (okp := fun _ => True) ?hr ?hp (fun _ hk => hk) trivial (Below.refl _ _) (Nat.le_refl _) (by simp) ?_; (case hd => rfl); (case hg => rfl); (case hr => exact qa0); (case hp => exact (qcj.one (show Kd.M (Kd.int .i64) _ _ _ qaX [.int .i64 qaX] from rfl) (qcj.one (show Kd.M (Kd.int .i64) _ _ _ qcC [.int .i64 qcC] from rfl) (qcj.none _ _)))); intro qjE w9 qtQ hb hg_ hnew_; clear hg_ hnew_; (first | rw [← qnr.out] at qtQ | (simp only [Int.reduceToNat] at qtQ; rw [← qnr.out] at qtQ)); have qcE := ak_ (Kd.qby qtQ (qal k95_)); replace qai := qai.mw hb; replace qdr := qdr.mw hb; replace HB := ak_ (qac k95_ hb); clear hb qtQ; obtain ⟨Ao11, co11, eo11⟩ := Kd.qbC qcE.out; (first | subst eo11 | (injection eo11 with f1_ f2_ f3_; have f4_ := f1_.symm; have f5_ := f3_.symm; clear f1_ f2_ f3_; subst f4_; subst f5_)); refine hK.out _ _ ⟨qbj qai.out, qbm qai.out, qbj qdr.out, qbm qdr.out⟩ (fun hHeld => ?_); clear hK K; refine nm_ 15 ?_; refine qe2 (i := 11) (N := some 16) (rA_ [12, 1]) rfl rfl (qcn HT_.out (by kernel_rfl)) (by decide) (fun K hK => ?_); refine qdz Tryz.func80 (by kernel_rfl) rfl #[.slice Ao11 qmL.length co11] (by rfl) rfl rfl qbK ?_
 with_reducible refine (qdf.calls k _ _ qmL qd5 _ ?qaB ?qaC A5.out).mono ?_
 (case qaB => repeat (first | exact (Kd.R_reads' qcE.out).2.2 | (with_reducible refine Kd.qbV ?_ _) | (with_reducible refine Kd.qbW ?_ _) | (with_reducible refine Kd.qcs ?_)))
 (case qaC => exact (Kd.R_reads' qcE.out).2.1)
 rintro e w' ⟨rfl, ⟨nd, rfl⟩⟩; refine ⟨_, rfl, ?_⟩; refine hK.out _ _ ⟨qbj qai.out, qbm qai.out, qbj qdr.out, qbm qdr.out⟩ (fun hHeld => ?_); clear hK K; refine nm_ 16 ?_; refine pu_ 12 4 [13] ?_; refine qeI (qc3 HT_.out (by kernel_rfl)) ?_
 try go_wp2
 go_ret
 exact ⟨qbx, k95_⟩
mutual
def qaK.j0 : Nat → List (qaj) → Bool → ByteArray → Int → Option (Bool × Bool)
 | 0, _, _, _, _ => none
 | k + 1, x1, x15, qeo, qeF => if x15 = true then (some (false, false)) else (qaK.l0 k x1 x1 (x1.length : Int) 0 qeo qeF)
def qaK.l0 : Nat → List (qaj) → List (qaj) → Int → Int → ByteArray → Int → Option (Bool × Bool)
 | 0, _, _, _, _, _, _ => none
 | k + 1, x1, x16, x17, x18, qeo, qeF => if x18 < x17 then (if 0 ≤ x18 then (if x18 < (x16.length : Int) then (if ((qab x16 x18).f0) > 10 then (some (false, true)) else (if x18 > 0 then (if 0 ≤ (wrap64 (x18 - 1)) then (if (wrap64 (x18 - 1)) < (x1.length : Int) then ((qbt.f k ((qab x1 (wrap64 (x18 - 1))).f0) ((qab x1 (wrap64 (x18 - 1))).f1) ((qab x16 x18).f0) ((qab x16 x18).f1)).bind fun t107 => (if t107 ≥ 0 then (some (false, true)) else (qaK.l0 k x1 x16 x17 (wrap64 (x18 + 1)) qeo qeF))) else (none)) else (none)) else (qaK.l0 k x1 x16 x17 (wrap64 (x18 + 1)) qeo qeF))) else (none)) else (none)) else (if (x1.length : Int) = qeF then ((qbr.f k qeo x1).bind fun qd5 => (some (qd5, true))) else (some (false, true)))
end
def qaK.f (k : Nat) (qax : ByteArray) (qaZ : Int) (l1 : List (qaj)) : Option (Bool × Bool) := (qa7.f qax qaZ).bind fun qaF => (if qaF = true then ((qcZ.f l1).bind fun qaX => (qaK.j0 k l1 (!qaX) qax qaZ)) else (qaK.j0 k l1 true qax qaZ))
def qaK.T6 : Bool × List (List Nat × List Nat) := (true, [([], []), ([0], [0]), ([1], [1]), ([2], [2]), ([3], [3]), ([4, 3], [3, 4]), ([5, 3, 3], [3, 5]), ([6], [6]), ([6], [6]), ([8, 6], [6, 8]), ([7, 9, 6], [6, 7, 9]), ([10, 6], [6, 10]), ([6], [6]), ([11, 12, 6, 6], [6, 11, 12]), ([13, 6], [6, 13]), ([6, 14, 3], [3, 6, 14]), ([3, 15], [3, 15])])
def qaK.B6 : List Nat := [0, 1, 3, 7, 15, 31, 63, 127, 127, 383, 1023, 2047, 127, 8191, 16383, 32767, 65535]
theorem qaK.tab6 : qhD .any (opsOf Tryz.f23 6) = qaK.T6 := by kernel_rfl
theorem qaK.bits6 : qeE qaK.T6.2 qaK.B6 = true := by kernel_rfl
theorem qaK.calls (k : Nat) (qax : ByteArray) (qaZ : Int) (A1 : Option Addr) (c1 : Nat) (l1 : List (qaj)) (r1 : Bool) (r2 : Bool) (w : World) (hr1 : Kd.C qa1 w A1 l1.length l1) (hc1 : l1.length ≤ c1) (h : qaK.f k qax qaZ l1 = some (r1, r2)) :
  Calls Tryz.prog 23 #[.agg #[.string qax, .int .i64 qaZ], .slice A1 l1.length c1] w fun e w' => e = .returned (.tuple #[.bool r1, .bool r2]) ∧ Below w.heap.size w w' := by
 have qiv := Tryz.underlying23; have qkE := Tryz.underlying33; have HR1 := ak_ hr1; have HC1 := ak_ hc1; clear hr1 hc1; have HB := ak_ (Below.refl w.heap.size w); have H : ((qa7.f qax qaZ).bind fun qaF => (if qaF = true then ((qcZ.f l1).bind fun qaX => (qaK.j0 k l1 (!qaX) qax qaZ)) else (qaK.j0 k l1 true qax qaZ))) = some (r1, r2) := h; clear h; have HC3 := ak_ H; clear H; go_enter Tryz.func23, Tryz.ntmps23
 go_upto_region 1 with (first | ((with_reducible refine qas (N := 2) rfl ?_); refine bx_ 2 (cs := #[.string qax, .int .i64 qaZ]) (t := 23) qa0 ?_; intro qaR hg w4 hbox hb; have qai := ak_ (hbox); have qcB := ak_ (HB.ge hg); have qcg := ak_ (HB.ge hg); replace HB := HB.mw hb; clear hb hbox hg))
 (try simp only [Act.put, List.setIfInBounds_toArray, List.set_cons_zero, List.set_cons_succ])
 go_cut [15] (fun v15 wc => ∃ (kq : Nat) (qhw : Bool), v15 = .bool qhw ∧ qah (qaK.j0 kq l1 qhw qax qaZ = some (r1, r2)) ∧ qah (kq ≤ k) ∧ qah (wc.heap[qaR]? = some (.cells #[.string qax, .int .i64 qaZ] 23 (0, 0))) ∧ qah (Below w.heap.size w wc))
 case first =>
  have H := HC3.out; clear HC3; obtain ⟨qaF, A5, H⟩ := qbh H; (try dsimp only at H); by_cases c6 : qaF = true
  ·subst c6; rw [if_pos rfl] at H; obtain ⟨qaX, A7, H⟩ := qbh H; (try dsimp only at H); have H' := ak_ H; clear H; obtain ⟨qgg, qgh, qgz, qgi⟩ := qa2 qai.out
   go_wp2_with (first | ((with_reducible refine qad (f := 43) rfl ?_); refine gl_ 9 Tryz.func43 #[.agg #[.string qax, .int .i64 qaZ]] rfl qbK ?_; (with_reducible refine (qa7.calls qax qaZ true _ A5.out).mono ?_); rintro e w9 ⟨rfl, hb⟩; refine ⟨_, rfl, ?_⟩; replace qai := qai.mw hb; replace HB := ak_ (qac qaM hb); (try clear hb)) | (go_at_call 51; (with_reducible refine (qcZ.calls _ _ l1 qaX _ ?qaB ?qaC A7.out).mono ?_); (case qaB => exact k71_); (case qaC => exact HC1.out); rintro e w10 ⟨rfl, hb⟩; replace qai := qai.mw hb; replace HB := ak_ (qac qaM hb); (try clear hb)))
   go_meet
   case rel => exact ⟨_, (!qaX), qbg, H', ⟨qg6⟩, ⟨qch⟩, ⟨qaM⟩⟩
  replace c6 := Bool.eq_false_iff.mpr c6; subst c6; rw [if_neg (show ¬ (false = true) by decide)] at H; have H' := ak_ H; clear H; obtain ⟨qgv, qgw, qgx, qgy⟩ := qa2 qai.out
  go_wp2_with (first | ((with_reducible refine qad (f := 43) rfl ?_); refine gl_ 9 Tryz.func43 #[.agg #[.string qax, .int .i64 qaZ]] rfl qbK ?_; (with_reducible refine (qa7.calls qax qaZ false _ A5.out).mono ?_); rintro e w12 ⟨rfl, hb⟩; refine ⟨_, rfl, ?_⟩; replace qai := qai.mw hb; replace HB := ak_ (qac qaM hb); (try clear hb)))
  go_meet
  case rel => exact ⟨_, (true), qbg, H', ⟨qg6⟩, ⟨qch⟩, ⟨qaM⟩⟩
 case rest =>
  clear HC3; obtain ⟨kq, qhw, rfl, HA, HJ2, qai, HB⟩ := hcut
  cases kq with
  | zero => exact absurd HA.out (by simp [qaK.j0])
  | succ kj2 =>
   have H := HA.out; clear HA; simp only [qaK.j0] at H; by_cases c13 : qhw = true
   ·subst c13; rw [if_pos rfl] at H; simp only [Option.some.injEq, Prod.mk.injEq] at H; obtain ⟨rfl, rfl⟩ := H; go_wp2
    go_ret2
    exact ⟨qbx, qaM⟩
   replace c13 := Bool.eq_false_iff.mpr c13; subst c13; rw [if_neg (show ¬ (false = true) by decide)] at H; have H' := ak_ H; clear H; go_wp2
   go_loopg [18] kj2 (fun kq v18 w' => ∃ (qb3 : Int), v18 = .int .i64 qb3 ∧ qah (qaK.l0 kq l1 l1 (l1.length : Int) qb3 qax qaZ = some (r1, r2)) ∧ qah (kq ≤ kj2) ∧ qah (w'.heap[qaR]? = some (.cells #[.string qax, .int .i64 qaZ] 23 (0, 0))) ∧ qah (Below w.heap.size w w'))
   case atStart => exact ⟨(0), qbg, H', ⟨Nat.le_refl _⟩, ⟨qch⟩, ⟨qaM⟩⟩
   case round =>
    clear H'; (try clear c13); obtain ⟨qb3, rfl, HA, HK2, qai, HB⟩ := hrel
    cases gk with
    | zero => exact absurd HA.out (by simp [qaK.l0])
    | succ k2 =>
     have H := HA.out; clear HA; simp only [qaK.l0] at H; by_cases c14 : qb3 < (l1.length : Int); rotate_left
     ·rw [if_neg c14] at H; have qlk : decide (qb3 < (l1.length : Int)) = false := decide_eq_false c14; clear c14; by_cases c46 : (l1.length : Int) = qaZ; rotate_left
      ·rw [if_neg c46] at H; have c46b0 : ((l1.length : Int) == qaZ) = false := beq_eq_false_iff_ne.mpr c46; have c46b1 : ((l1.length : Int) != qaZ) = true := bne_iff_ne.mpr c46; simp only [Option.some.injEq, Prod.mk.injEq] at H; obtain ⟨rfl, rfl⟩ := H; obtain ⟨hcz50_0, hcz50_1, hfz50_0, hfz50_1⟩ := qa2 qai.out; go_wp2
       go_ret2
       exact ⟨qbx, qaM⟩
      rw [if_pos c46] at H; have c46b0 : ((l1.length : Int) == qaZ) = true := beq_iff_eq.mpr c46; have c46b1 : ((l1.length : Int) != qaZ) = false := bne_eq_false_iff_eq.mpr c46; clear c46; obtain ⟨qd5, A47, H⟩ := qbh H; (try dsimp only at H); simp only [Option.some.injEq, Prod.mk.injEq] at H; obtain ⟨rfl, rfl⟩ := H; obtain ⟨qjP, qjQ, qjV, qjW⟩ := qa2 qai.out
      go_wp2_with (first | (go_at_call 53; (with_reducible refine (qbr.calls k2 qax _ _ l1 qd5 _ ?qaB ?qaC A47.out).mono ?_); (case qaB => exact k71_); (case qaC => exact HC1.out); rintro e w49 ⟨rfl, hb⟩; replace qai := qai.mw hb; replace HB := ak_ (qac qaM hb); (try clear hb)))
      go_ret2
      exact ⟨qbx, qaM⟩
     rw [if_pos c14] at H; have qlk : decide (qb3 < (l1.length : Int)) = true := decide_eq_true c14; clear c14; by_cases c15 : 0 ≤ qb3; rotate_left
     ·rw [if_neg c15] at H; exact absurd H (by simp)
     rw [if_pos c15] at H; have qs3 : decide (0 ≤ qb3) = true := decide_eq_true c15; clear c15; by_cases c16 : qb3 < (l1.length : Int); rotate_left
     ·rw [if_neg c16] at H; exact absurd H (by simp)
     rw [if_pos c16] at H; have c16b0 : decide (qb3 < (l1.length : Int)) = true := decide_eq_true c16; clear c16; by_cases c17 : ((qab l1 qb3).f0) > 10
     ·rw [if_pos c17] at H; have c17b0 : decide (10 < ((qab l1 qb3).f0)) = true := decide_eq_true c17; clear c17; simp only [Option.some.injEq, Prod.mk.injEq] at H; obtain ⟨rfl, rfl⟩ := H; have qj1 : 0 ≤ (qb3 : Int) := of_decide_eq_true qa8; have qj3 : qb3 < (l1.length : Int) := of_decide_eq_true qa8; obtain ⟨qiu, qrF, qeb, qfs⟩ := qcq HR1.out qb3 qj1 qj3
      cases qrF
      replace qeb := (HB.out.cell (World.block_lt_of_cell? w _ qeb)).trans qeb; replace qfs := (HB.out.cell (World.block_lt_of_cell? w _ qfs)).trans qfs; replace qj1 := eq_true qj1; replace qj3 := eq_true qj3
      try go_wp2_with (first | ((with_reducible refine qas (N := 7) rfl ?_); refine bx_ 7 (cs := #[.int .i64 0, .int .i64 0]) (t := 33) qa0 ?_; intro qbM hg w18 hbox hb; have qb7 := ak_ (hbox); have qnl := ak_ ((by rw [hg]; exact (qal qaM) : w.heap.size ≤ qbM)); have qmp := ak_ ((by rw [hg]; exact (qal qaM) : w.heap.size ≤ qbM)); replace HB := ak_ (qac qaM hb); have qes := ak_ (qai.ne hg); have qe4 := ak_ (qai.ne hg).symm; replace qai := qai.mw hb; clear hb hbox hg; have hnb19 := qe4.out; have hnc19 := qes.out; obtain ⟨qtv, qtw, qtD, qtE⟩ := qa2 qb7.out))
      have n0_ : qah (((w18.setCell ⟨qbM, 0, none⟩ (.int .i64 ((qab l1 qb3).f0))).setCell ⟨qbM, 1, none⟩ (.int .i64 ((qab l1 qb3).f1))).heap[qaR]? = some (.cells #[.string qax, .int .i64 qaZ] 23 (0, 0))) := ⟨k27_⟩
      have n1_ : qah (((w18.setCell ⟨qbM, 0, none⟩ (.int .i64 ((qab l1 qb3).f0))).setCell ⟨qbM, 1, none⟩ (.int .i64 ((qab l1 qb3).f1))).heap[qbM]? = some (.cells #[.int .i64 ((qab l1 qb3).f0), .int .i64 ((qab l1 qb3).f1)] 33 (0, 0))) := ⟨k14_⟩
      have n2_ : qah (Below w.heap.size w ((w18.setCell ⟨qbM, 0, none⟩ (.int .i64 ((qab l1 qb3).f0))).setCell ⟨qbM, 1, none⟩ (.int .i64 ((qab l1 qb3).f1)))) := ⟨qpG⟩
      (try clear qai); (try clear qb7); (try clear HB)
      generalize ((w18.setCell ⟨qbM, 0, none⟩ (.int .i64 ((qab l1 qb3).f0))).setCell ⟨qbM, 1, none⟩ (.int .i64 ((qab l1 qb3).f1))) = w21 at n0_ n1_ n2_ ⊢
      have qai := n0_; have qb7 := n1_; have HB := n2_; clear n0_ n1_ n2_; replace qai := ak_ (qae qai.out); replace qb7 := ak_ (qae qb7.out); replace HB := ak_ (qap HB.out); refine qc7 (n := 17) (S := fun w' => w'.cell? ⟨qbM, 0, none⟩ = some (.int .i64 ((qab l1 qb3).f0)) ∧ w'.cell? ⟨qbM, 1, none⟩ = some (.int .i64 ((qab l1 qb3).f1))) (ds := []) (rA_ [0, 17]) (by kernel_rfl) rfl rfl ⟨qbj qb7.out, qbm qb7.out⟩ (fun hHeld => ?_); refine qb1 qaK.tab6 qaK.bits6 (fun HT_ HW_ => ?_)
      generalize w21.drew = w22 at qai qb7 HB hHeld ⊢
      refine pu_ 0 23 [1, 16] ?_; refine qip 1 24 [2, 15] ?_; refine pu_ 2 25 [3, 14] ?_; refine pu_ 3 26 [4, 13] ?_; refine pz_ 4 27 [5, 12] ?_; refine pz_ 5 28 [6, 11] ?_; refine pz_ 6 29 [7, 10] ?_; refine pz_ 7 30 [8, 9] ?_; refine pz_ 8 31 [9, 8] ?_; refine pz_ 9 32 [10, 7] ?_; refine pz_ 10 33 [11, 6] ?_; refine pz_ 11 34 [12, 5] ?_; refine pz_ 12 35 [13, 4] ?_; refine pz_ 13 36 [14, 3] ?_; refine pz_ 14 37 [15, 2] ?_; refine pz_ 15 38 [16, 1] ?_; refine pu_ 16 39 [17] ?_; refine qeI (qc3 HT_.out (by kernel_rfl)) ?_
      try go_wp2
      go_ret2
      exact ⟨qbx, qpG⟩
     rw [if_neg c17] at H; have c17b0 : decide (10 < ((qab l1 qb3).f0)) = false := decide_eq_false c17; clear c17; by_cases c23 : qb3 > 0; rotate_left
     ·rw [if_neg c23] at H; have qnG : decide (0 < qb3) = false := decide_eq_false c23; clear c23; have H' := ak_ H; clear H; have qj1 : 0 ≤ (qb3 : Int) := of_decide_eq_true qa8; have qj3 : qb3 < (l1.length : Int) := of_decide_eq_true qa8; obtain ⟨qiu, qrF, qeb, qfs⟩ := qcq HR1.out qb3 qj1 qj3
      cases qrF
      replace qeb := (HB.out.cell (World.block_lt_of_cell? w _ qeb)).trans qeb; replace qfs := (HB.out.cell (World.block_lt_of_cell? w _ qfs)).trans qfs; replace qj1 := eq_true qj1; replace qj3 := eq_true qj3
      try go_wp2_with (first | ((with_reducible refine qas (N := 7) rfl ?_); refine bx_ 7 (cs := #[.int .i64 0, .int .i64 0]) (t := 33) qa0 ?_; intro qbM hg w41 hbox hb; have qb7 := ak_ (hbox); have qnl := ak_ ((by rw [hg]; exact (qal qaM) : w.heap.size ≤ qbM)); have qmp := ak_ ((by rw [hg]; exact (qal qaM) : w.heap.size ≤ qbM)); replace HB := ak_ (qac qaM hb); have qes := ak_ (qai.ne hg); have qe4 := ak_ (qai.ne hg).symm; replace qai := qai.mw hb; clear hb hbox hg; have hnb42 := qe4.out; have hnc42 := qes.out; obtain ⟨qlz, qlA, qlJ, qlK⟩ := qa2 qb7.out))
      have n0_ : qah (((w41.setCell ⟨qbM, 0, none⟩ (.int .i64 ((qab l1 qb3).f0))).setCell ⟨qbM, 1, none⟩ (.int .i64 ((qab l1 qb3).f1))).heap[qaR]? = some (.cells #[.string qax, .int .i64 qaZ] 23 (0, 0))) := ⟨k27_⟩
      have n1_ : qah (((w41.setCell ⟨qbM, 0, none⟩ (.int .i64 ((qab l1 qb3).f0))).setCell ⟨qbM, 1, none⟩ (.int .i64 ((qab l1 qb3).f1))).heap[qbM]? = some (.cells #[.int .i64 ((qab l1 qb3).f0), .int .i64 ((qab l1 qb3).f1)] 33 (0, 0))) := ⟨k14_⟩
      have n2_ : qah (Below w.heap.size w ((w41.setCell ⟨qbM, 0, none⟩ (.int .i64 ((qab l1 qb3).f0))).setCell ⟨qbM, 1, none⟩ (.int .i64 ((qab l1 qb3).f1)))) := ⟨qpG⟩
      (try clear qai); (try clear qb7); (try clear HB)
      generalize ((w41.setCell ⟨qbM, 0, none⟩ (.int .i64 ((qab l1 qb3).f0))).setCell ⟨qbM, 1, none⟩ (.int .i64 ((qab l1 qb3).f1))) = w44 at n0_ n1_ n2_ ⊢
      have qai := n0_; have qb7 := n1_; have HB := n2_; clear n0_ n1_ n2_; replace qai := ak_ (qae qai.out); replace qb7 := ak_ (qae qb7.out); replace HB := ak_ (qap HB.out); refine qc7 (n := 17) (S := fun w' => w'.cell? ⟨qbM, 0, none⟩ = some (.int .i64 ((qab l1 qb3).f0)) ∧ w'.cell? ⟨qbM, 1, none⟩ = some (.int .i64 ((qab l1 qb3).f1))) (ds := []) (rA_ [0, 17]) (by kernel_rfl) rfl rfl ⟨qbj qb7.out, qbm qb7.out⟩ (fun hHeld => ?_); refine qb1 qaK.tab6 qaK.bits6 (fun HT_ HW_ => ?_)
      generalize w44.drew = w45 at qai qb7 HB hHeld ⊢
      refine pu_ 0 23 [1, 16] ?_; refine qip 1 24 [2, 15] ?_; refine pu_ 2 25 [3, 14] ?_; refine pu_ 3 26 [4, 13] ?_; refine pu_ 4 27 [5, 12] ?_; refine pu_ 5 28 [6, 11] ?_; refine pu_ 6 29 [7, 10] ?_; refine pz_ 7 30 [8, 9] ?_; refine pz_ 8 31 [9, 8] ?_; refine pz_ 9 32 [10, 7] ?_; refine pz_ 10 33 [11, 6] ?_; refine pz_ 11 34 [12, 5] ?_; refine pz_ 12 35 [13, 4] ?_; refine pz_ 13 36 [14, 3] ?_; refine pz_ 14 37 [15, 2] ?_; refine pu_ 15 38 [16, 1] ?_; refine pu_ 16 39 [17] ?_; refine qeI (qc3 HT_.out (by kernel_rfl)) ?_
      try go_wp2
      go_roundg k2
      case measure => have := HJ2.out; have := HK2.out; omega
      case rel => exact ⟨(wrap64 (qb3 + 1)), qbg, H', ⟨by have := HJ2.out; have := HK2.out; omega⟩, ⟨qch⟩, ⟨qpG⟩⟩
     rw [if_pos c23] at H; have qnG : decide (0 < qb3) = true := decide_eq_true c23; clear c23
     obtain ⟨qix, qrJ⟩ : ∃ j_ : Int, (wrap64 (qb3 - 1)) = j_ := ⟨_, rfl⟩
     replace H : (if 0 ≤ (qix) then (if (qix) < (l1.length : Int) then ((qbt.f k2 ((qab l1 (qix)).f0) ((qab l1 (qix)).f1) ((qab l1 qb3).f0) ((qab l1 qb3).f1)).bind fun t107 => (if t107 ≥ 0 then (some (false, true)) else (qaK.l0 k2 l1 l1 (l1.length : Int) (wrap64 (qb3 + 1)) qax qaZ))) else (none)) else (none)) = some (r1, r2) := by first | (rw [qrJ] at H; exact H) | (simp only [qrJ] at H ⊢; exact H)
     have hji24w : (IntKind.i64.wrap (qb3 - 1)) = qix := (qbL _).trans qrJ; by_cases c25 : 0 ≤ (qix); rotate_left
     ·rw [if_neg c25] at H; exact absurd H (by simp)
     rw [if_pos c25] at H; have c25b0 : decide (0 ≤ (qix)) = true := decide_eq_true c25; clear c25; by_cases c26 : (qix) < (l1.length : Int); rotate_left
     ·rw [if_neg c26] at H; exact absurd H (by simp)
     rw [if_pos c26] at H; have c26b0 : decide ((qix) < (l1.length : Int)) = true := decide_eq_true c26; clear c26; obtain ⟨t107, A27, H⟩ := qbh H; (try dsimp only at H); by_cases c28 : t107 ≥ 0
     ·rw [if_pos c28] at H; have qnH : decide (0 ≤ t107) = true := decide_eq_true c28; clear c28; simp only [Option.some.injEq, Prod.mk.injEq] at H; obtain ⟨rfl, rfl⟩ := H; have qj1 : 0 ≤ (qb3 : Int) := of_decide_eq_true qa8; have qj3 : qb3 < (l1.length : Int) := of_decide_eq_true qa8; obtain ⟨qiu, qrF, qeb, qfs⟩ := qcq HR1.out qb3 qj1 qj3
      cases qrF
      replace qeb := (HB.out.cell (World.block_lt_of_cell? w _ qeb)).trans qeb; replace qfs := (HB.out.cell (World.block_lt_of_cell? w _ qfs)).trans qfs; replace qj1 := eq_true qj1; replace qj3 := eq_true qj3
      try go_wp2_with (first | ((with_reducible refine qas (N := 7) rfl ?_); refine bx_ 7 (cs := #[.int .i64 0, .int .i64 0]) (t := 33) qa0 ?_; intro qbM hg w29 hbox hb; have qb7 := ak_ (hbox); have qnl := ak_ ((by rw [hg]; exact (qal qaM) : w.heap.size ≤ qbM)); have qmp := ak_ ((by rw [hg]; exact (qal qaM) : w.heap.size ≤ qbM)); replace HB := ak_ (qac qaM hb); have qes := ak_ (qai.ne hg); have qe4 := ak_ (qai.ne hg).symm; replace qai := qai.mw hb; clear hb hbox hg; have hnb30 := qe4.out; have hnc30 := qes.out; obtain ⟨qh6, qh7, qh8, qh9⟩ := qa2 qb7.out))
      have n0_ : qah (((w29.setCell ⟨qbM, 0, none⟩ (.int .i64 ((qab l1 qb3).f0))).setCell ⟨qbM, 1, none⟩ (.int .i64 ((qab l1 qb3).f1))).heap[qaR]? = some (.cells #[.string qax, .int .i64 qaZ] 23 (0, 0))) := ⟨k27_⟩
      have n1_ : qah (((w29.setCell ⟨qbM, 0, none⟩ (.int .i64 ((qab l1 qb3).f0))).setCell ⟨qbM, 1, none⟩ (.int .i64 ((qab l1 qb3).f1))).heap[qbM]? = some (.cells #[.int .i64 ((qab l1 qb3).f0), .int .i64 ((qab l1 qb3).f1)] 33 (0, 0))) := ⟨k14_⟩
      have n2_ : qah (Below w.heap.size w ((w29.setCell ⟨qbM, 0, none⟩ (.int .i64 ((qab l1 qb3).f0))).setCell ⟨qbM, 1, none⟩ (.int .i64 ((qab l1 qb3).f1)))) := ⟨qpG⟩
      (try clear qai); (try clear qb7); (try clear HB)
      generalize ((w29.setCell ⟨qbM, 0, none⟩ (.int .i64 ((qab l1 qb3).f0))).setCell ⟨qbM, 1, none⟩ (.int .i64 ((qab l1 qb3).f1))) = w32 at n0_ n1_ n2_ ⊢
      have qai := n0_; have qb7 := n1_; have HB := n2_; clear n0_ n1_ n2_; replace qai := ak_ (qae qai.out); replace qb7 := ak_ (qae qb7.out); replace HB := ak_ (qap HB.out); have qkw : 0 ≤ ((qix) : Int) := of_decide_eq_true qa8; have qkx : (qix) < (l1.length : Int) := of_decide_eq_true qa8; obtain ⟨qnx, qtj, qdc, qgC⟩ := qcq HR1.out (qix) qkw qkx; have qhl := qgC; have qhk := qdc
      obtain rfl : qiu = qnx := (by injection qtj)
      replace qdc := (HB.out.cell (World.block_lt_of_cell? w _ qdc)).trans qdc; replace qgC := (HB.out.cell (World.block_lt_of_cell? w _ qgC)).trans qgC; replace qkw := eq_true qkw; replace qkx := eq_true qkx; refine qc7 (n := 17) (S := fun w' => w'.cell? ⟨qbM, 0, none⟩ = some (.int .i64 ((qab l1 qb3).f0)) ∧ w'.cell? ⟨qbM, 1, none⟩ = some (.int .i64 ((qab l1 qb3).f1)) ∧ w'.cell? (qiu.add (((qix)).toNat * 2)) = some (.int .i64 ((qab l1 (qix)).f0)) ∧ w'.cell? ⟨(qiu.add (((qix)).toNat * 2)).block, (qiu.add (((qix)).toNat * 2)).off + 1, none⟩ = some (.int .i64 ((qab l1 (qix)).f1))) (ds := []) (rA_ [0, 17]) (by kernel_rfl) rfl rfl ⟨qbj qb7.out, qbm qb7.out, ((HB.out.cell (World.block_lt_of_cell? w _ qhk)).trans qhk), ((HB.out.cell (World.block_lt_of_cell? w _ qhl)).trans qhl)⟩ (fun hHeld => ?_); refine qb1 qaK.tab6 qaK.bits6 (fun HT_ HW_ => ?_)
      generalize w32.drew = w33 at qai qb7 HB qdc qgC hHeld ⊢
      refine pu_ 0 23 [1, 16] ?_; refine qoB 1 24 [2, 15] ?_; refine pu_ 2 25 [3, 14] ?_; refine pu_ 3 26 [4, 13] ?_; refine pu_ 4 27 [5, 12] ?_; refine pu_ 5 28 [6, 11] ?_; refine pu_ 6 29 [7, 10] ?_; refine pu_ 7 30 [8, 9] ?_; refine pu_ 8 31 [9, 8] ?_; refine pu_ 9 32 [10, 7] ?_; refine pu_ 10 33 [11, 6] ?_; refine qoB 11 34 [12, 5] ?_; refine qoB 12 35 [13, 4] ?_; refine qe2 (i := 13) (N := some 36) (rA_ [14, 3]) rfl rfl (qcn HT_.out (by kernel_rfl)) (by decide) (fun K hK => ?_); refine qdz Tryz.func52 (by kernel_rfl) rfl #[.agg #[.int .i64 ((qab l1 (qix)).f0), .int .i64 ((qab l1 (qix)).f1)], .agg #[.int .i64 ((qab l1 qb3).f0), .int .i64 ((qab l1 qb3).f1)]] (by rfl) rfl rfl (by (try simp only [List.map_toArray, List.map_cons, List.map_nil]); first | done | (simp only [qrJ]; rfl) | rfl | (simp only [List.length_drop, List.length_take]; rfl)) ?_
      with_reducible refine (qbt.calls k2 ((qab l1 (qix)).f0) ((qab l1 (qix)).f1) ((qab l1 qb3).f0) ((qab l1 qb3).f1) t107 _ A27.out).mono ?_
      rintro e w34 ⟨rfl, hb⟩; refine ⟨_, rfl, ?_⟩; replace qai := qai.mw hb; replace qb7 := qb7.mw hb; replace HB := ak_ (qac qpG hb); (try clear hb); (try clear hb2); (try clear hk); (try clear hi); refine hK.out _ _ ⟨qbj qb7.out, qbm qb7.out, ((HB.out.cell (World.block_lt_of_cell? w _ qhk)).trans qhk), ((HB.out.cell (World.block_lt_of_cell? w _ qhl)).trans qhl)⟩ (fun hHeld => ?_); clear hK K; refine nm_ 36 ?_; refine pu_ 14 37 [15, 2] ?_; refine pu_ 15 38 [16, 1] ?_; refine pu_ 16 39 [17] ?_; refine qeI (qc3 HT_.out (by kernel_rfl)) ?_
      try go_wp2
      go_ret2
      exact ⟨by first | rfl | (simp [qe6, qe7] <;> rfl) | (simp only [← qrJ]; first | rfl | (simp [qe6, qe7] <;> rfl)) | (simp [*, qe6, qe7] <;> rfl), qpG⟩
     rw [if_neg c28] at H; have qnH : decide (0 ≤ t107) = false := decide_eq_false c28; clear c28; have H' := ak_ H; clear H; have qj1 : 0 ≤ (qb3 : Int) := of_decide_eq_true qa8; have qj3 : qb3 < (l1.length : Int) := of_decide_eq_true qa8; obtain ⟨qiu, qrF, qeb, qfs⟩ := qcq HR1.out qb3 qj1 qj3
     cases qrF
     replace qeb := (HB.out.cell (World.block_lt_of_cell? w _ qeb)).trans qeb; replace qfs := (HB.out.cell (World.block_lt_of_cell? w _ qfs)).trans qfs; replace qj1 := eq_true qj1; replace qj3 := eq_true qj3
     try go_wp2_with (first | ((with_reducible refine qas (N := 7) rfl ?_); refine bx_ 7 (cs := #[.int .i64 0, .int .i64 0]) (t := 33) qa0 ?_; intro qbM hg w35 hbox hb; have qb7 := ak_ (hbox); have qnl := ak_ ((by rw [hg]; exact (qal qaM) : w.heap.size ≤ qbM)); have qmp := ak_ ((by rw [hg]; exact (qal qaM) : w.heap.size ≤ qbM)); replace HB := ak_ (qac qaM hb); have qes := ak_ (qai.ne hg); have qe4 := ak_ (qai.ne hg).symm; replace qai := qai.mw hb; clear hb hbox hg; have hnb36 := qe4.out; have hnc36 := qes.out; obtain ⟨qlv, qlw, qlF, qlG⟩ := qa2 qb7.out))
     have n0_ : qah (((w35.setCell ⟨qbM, 0, none⟩ (.int .i64 ((qab l1 qb3).f0))).setCell ⟨qbM, 1, none⟩ (.int .i64 ((qab l1 qb3).f1))).heap[qaR]? = some (.cells #[.string qax, .int .i64 qaZ] 23 (0, 0))) := ⟨k27_⟩
     have n1_ : qah (((w35.setCell ⟨qbM, 0, none⟩ (.int .i64 ((qab l1 qb3).f0))).setCell ⟨qbM, 1, none⟩ (.int .i64 ((qab l1 qb3).f1))).heap[qbM]? = some (.cells #[.int .i64 ((qab l1 qb3).f0), .int .i64 ((qab l1 qb3).f1)] 33 (0, 0))) := ⟨k14_⟩
     have n2_ : qah (Below w.heap.size w ((w35.setCell ⟨qbM, 0, none⟩ (.int .i64 ((qab l1 qb3).f0))).setCell ⟨qbM, 1, none⟩ (.int .i64 ((qab l1 qb3).f1)))) := ⟨qpG⟩
     (try clear qai); (try clear qb7); (try clear HB)
     generalize ((w35.setCell ⟨qbM, 0, none⟩ (.int .i64 ((qab l1 qb3).f0))).setCell ⟨qbM, 1, none⟩ (.int .i64 ((qab l1 qb3).f1))) = w38 at n0_ n1_ n2_ ⊢
     have qai := n0_; have qb7 := n1_; have HB := n2_; clear n0_ n1_ n2_; replace qai := ak_ (qae qai.out); replace qb7 := ak_ (qae qb7.out); replace HB := ak_ (qap HB.out); have qkw : 0 ≤ ((qix) : Int) := of_decide_eq_true qa8; have qkx : (qix) < (l1.length : Int) := of_decide_eq_true qa8; obtain ⟨qnx, qtj, qdc, qgC⟩ := qcq HR1.out (qix) qkw qkx; have qhl := qgC; have qhk := qdc
     obtain rfl : qiu = qnx := (by injection qtj)
     replace qdc := (HB.out.cell (World.block_lt_of_cell? w _ qdc)).trans qdc; replace qgC := (HB.out.cell (World.block_lt_of_cell? w _ qgC)).trans qgC; replace qkw := eq_true qkw; replace qkx := eq_true qkx; refine qc7 (n := 17) (S := fun w' => w'.cell? ⟨qbM, 0, none⟩ = some (.int .i64 ((qab l1 qb3).f0)) ∧ w'.cell? ⟨qbM, 1, none⟩ = some (.int .i64 ((qab l1 qb3).f1)) ∧ w'.cell? (qiu.add (((qix)).toNat * 2)) = some (.int .i64 ((qab l1 (qix)).f0)) ∧ w'.cell? ⟨(qiu.add (((qix)).toNat * 2)).block, (qiu.add (((qix)).toNat * 2)).off + 1, none⟩ = some (.int .i64 ((qab l1 (qix)).f1))) (ds := []) (rA_ [0, 17]) (by kernel_rfl) rfl rfl ⟨qbj qb7.out, qbm qb7.out, ((HB.out.cell (World.block_lt_of_cell? w _ qhk)).trans qhk), ((HB.out.cell (World.block_lt_of_cell? w _ qhl)).trans qhl)⟩ (fun hHeld => ?_); refine qb1 qaK.tab6 qaK.bits6 (fun HT_ HW_ => ?_)
     generalize w38.drew = w39 at qai qb7 HB qdc qgC hHeld ⊢
     refine pu_ 0 23 [1, 16] ?_; refine qoB 1 24 [2, 15] ?_; refine pu_ 2 25 [3, 14] ?_; refine pu_ 3 26 [4, 13] ?_; refine pu_ 4 27 [5, 12] ?_; refine pu_ 5 28 [6, 11] ?_; refine pu_ 6 29 [7, 10] ?_; refine pu_ 7 30 [8, 9] ?_; refine pu_ 8 31 [9, 8] ?_; refine pu_ 9 32 [10, 7] ?_; refine pu_ 10 33 [11, 6] ?_; refine qoB 11 34 [12, 5] ?_; refine qoB 12 35 [13, 4] ?_; refine qe2 (i := 13) (N := some 36) (rA_ [14, 3]) rfl rfl (qcn HT_.out (by kernel_rfl)) (by decide) (fun K hK => ?_); refine qdz Tryz.func52 (by kernel_rfl) rfl #[.agg #[.int .i64 ((qab l1 (qix)).f0), .int .i64 ((qab l1 (qix)).f1)], .agg #[.int .i64 ((qab l1 qb3).f0), .int .i64 ((qab l1 qb3).f1)]] (by rfl) rfl rfl (by (try simp only [List.map_toArray, List.map_cons, List.map_nil]); first | done | (simp only [qrJ]; rfl) | rfl | (simp only [List.length_drop, List.length_take]; rfl)) ?_
     with_reducible refine (qbt.calls k2 ((qab l1 (qix)).f0) ((qab l1 (qix)).f1) ((qab l1 qb3).f0) ((qab l1 qb3).f1) t107 _ A27.out).mono ?_
     rintro e w40 ⟨rfl, hb⟩; refine ⟨_, rfl, ?_⟩; replace qai := qai.mw hb; replace qb7 := qb7.mw hb; replace HB := ak_ (qac qpG hb); (try clear hb); (try clear hb2); (try clear hk); (try clear hi); refine hK.out _ _ ⟨qbj qb7.out, qbm qb7.out, ((HB.out.cell (World.block_lt_of_cell? w _ qhk)).trans qhk), ((HB.out.cell (World.block_lt_of_cell? w _ qhl)).trans qhl)⟩ (fun hHeld => ?_); clear hK K; refine nm_ 36 ?_; refine pu_ 14 37 [15, 2] ?_; refine pu_ 15 38 [16, 1] ?_; refine pu_ 16 39 [17] ?_; refine qeI (qc3 HT_.out (by kernel_rfl)) ?_
     try go_wp2
     go_roundg k2
     case measure => have := HJ2.out; have := HK2.out; omega
     case rel => exact ⟨(wrap64 (qb3 + 1)), qbg, H', ⟨by have := HJ2.out; have := HK2.out; omega⟩, ⟨qch⟩, ⟨qpG⟩⟩
def qbP.l0 : Nat → List (qaj) → Int → ByteArray → Int → Option (ByteArray)
 | 0, _, _, _, _ => none
 | k + 1, x0, x1, x5, x6 => if x6 ≤ x1 then ((qem.f x0 x6).bind fun qco => (if qco = true then (if x5.size + 1 ≤ 9223372036854775807 then (qbP.l0 k x0 x1 (x5 ++ (⟨#[111]⟩ : ByteArray)) (wrap64 (x6 + 1))) else (none)) else (if x5.size + 1 ≤ 9223372036854775807 then (qbP.l0 k x0 x1 (x5 ++ (⟨#[120]⟩ : ByteArray)) (wrap64 (x6 + 1))) else (none)))) else (some x5)
def qbP.f (k : Nat) (l0 : List (qaj)) (a1 : Int) : Option (ByteArray) := qbP.l0 k l0 a1 (⟨#[]⟩ : ByteArray) 1
theorem qbP.calls (k : Nat) (A0 : Option Addr) (c0 : Nat) (l0 : List (qaj)) (a1 : Int) (r : ByteArray) (w : World) (hr0 : Kd.C qa1 w A0 l0.length l0) (hc0 : l0.length ≤ c0) (h : qbP.f k l0 a1 = some r) :
  Calls Tryz.prog 54 #[.slice A0 l0.length c0, .int .i64 a1] w fun e w' => e = .returned (.string r) ∧ Below w.heap.size w w' := by
 have HR0 := ak_ hr0; have HC0 := ak_ hc0; clear hr0 hc0; have HB := ak_ (Below.refl w.heap.size w); have H : (qbP.l0 k l0 a1 (⟨#[]⟩ : ByteArray) 1) = some r := h; clear h; have H' := ak_ H; clear H; go_enter Tryz.func54, Tryz.ntmps54; go_wp2
 go_loopg [5, 6] k (fun kq v5 v6 w' => ∃ (qmm : ByteArray) (qgf : Int), v5 = .string qmm ∧ v6 = .int .i64 qgf ∧ qah (qbP.l0 kq l0 a1 qmm qgf = some r) ∧ qah (kq ≤ k) ∧ qah (Below w.heap.size w w'))
 case atStart => exact ⟨((⟨#[]⟩ : ByteArray)), (1), qbg, qbg, H', ⟨Nat.le_refl _⟩, ⟨qcw⟩⟩
 case round =>
  clear H'; obtain ⟨qmm, qgf, rfl, rfl, HA, HK1, HB⟩ := hrel
  cases gk with
  | zero => exact absurd HA.out (by simp [qbP.l0])
  | succ k1 =>
   have H := HA.out; clear HA; simp only [qbP.l0] at H; by_cases c3 : qgf ≤ a1; rotate_left
   ·rw [if_neg c3] at H; have qil : decide (qgf ≤ a1) = false := decide_eq_false c3; clear c3; obtain rfl := Option.some.inj H; go_wp2
    go_ret
    exact ⟨qbx, qcw⟩
   rw [if_pos c3] at H; have qil : decide (qgf ≤ a1) = true := decide_eq_true c3; clear c3; obtain ⟨qco, A4, H⟩ := qbh H; (try dsimp only at H); by_cases c5 : qco = true
   ·subst c5; rw [if_pos rfl] at H; by_cases c6 : qmm.size + 1 ≤ 9223372036854775807; rotate_left
    ·rw [if_neg c6] at H; exact absurd H (by simp)
    rw [if_pos c6] at H; have qkn := eq_true c6; have qr4 : decide (qmm.size + 1 ≤ 9223372036854775807) = true := decide_eq_true c6
    try have c6b2 : (9223372036854775807 < qmm.size + 1) = False := eq_false (Nat.not_lt.2 c6)
    have H' := ak_ H; clear H
    go_wp2_with (first | ((with_reducible refine qad (f := 82) rfl ?_); refine gl_ 14 Tryz.func82 #[.slice A0 l0.length c0, .int .i64 qgf] rfl qbK ?_; (with_reducible refine (qem.calls _ _ l0 qgf true _ ?qaB ?qaC A4.out).mono ?_); (case qaB => exact k70_); (case qaC => exact HC0.out); rintro e w7 ⟨rfl, hb⟩; refine ⟨_, rfl, ?_⟩; replace HB := HB.mw hb; (try clear hb)))
    go_roundg k1
    case measure => have := HK1.out; omega
    case rel => exact ⟨(qmm ++ (⟨#[111]⟩ : ByteArray)), (wrap64 (qgf + 1)), qbg, qbg, H', ⟨qgl⟩, ⟨qcw⟩⟩
   replace c5 := Bool.eq_false_iff.mpr c5; subst c5; rw [if_neg (show ¬ (false = true) by decide)] at H; by_cases c8 : qmm.size + 1 ≤ 9223372036854775807; rotate_left
   ·rw [if_neg c8] at H; exact absurd H (by simp)
   rw [if_pos c8] at H; have c8b0 := eq_true c8; have c8b1 : decide (qmm.size + 1 ≤ 9223372036854775807) = true := decide_eq_true c8
   try have c8b2 : (9223372036854775807 < qmm.size + 1) = False := eq_false (Nat.not_lt.2 c8)
   have H' := ak_ H; clear H
   go_wp2_with (first | ((with_reducible refine qad (f := 82) rfl ?_); refine gl_ 14 Tryz.func82 #[.slice A0 l0.length c0, .int .i64 qgf] rfl qbK ?_; (with_reducible refine (qem.calls _ _ l0 qgf false _ ?qaB ?qaC A4.out).mono ?_); (case qaB => exact k70_); (case qaC => exact HC0.out); rintro e w9 ⟨rfl, hb⟩; refine ⟨_, rfl, ?_⟩; replace HB := HB.mw hb; (try clear hb)))
   go_roundg k1
   case measure => have := HK1.out; omega
   case rel => exact ⟨(qmm ++ (⟨#[120]⟩ : ByteArray)), (wrap64 (qgf + 1)), qbg, qbg, H', ⟨qgl⟩, ⟨qcw⟩⟩
def qek.f (k : Nat) (l0 : List (qaj)) (a1 : Int) : Option (ByteArray × Bool) := (qcZ.f l0).bind fun qco => (if qco = true then (if a1 < 1 then (some ((⟨#[]⟩ : ByteArray), false)) else (if a1 > 48 then (some ((⟨#[]⟩ : ByteArray), false)) else ((qbP.f k l0 a1).bind fun qaF => (some (qaF, true))))) else (some ((⟨#[]⟩ : ByteArray), false)))
theorem qek.calls (k : Nat) (A0 : Option Addr) (c0 : Nat) (l0 : List (qaj)) (a1 : Int) (r1 : ByteArray) (r2 : Bool) (w : World) (hr0 : Kd.C qa1 w A0 l0.length l0) (hc0 : l0.length ≤ c0) (h : qek.f k l0 a1 = some (r1, r2)) :
  Calls Tryz.prog 24 #[.slice A0 l0.length c0, .int .i64 a1] w fun e w' => e = .returned (.tuple #[.string r1, .bool r2]) ∧ Below w.heap.size w w' := by
 have HR0 := ak_ hr0; have HC0 := ak_ hc0; clear hr0 hc0; have HB := ak_ (Below.refl w.heap.size w); have H : ((qcZ.f l0).bind fun qco => (if qco = true then (if a1 < 1 then (some ((⟨#[]⟩ : ByteArray), false)) else (if a1 > 48 then (some ((⟨#[]⟩ : ByteArray), false)) else ((qbP.f k l0 a1).bind fun qaF => (some (qaF, true))))) else (some ((⟨#[]⟩ : ByteArray), false)))) = some (r1, r2) := h; clear h; obtain ⟨qco, A3, H⟩ := qbh H; (try dsimp only at H); by_cases c4 : qco = true; rotate_left
 ·replace c4 := Bool.eq_false_iff.mpr c4; subst c4; rw [if_neg (show ¬ (false = true) by decide)] at H; simp only [Option.some.injEq, Prod.mk.injEq] at H; obtain ⟨rfl, rfl⟩ := H; go_enter Tryz.func24, Tryz.ntmps24
  go_wp2_with (first | ((with_reducible refine qad (f := 51) rfl ?_); refine gl_ 7 Tryz.func51 #[.slice A0 l0.length c0] rfl qbK ?_; (with_reducible refine (qcZ.calls _ _ l0 false _ ?qaB ?qaC A3.out).mono ?_); (case qaB => exact k80_); (case qaC => exact HC0.out); rintro e w12 ⟨rfl, hb⟩; refine ⟨_, rfl, ?_⟩; replace HB := HB.mw hb; (try clear hb)))
  go_ret2
  exact ⟨qbx, qcw⟩
 subst c4; rw [if_pos rfl] at H; by_cases c5 : a1 < 1
 ·rw [if_pos c5] at H; have qi9 : decide (a1 < 1) = true := decide_eq_true c5; clear c5; simp only [Option.some.injEq, Prod.mk.injEq] at H; obtain ⟨rfl, rfl⟩ := H; go_enter Tryz.func24, Tryz.ntmps24
  go_wp2_with (first | ((with_reducible refine qad (f := 51) rfl ?_); refine gl_ 7 Tryz.func51 #[.slice A0 l0.length c0] rfl qbK ?_; (with_reducible refine (qcZ.calls _ _ l0 true _ ?qaB ?qaC A3.out).mono ?_); (case qaB => exact k80_); (case qaC => exact HC0.out); rintro e w6 ⟨rfl, hb⟩; refine ⟨_, rfl, ?_⟩; replace HB := HB.mw hb; (try clear hb)))
  go_ret2
  exact ⟨qbx, qcw⟩
 rw [if_neg c5] at H; have qi9 : decide (a1 < 1) = false := decide_eq_false c5; clear c5; by_cases c7 : a1 > 48
 ·rw [if_pos c7] at H; have qiI : decide (48 < a1) = true := decide_eq_true c7; clear c7; simp only [Option.some.injEq, Prod.mk.injEq] at H; obtain ⟨rfl, rfl⟩ := H; go_enter Tryz.func24, Tryz.ntmps24
  go_wp2_with (first | ((with_reducible refine qad (f := 51) rfl ?_); refine gl_ 7 Tryz.func51 #[.slice A0 l0.length c0] rfl qbK ?_; (with_reducible refine (qcZ.calls _ _ l0 true _ ?qaB ?qaC A3.out).mono ?_); (case qaB => exact k80_); (case qaC => exact HC0.out); rintro e w8 ⟨rfl, hb⟩; refine ⟨_, rfl, ?_⟩; replace HB := HB.mw hb; (try clear hb)))
  go_ret2
  exact ⟨qbx, qcw⟩
 rw [if_neg c7] at H; have qiI : decide (48 < a1) = false := decide_eq_false c7; clear c7; obtain ⟨qaF, A9, H⟩ := qbh H; (try dsimp only at H); simp only [Option.some.injEq, Prod.mk.injEq] at H; obtain ⟨rfl, rfl⟩ := H; go_enter Tryz.func24, Tryz.ntmps24
 go_wp2_with (first | ((with_reducible refine qad (f := 51) rfl ?_); refine gl_ 7 Tryz.func51 #[.slice A0 l0.length c0] rfl qbK ?_; (with_reducible refine (qcZ.calls _ _ l0 true _ ?qaB ?qaC A3.out).mono ?_); (case qaB => exact k80_); (case qaC => exact HC0.out); rintro e w10 ⟨rfl, hb⟩; refine ⟨_, rfl, ?_⟩; replace HB := HB.mw hb; (try clear hb)) | ((with_reducible refine qad (f := 54) rfl ?_); refine gl_ 19 Tryz.func54 #[.slice A0 l0.length c0, .int .i64 a1] rfl qbK ?_; (with_reducible refine (qbP.calls k _ _ l0 a1 qaF _ ?qaB ?qaC A9.out).mono ?_); (case qaB => exact k70_); (case qaC => exact HC0.out); rintro e w11 ⟨rfl, hb⟩; refine ⟨_, rfl, ?_⟩; replace HB := HB.mw hb; (try clear hb)))
 go_ret2
 exact ⟨qbx, qcw⟩
def qdJ.f (qax : Int) (qaZ : Int) (qc8 : Int) (qdG : Int) : Option (Bool) := if qax < qc8 then (some true) else (if qax = qc8 then (some (decide (qaZ < qdG))) else (some false))
theorem qdJ.calls (qax : Int) (qaZ : Int) (qc8 : Int) (qdG : Int) (r : Bool) (w : World) (h : qdJ.f qax qaZ qc8 qdG = some r) :
  Calls Tryz.prog 25 #[.agg #[.int .i64 qax, .int .i64 qaZ], .agg #[.int .i64 qc8, .int .i64 qdG]] w fun e w' => e = .returned (.bool r) ∧ Below w.heap.size w w' := by
 have qkE := Tryz.underlying33; have HB := ak_ (Below.refl w.heap.size w); have H : (if qax < qc8 then (some true) else (if qax = qc8 then (some (decide (qaZ < qdG))) else (some false))) = some r := h; clear h; by_cases c3 : qax < qc8
 ·rw [if_pos c3] at H; have qil : decide (qax < qc8) = true := decide_eq_true c3; clear c3; obtain rfl := Option.some.inj H; go_enter Tryz.func25, Tryz.ntmps25
  go_wp2_with (first | ((with_reducible refine qas (N := 2) rfl ?_); refine bx_ 2 (cs := #[.int .i64 qax, .int .i64 qaZ]) (t := 33) qa0 ?_; intro qaR hg w4 hbox hb; have qai := ak_ (hbox); have qcB := ak_ (HB.ge hg); have qcg := ak_ (HB.ge hg); replace HB := HB.mw hb; clear hb hbox hg) | ((with_reducible refine qas (N := 3) rfl ?_); refine bx_ 3 (cs := #[.int .i64 qc8, .int .i64 qdG]) (t := 33) qa0 ?_; intro qe1 hg w5 hbox hb; have qdr := ak_ (hbox); have qiD := ak_ ((by rw [hg]; exact (qal qaM) : w.heap.size ≤ qe1)); have qgT := ak_ ((by rw [hg]; exact (qal qaM) : w.heap.size ≤ qe1)); replace HB := ak_ (qac qaM hb); have qd1 := ak_ (qai.ne hg); have qdL := ak_ (qai.ne hg).symm; replace qai := qai.mw hb; clear hb hbox hg; have hnb6 := qd1.out; have hnc6 := qdL.out; obtain ⟨hcz7_0, hcz7_1, hfz7_0, hfz7_1⟩ := qa2 qai.out; obtain ⟨qgg, qgh, qgz, qgi⟩ := qa2 qdr.out))
  go_ret
  exact ⟨qbx, k95_⟩
 rw [if_neg c3] at H; have qil : decide (qax < qc8) = false := decide_eq_false c3; clear c3; by_cases c9 : qax = qc8
 ·rw [if_pos c9] at H; have qqJ : (qax == qc8) = true := beq_iff_eq.mpr c9; have c9b1 : (qax != qc8) = false := bne_eq_false_iff_eq.mpr c9; clear c9; obtain rfl := Option.some.inj H; go_enter Tryz.func25, Tryz.ntmps25
  go_wp2_with (first | ((with_reducible refine qas (N := 2) rfl ?_); refine bx_ 2 (cs := #[.int .i64 qax, .int .i64 qaZ]) (t := 33) qa0 ?_; intro qaR hg w10 hbox hb; have qai := ak_ (hbox); have qcB := ak_ (HB.ge hg); have qcg := ak_ (HB.ge hg); replace HB := HB.mw hb; clear hb hbox hg) | ((with_reducible refine qas (N := 3) rfl ?_); refine bx_ 3 (cs := #[.int .i64 qc8, .int .i64 qdG]) (t := 33) qa0 ?_; intro qe1 hg w11 hbox hb; have qdr := ak_ (hbox); have qiD := ak_ ((by rw [hg]; exact (qal qaM) : w.heap.size ≤ qe1)); have qgT := ak_ ((by rw [hg]; exact (qal qaM) : w.heap.size ≤ qe1)); replace HB := ak_ (qac qaM hb); have qd1 := ak_ (qai.ne hg); have qdL := ak_ (qai.ne hg).symm; replace qai := qai.mw hb; clear hb hbox hg; have hnb12 := qd1.out; have hnc12 := qdL.out; obtain ⟨qnR, qnS, qn9, qoa⟩ := qa2 qai.out; obtain ⟨qjL, qjM, qjR, qjS⟩ := qa2 qdr.out))
  go_ret
  exact ⟨qbx, k95_⟩
 rw [if_neg c9] at H; have qqJ : (qax == qc8) = false := beq_eq_false_iff_ne.mpr c9; have c9b1 : (qax != qc8) = true := bne_iff_ne.mpr c9; obtain rfl := Option.some.inj H; go_enter Tryz.func25, Tryz.ntmps25
 go_wp2_with (first | ((with_reducible refine qas (N := 2) rfl ?_); refine bx_ 2 (cs := #[.int .i64 qax, .int .i64 qaZ]) (t := 33) qa0 ?_; intro qaR hg w15 hbox hb; have qai := ak_ (hbox); have qcB := ak_ (HB.ge hg); have qcg := ak_ (HB.ge hg); replace HB := HB.mw hb; clear hb hbox hg) | ((with_reducible refine qas (N := 3) rfl ?_); refine bx_ 3 (cs := #[.int .i64 qc8, .int .i64 qdG]) (t := 33) qa0 ?_; intro qe1 hg w16 hbox hb; have qdr := ak_ (hbox); have qiD := ak_ ((by rw [hg]; exact (qal qaM) : w.heap.size ≤ qe1)); have qgT := ak_ ((by rw [hg]; exact (qal qaM) : w.heap.size ≤ qe1)); replace HB := ak_ (qac qaM hb); have qd1 := ak_ (qai.ne hg); have qdL := ak_ (qai.ne hg).symm; replace qai := qai.mw hb; clear hb hbox hg; have hnb17 := qd1.out; have hnc17 := qdL.out; obtain ⟨qtt, qtu, qtB, qtC⟩ := qa2 qai.out; obtain ⟨qnT, qnU, qob, qoc⟩ := qa2 qdr.out))
 go_ret
 exact ⟨qbx, k95_⟩
section
attribute [local go_sem] qfe qfg qf0 qf1 qeA qeB qff qfh
attribute [local go_sem high] qoQ
def qcS.l0 : Nat → List (qaj) → Int → Int → Int → Int → Option (Bool)
 | 0, _, _, _, _, _ => none
 | k + 1, x7, x8, x9, qeo, qeF => if x9 < x8 then (if 0 ≤ x9 then (if x9 < (x7.length : Int) then (if (((qab x7 x9).f0) == qeo && (((qab x7 x9).f1) == qeF)) = true then (some true) else (qcS.l0 k x7 x8 (wrap64 (x9 + 1)) qeo qeF)) else (none)) else (none)) else (some false)
def qcS.f (k : Nat) (l0 : List (qaj)) (qc8 : Int) (qdG : Int) : Option (Bool) := qcS.l0 k l0 (l0.length : Int) 0 qc8 qdG
theorem qcS.calls (k : Nat) (A0 : Option Addr) (c0 : Nat) (l0 : List (qaj)) (qc8 : Int) (qdG : Int) (r : Bool) (w : World) (hr0 : Kd.C qa1 w A0 l0.length l0) (hc0 : l0.length ≤ c0) (h : qcS.f k l0 qc8 qdG = some r) :
  Calls Tryz.prog 26 #[.slice A0 l0.length c0, .agg #[.int .i64 qc8, .int .i64 qdG]] w fun e w' => e = .returned (.bool r) ∧ Below w.heap.size w w' := by
 have qkE := Tryz.underlying33; have HR0 := ak_ hr0; have HC0 := ak_ hc0; clear hr0 hc0; have HB := ak_ (Below.refl w.heap.size w); have H : (qcS.l0 k l0 (l0.length : Int) 0 qc8 qdG) = some r := h; clear h; have H' := ak_ H; clear H; go_enter Tryz.func26, Tryz.ntmps26
 go_wp2_with (first | ((with_reducible refine qas (N := 3) rfl ?_); refine bx_ 3 (cs := #[.int .i64 qc8, .int .i64 qdG]) (t := 33) qa0 ?_; intro qaR hg w3 hbox hb; have qai := ak_ (hbox); have qcB := ak_ (HB.ge hg); have qcg := ak_ (HB.ge hg); replace HB := HB.mw hb; clear hb hbox hg))
 go_loopg [9] k (fun kq v9 w' => ∃ (qdj : Int), v9 = .int .i64 qdj ∧ qah (qcS.l0 kq l0 (l0.length : Int) qdj qc8 qdG = some r) ∧ qah (kq ≤ k) ∧ qah (w'.heap[qaR]? = some (.cells #[.int .i64 qc8, .int .i64 qdG] 33 (0, 0))) ∧ qah (Below w.heap.size w w'))
 case atStart => exact ⟨(0), qbg, H', ⟨Nat.le_refl _⟩, ⟨qch⟩, ⟨qaM⟩⟩
 case round =>
  clear H'; obtain ⟨qdj, rfl, HA, HK1, qai, HB⟩ := hrel
  cases gk with
  | zero => exact absurd HA.out (by simp [qcS.l0])
  | succ k1 =>
   have H := HA.out; clear HA; simp only [qcS.l0] at H; by_cases c4 : qdj < (l0.length : Int); rotate_left
   ·rw [if_neg c4] at H; have qhF : decide (qdj < (l0.length : Int)) = false := decide_eq_false c4; clear c4; obtain rfl := Option.some.inj H; go_wp2
    go_ret
    exact ⟨qbx, qaM⟩
   rw [if_pos c4] at H; have qhF : decide (qdj < (l0.length : Int)) = true := decide_eq_true c4; clear c4; by_cases c5 : 0 ≤ qdj; rotate_left
   ·rw [if_neg c5] at H; exact absurd H (by simp)
   rw [if_pos c5] at H; have qi9 : decide (0 ≤ qdj) = true := decide_eq_true c5; clear c5; by_cases c6 : qdj < (l0.length : Int); rotate_left
   ·rw [if_neg c6] at H; exact absurd H (by simp)
   rw [if_pos c6] at H; have qkn : decide (qdj < (l0.length : Int)) = true := decide_eq_true c6; clear c6; by_cases c7 : (((qab l0 qdj).f0) == qc8 && (((qab l0 qdj).f1) == qdG)) = true
   ·rw [if_pos c7] at H; have qiI : (((qab l0 qdj).f0) == qc8 && (((qab l0 qdj).f1) == qdG)) = true := c7; (try (have qmR : decide (((qab l0 qdj).f0) = qc8 && (((qab l0 qdj).f1) == qdG)) = true := by simpa using c7)); (try (have c7b2 : (((qab l0 qdj).f0) == qc8 && (((qab l0 qdj).f1) == qdG)) = true := by simpa using c7)); clear c7; obtain rfl := Option.some.inj H; have qhn : 0 ≤ (qdj : Int) := of_decide_eq_true qa8; have qho : qdj < (l0.length : Int) := of_decide_eq_true qa8; obtain ⟨qnw, qnL, qdw, qdI⟩ := qcq HR0.out qdj qhn qho
    cases qnL
    replace qdw := (HB.out.cell (World.block_lt_of_cell? w _ qdw)).trans qdw; replace qdI := (HB.out.cell (World.block_lt_of_cell? w _ qdI)).trans qdI; replace qhn := eq_true qhn; replace qho := eq_true qho
    go_wp2_with (first | ((with_reducible refine qas (N := 6) rfl ?_); refine bx_ 6 (cs := #[.int .i64 0, .int .i64 0]) (t := 33) qa0 ?_; intro qls hg w8 hbox hb; have qpL := ak_ (hbox); have GW103 := ak_ ((by rw [hg]; exact (qal qaM) : w.heap.size ≤ qls)); have qpM := ak_ ((by rw [hg]; exact (qal qaM) : w.heap.size ≤ qls)); replace HB := ak_ (qac qaM hb); have qfH := ak_ (qai.ne hg); have qgo := ak_ (qai.ne hg).symm; replace qai := qai.mw hb; clear hb hbox hg; have hnb9 := qgo.out; have hnc9 := qfH.out; obtain ⟨qiL, qiM, qiT, qiU⟩ := qa2 qpL.out; obtain ⟨qgv, qgw, qgx, qgy⟩ := qa2 qai.out))
    go_ret
    exact ⟨qbx, by apply_rules only [HB.out, qau, qao, qap, qaw, qcg.out, qpM.out]⟩
   rw [if_neg c7] at H
   have qiI : (((qab l0 qdj).f0) == qc8 && (((qab l0 qdj).f1) == qdG)) = false := by simpa using c7
   (try (have qmR : decide (((qab l0 qdj).f0) = qc8 && (((qab l0 qdj).f1) == qdG)) = false := by simpa using c7)); (try (have c7b2 : (((qab l0 qdj).f0) == qc8 && (((qab l0 qdj).f1) == qdG)) = false := by simpa using c7)); (try (have c7b3 : ¬ (((qab l0 qdj).f0) = qc8 && (((qab l0 qdj).f1) == qdG)) := by simpa using c7)); clear c7; have H' := ak_ H; clear H; have qhn : 0 ≤ (qdj : Int) := of_decide_eq_true qa8; have qho : qdj < (l0.length : Int) := of_decide_eq_true qa8; obtain ⟨qnw, qnL, qdw, qdI⟩ := qcq HR0.out qdj qhn qho
   cases qnL
   replace qdw := (HB.out.cell (World.block_lt_of_cell? w _ qdw)).trans qdw; replace qdI := (HB.out.cell (World.block_lt_of_cell? w _ qdI)).trans qdI; replace qhn := eq_true qhn; replace qho := eq_true qho
   go_wp2_with (first | ((with_reducible refine qas (N := 6) rfl ?_); refine bx_ 6 (cs := #[.int .i64 0, .int .i64 0]) (t := 33) qa0 ?_; intro qls hg w12 hbox hb; have qpL := ak_ (hbox); have GW103 := ak_ ((by rw [hg]; exact (qal qaM) : w.heap.size ≤ qls)); have qpM := ak_ ((by rw [hg]; exact (qal qaM) : w.heap.size ≤ qls)); replace HB := ak_ (qac qaM hb); have qfH := ak_ (qai.ne hg); have qgo := ak_ (qai.ne hg).symm; replace qai := qai.mw hb; clear hb hbox hg; have hnb13 := qgo.out; have hnc13 := qfH.out; obtain ⟨qjL, qjM, qjR, qjS⟩ := qa2 qpL.out; obtain ⟨qiN, qiO, qiV, qiW⟩ := qa2 qai.out))
   go_roundg k1
   case measure => have := HK1.out; omega
   case rel => exact ⟨(wrap64 (qdj + 1)), qbg, H', ⟨qgl⟩, ⟨k26_⟩, ⟨by apply_rules only [HB.out, qau, qao, qap, qaw, qcg.out, qpM.out]⟩⟩
end
def qbs.l0 : Nat → ByteArray → Int → Option (Int × Bool)
 | 0, _, _ => none
 | k + 1, x0, x6 => if x6 < 4 then ((qa7.f x0 x6).bind fun qaF => (if qaF = true then ((qbZ.f k x0 x6 1).bind fun qaX => (if (qaX.length : Int) > 0 then (some (x6, true)) else (qbs.l0 k x0 (wrap64 (x6 + 1))))) else (qbs.l0 k x0 (wrap64 (x6 + 1))))) else (some (0, false))
def qbs.f (k : Nat) (a0 : ByteArray) : Option (Int × Bool) := qbs.l0 k a0 0
theorem qbs.calls (k : Nat) (a0 : ByteArray) (r1 : Int) (r2 : Bool) (w : World) (h : qbs.f k a0 = some (r1, r2)) :
  Calls Tryz.prog 27 #[.string a0] w fun e w' => e = .returned (.tuple #[.int .i64 r1, .bool r2]) ∧ Below w.heap.size w w' := by
 have qiv := Tryz.underlying23; have HB := ak_ (Below.refl w.heap.size w); have H : (qbs.l0 k a0 0) = some (r1, r2) := h; clear h; have H' := ak_ H; clear H; go_enter Tryz.func27, Tryz.ntmps27; go_wp2
 go_loopg [6] k (fun kq v6 w' => ∃ (qgf : Int), v6 = .int .i64 qgf ∧ qah (qbs.l0 kq a0 qgf = some (r1, r2)) ∧ qah (kq ≤ k) ∧ qah (Below w.heap.size w w'))
 case atStart => exact ⟨(0), qbg, H', ⟨Nat.le_refl _⟩, ⟨qcw⟩⟩
 case round =>
  clear H'; obtain ⟨qgf, rfl, HA, HK1, HB⟩ := hrel
  cases gk with
  | zero => exact absurd HA.out (by simp [qbs.l0])
  | succ k1 =>
   have H := HA.out; clear HA; simp only [qbs.l0] at H; by_cases c2 : qgf < 4; rotate_left
   ·rw [if_neg c2] at H; have qkC : decide (qgf < 4) = false := decide_eq_false c2; clear c2; simp only [Option.some.injEq, Prod.mk.injEq] at H; obtain ⟨rfl, rfl⟩ := H; go_wp2
    go_ret2
    exact ⟨qbx, qcw⟩
   rw [if_pos c2] at H; have qkC : decide (qgf < 4) = true := decide_eq_true c2; clear c2; obtain ⟨qaF, A3, H⟩ := qbh H; (try dsimp only at H); by_cases c4 : qaF = true; rotate_left
   ·replace c4 := Bool.eq_false_iff.mpr c4; subst c4; rw [if_neg (show ¬ (false = true) by decide)] at H; have H' := ak_ H; clear H
    go_wp2_with (first | ((with_reducible refine qas (N := 5) rfl ?_); (try (refine qav (by rfl) ?_; dsimp only)); refine bx_ 5 (cs := #[.string (⟨#[]⟩ : ByteArray), .int .i64 0]) (t := 23) qa0 ?_; intro qaR hg w19 hbox hb; have qai := ak_ (hbox); have qcB := ak_ (HB.ge hg); have qcg := ak_ (HB.ge hg); replace HB := HB.mw hb; clear hb hbox hg; obtain ⟨qtv, qtw, qtD, qtE⟩ := qa2 qai.out) | ((with_reducible refine qad (f := 43) rfl ?_); refine gl_ 13 Tryz.func43 #[.agg #[.string a0, .int .i64 qgf]] rfl qbK ?_; (with_reducible refine (qa7.calls a0 qgf false _ A3.out).mono ?_); rintro e w21 ⟨rfl, hb⟩; refine ⟨_, rfl, ?_⟩; replace qai := ak_ (qam (g := qaR) (o := .cells #[.string a0, .int .i64 qgf] 23 (0, 0)) k21_ hb); replace HB := ak_ (qac qaM hb); (try clear hb)))
    go_roundg k1
    case measure => have := HK1.out; omega
    case rel => exact ⟨(wrap64 (qgf + 1)), qbg, H', ⟨qgl⟩, ⟨qaM⟩⟩
   subst c4; rw [if_pos rfl] at H; obtain ⟨qaX, A5, H⟩ := qbh H; (try dsimp only at H); by_cases c6 : (qaX.length : Int) > 0
   ·rw [if_pos c6] at H; have qkn : decide (0 < (qaX.length : Int)) = true := decide_eq_true c6; have qr4 : decide (0 < qaX.length) = true := decide_eq_true (by omega); clear c6; simp only [Option.some.injEq, Prod.mk.injEq] at H; obtain ⟨rfl, rfl⟩ := H
    go_wp2_with (first | ((with_reducible refine qas (N := 5) rfl ?_); (try (refine qav (by rfl) ?_; dsimp only)); refine bx_ 5 (cs := #[.string (⟨#[]⟩ : ByteArray), .int .i64 0]) (t := 23) qa0 ?_; intro qaR hg w7 hbox hb; have qai := ak_ (hbox); have qcB := ak_ (HB.ge hg); have qcg := ak_ (HB.ge hg); replace HB := HB.mw hb; clear hb hbox hg; obtain ⟨qgg, qgh, qgz, qgi⟩ := qa2 qai.out) | ((with_reducible refine qad (f := 43) rfl ?_); refine gl_ 13 Tryz.func43 #[.agg #[.string a0, .int .i64 qgf]] rfl qbK ?_; (with_reducible refine (qa7.calls a0 qgf true _ A3.out).mono ?_); rintro e w9 ⟨rfl, hb⟩; refine ⟨_, rfl, ?_⟩; replace qai := ak_ (qam (g := qaR) (o := .cells #[.string a0, .int .i64 qgf] 23 (0, 0)) k21_ hb); replace HB := ak_ (qac qaM hb); (try clear hb); obtain ⟨qiL, qiM, qiT, qiU⟩ := qa2 qai.out) | (go_at_call 55; (with_reducible refine (qbZ.calls k1 a0 qgf 1 qaX _ A5.out).mono ?_); rintro e w11 ⟨v104, rfl, ho0, hb⟩; have qfF := ak_ (Kd.qeV ho0 (qal qaM)); replace qai := qai.mw hb; replace HB := ak_ (qac qaM hb); (try clear hb ho0); obtain ⟨Ao12, co12, eo12⟩ := Kd.qcU qfF.out; subst eo12))
    go_ret2
    exact ⟨qbx, qaM⟩
   rw [if_neg c6] at H; have qkn : decide (0 < (qaX.length : Int)) = false := decide_eq_false c6; have qr4 : decide (0 < qaX.length) = false := decide_eq_false (by omega); clear c6; have H' := ak_ H; clear H
   go_wp2_with (first | ((with_reducible refine qas (N := 5) rfl ?_); (try (refine qav (by rfl) ?_; dsimp only)); refine bx_ 5 (cs := #[.string (⟨#[]⟩ : ByteArray), .int .i64 0]) (t := 23) qa0 ?_; intro qaR hg w13 hbox hb; have qai := ak_ (hbox); have qcB := ak_ (HB.ge hg); have qcg := ak_ (HB.ge hg); replace HB := HB.mw hb; clear hb hbox hg; obtain ⟨qjL, qjM, qjR, qjS⟩ := qa2 qai.out) | ((with_reducible refine qad (f := 43) rfl ?_); refine gl_ 13 Tryz.func43 #[.agg #[.string a0, .int .i64 qgf]] rfl qbK ?_; (with_reducible refine (qa7.calls a0 qgf true _ A3.out).mono ?_); rintro e w15 ⟨rfl, hb⟩; refine ⟨_, rfl, ?_⟩; replace qai := ak_ (qam (g := qaR) (o := .cells #[.string a0, .int .i64 qgf] 23 (0, 0)) k21_ hb); replace HB := ak_ (qac qaM hb); (try clear hb); obtain ⟨qqf, qqg, qqj, qqk⟩ := qa2 qai.out) | (go_at_call 55; (with_reducible refine (qbZ.calls k1 a0 qgf 1 qaX _ A5.out).mono ?_); rintro e w17 ⟨v104, rfl, ho0, hb⟩; have qfF := ak_ (Kd.qeV ho0 (qal qaM)); replace qai := qai.mw hb; replace HB := ak_ (qac qaM hb); (try clear hb ho0); obtain ⟨Ao18, co18, eo18⟩ := Kd.qcU qfF.out; subst eo18))
   go_roundg k1
   case measure => have := HK1.out; omega
   case rel => exact ⟨(wrap64 (qgf + 1)), qbg, H', ⟨qgl⟩, ⟨qaM⟩⟩
def qbY.f (a0 : ByteArray) : Option (ByteArray × Int × Bool) := (qdh.f a0).bind fun qa5 => (some (qa5.1, qa5.2.1, qa5.2.2))
theorem qbY.calls (a0 : ByteArray) (r1 : ByteArray) (r2 : Int) (r3 : Bool) (w : World) (h : qbY.f a0 = some (r1, r2, r3)) (hG : qeY w) :
  Calls Tryz.prog 28 #[.string a0] w fun e w' => e = .returned (.tuple #[.agg #[.string r1, .int .i64 r2], .bool r3]) ∧ Below w.heap.size w w' := by
 have qiv := Tryz.underlying23; have HB := ak_ (Below.refl w.heap.size w); have HG := ak_ hG; clear hG; have H : ((qdh.f a0).bind fun qa5 => (some (qa5.1, qa5.2.1, qa5.2.2))) = some (r1, r2, r3) := h; clear h; obtain ⟨⟨qaF, qaX, qcC⟩, A2, H⟩ := qbh H; (try dsimp only at H); simp only [Option.some.injEq, Prod.mk.injEq] at H; obtain ⟨rfl, rfl, rfl⟩ := H; go_enter Tryz.func28, Tryz.ntmps28
 go_wp2_with (first | ((with_reducible refine qas (N := 2) rfl ?_); refine bx_ 2 (cs := #[.string (⟨#[]⟩ : ByteArray), .int .i64 0]) (t := 23) qa0 ?_; intro qaR hg w3 hbox hb; have qai := ak_ (hbox); have qcB := ak_ (HB.ge hg); have qcg := ak_ (HB.ge hg); replace HB := HB.mw hb; clear hb hbox hg) | ((with_reducible refine qad (f := 56) rfl ?_); refine gl_ 5 Tryz.func56 #[.string a0] rfl qbK ?_; (refine (qdh.calls a0 qaF qaX qcC _ A2.out (qeY.below HG.out qaM)).mono ?_); rintro e w4 ⟨rfl, hb⟩; refine ⟨_, rfl, ?_⟩; replace qai := ak_ (qam qch hb); replace HB := ak_ (qac qaM hb); (try clear hb); obtain ⟨qtz, qtA, hfz5_0, qtH⟩ := qa2 qai.out))
 refine bodyPost_ret (qeT rfl _ _ qaR 23 #[.string qaF, .int .i64 qaX] (0, 0) _ rfl k17_ Tryz.underlying23 rfl (by kernel_rfl)) rfl ?_; exact ⟨qbx, qaM⟩
def qfb.f (qax : Int) (qaZ : Int) (qc8 : Int) (qdG : Int) : Option (Bool) := if qax < qc8 then (some true) else (if qax = qc8 then (some (decide (qaZ < qdG))) else (some false))
theorem qfb.calls (qax : Int) (qaZ : Int) (qc8 : Int) (qdG : Int) (r : Bool) (w : World) (h : qfb.f qax qaZ qc8 qdG = some r) :
  Calls Tryz.prog 59 #[.agg #[.int .i64 qax, .int .i64 qaZ], .agg #[.int .i64 qc8, .int .i64 qdG]] w fun e w' => e = .returned (.bool r) ∧ Below w.heap.size w w' := by
 have qkE := Tryz.underlying33; have HB := ak_ (Below.refl w.heap.size w); have H : (if qax < qc8 then (some true) else (if qax = qc8 then (some (decide (qaZ < qdG))) else (some false))) = some r := h; clear h; by_cases c3 : qax < qc8
 ·rw [if_pos c3] at H; have qil : decide (qax < qc8) = true := decide_eq_true c3; clear c3; obtain rfl := Option.some.inj H; go_enter Tryz.func59, Tryz.ntmps59
  go_wp2_with (first | ((with_reducible refine qas (N := 2) rfl ?_); refine bx_ 2 (cs := #[.int .i64 qax, .int .i64 qaZ]) (t := 33) qa0 ?_; intro qaR hg w4 hbox hb; have qai := ak_ (hbox); have qcB := ak_ (HB.ge hg); have qcg := ak_ (HB.ge hg); replace HB := HB.mw hb; clear hb hbox hg) | ((with_reducible refine qas (N := 3) rfl ?_); refine bx_ 3 (cs := #[.int .i64 qc8, .int .i64 qdG]) (t := 33) qa0 ?_; intro qe1 hg w5 hbox hb; have qdr := ak_ (hbox); have qiD := ak_ ((by rw [hg]; exact (qal qaM) : w.heap.size ≤ qe1)); have qgT := ak_ ((by rw [hg]; exact (qal qaM) : w.heap.size ≤ qe1)); replace HB := ak_ (qac qaM hb); have qd1 := ak_ (qai.ne hg); have qdL := ak_ (qai.ne hg).symm; replace qai := qai.mw hb; clear hb hbox hg; have hnb6 := qd1.out; have hnc6 := qdL.out; obtain ⟨hcz7_0, hcz7_1, hfz7_0, hfz7_1⟩ := qa2 qai.out; obtain ⟨qgg, qgh, qgz, qgi⟩ := qa2 qdr.out))
  go_ret
  exact ⟨qbx, k95_⟩
 rw [if_neg c3] at H; have qil : decide (qax < qc8) = false := decide_eq_false c3; clear c3; by_cases c9 : qax = qc8
 ·rw [if_pos c9] at H; have qqJ : (qax == qc8) = true := beq_iff_eq.mpr c9; have c9b1 : (qax != qc8) = false := bne_eq_false_iff_eq.mpr c9; clear c9; obtain rfl := Option.some.inj H; go_enter Tryz.func59, Tryz.ntmps59
  go_wp2_with (first | ((with_reducible refine qas (N := 2) rfl ?_); refine bx_ 2 (cs := #[.int .i64 qax, .int .i64 qaZ]) (t := 33) qa0 ?_; intro qaR hg w10 hbox hb; have qai := ak_ (hbox); have qcB := ak_ (HB.ge hg); have qcg := ak_ (HB.ge hg); replace HB := HB.mw hb; clear hb hbox hg) | ((with_reducible refine qas (N := 3) rfl ?_); refine bx_ 3 (cs := #[.int .i64 qc8, .int .i64 qdG]) (t := 33) qa0 ?_; intro qe1 hg w11 hbox hb; have qdr := ak_ (hbox); have qiD := ak_ ((by rw [hg]; exact (qal qaM) : w.heap.size ≤ qe1)); have qgT := ak_ ((by rw [hg]; exact (qal qaM) : w.heap.size ≤ qe1)); replace HB := ak_ (qac qaM hb); have qd1 := ak_ (qai.ne hg); have qdL := ak_ (qai.ne hg).symm; replace qai := qai.mw hb; clear hb hbox hg; have hnb12 := qd1.out; have hnc12 := qdL.out; obtain ⟨qnR, qnS, qn9, qoa⟩ := qa2 qai.out; obtain ⟨qjL, qjM, qjR, qjS⟩ := qa2 qdr.out))
  go_ret
  exact ⟨qbx, k95_⟩
 rw [if_neg c9] at H; have qqJ : (qax == qc8) = false := beq_eq_false_iff_ne.mpr c9; have c9b1 : (qax != qc8) = true := bne_iff_ne.mpr c9; obtain rfl := Option.some.inj H; go_enter Tryz.func59, Tryz.ntmps59
 go_wp2_with (first | ((with_reducible refine qas (N := 2) rfl ?_); refine bx_ 2 (cs := #[.int .i64 qax, .int .i64 qaZ]) (t := 33) qa0 ?_; intro qaR hg w15 hbox hb; have qai := ak_ (hbox); have qcB := ak_ (HB.ge hg); have qcg := ak_ (HB.ge hg); replace HB := HB.mw hb; clear hb hbox hg) | ((with_reducible refine qas (N := 3) rfl ?_); refine bx_ 3 (cs := #[.int .i64 qc8, .int .i64 qdG]) (t := 33) qa0 ?_; intro qe1 hg w16 hbox hb; have qdr := ak_ (hbox); have qiD := ak_ ((by rw [hg]; exact (qal qaM) : w.heap.size ≤ qe1)); have qgT := ak_ ((by rw [hg]; exact (qal qaM) : w.heap.size ≤ qe1)); replace HB := ak_ (qac qaM hb); have qd1 := ak_ (qai.ne hg); have qdL := ak_ (qai.ne hg).symm; replace qai := qai.mw hb; clear hb hbox hg; have hnb17 := qd1.out; have hnc17 := qdL.out; obtain ⟨qtt, qtu, qtB, qtC⟩ := qa2 qai.out; obtain ⟨qnT, qnU, qob, qoc⟩ := qa2 qdr.out))
 go_ret
 exact ⟨qbx, k95_⟩
end
end Go.Proofs.YtbnmajedmajfoaaGreatDoor.P
