/- What functions of the program answer. Proved in this text: its theorems. Conditions: as each theorem states them. -/
import Derived.Test.YtjeoabbnalamcaaGreatDoorCFnExactRunScriptP
import Derived.Test.YtjeoabbnalamcaaGreatDoorCFnExactRunScriptF0
import Derived.Test.YtjeoabbnalamcaaGreatDoorCFnExactRunScriptF1
namespace Go.Proofs.YtjeoabbnalamcaaGreatDoor.P
open Go.RowKit Go.Proofs.YtjeoabbnalamcaaGreatDoorW.qaY Go.Proofs.YtjeoabbnalamcaaGreatDoorW.PrintLast Go.Proofs.YtjeoabbnalamcaaGreatDoorW.PrintMore
set_option linter.unusedVariables false
set_option linter.unusedSimpArgs false
set_option maxHeartbeats 8000000
set_option maxRecDepth 100000
section
attribute [local go_sem] qgV qgX qif qig qge qgf qgW qgY
def qdM.f (k : Nat) (l0 : List (qac)) : Option (List Int × Bool) := (qbS.f k l0).bind fun qc6 => (if qc6.2.2 = true then (some (qc6.2.1, true)) else (some (([] : List Int), false)))
theorem qdM.calls (k : Nat) (A0 : Option Addr) (c0 : Nat) (l0 : List (qac)) (r1 : List Int) (r2 : Bool) (w : World) (hr0 : Kd.C qaN w A0 l0.length l0) (hc0 : l0.length ≤ c0) (h : qdM.f k l0 = some (r1, r2)) :
  Calls Tryz.prog 141 #[.slice A0 l0.length c0] w fun e w' => ∃ v0_ : Value, e = .returned (.tuple #[v0_, .bool r2]) ∧ Kd.R (Kd.int .i64) 3 w' w.heap.size (fun _ => True) v0_ r1 ∧ Below w.heap.size w w' := by
 have hu169 := Tryz.underlying169; have HR0 := ak_ hr0; have HC0 := ak_ hc0; clear hr0 hc0; have HB := ak_ (Below.refl w.heap.size w); have H : ((qbS.f k l0).bind fun qc6 => (if qc6.2.2 = true then (some (qc6.2.1, true)) else (some (([] : List Int), false)))) = some (r1, r2) := h; clear h; obtain ⟨⟨qas, qaI, t105⟩, A2, H⟩ := qaw H; (try dsimp only at H); by_cases c3 : t105 = true
 ·subst c3; rw [if_pos rfl] at H; obtain ⟨rfl, rfl⟩ := qdI H; go_enter Tryz.func141, Tryz.ntmps141
  go_wp2_with (first | (refine gl_ 8 Tryz.func187 #[.slice A0 l0.length c0] rfl qbK ?_; (with_reducible refine (qbS.calls k _ _ l0 qas qaI true _ ?qay ?qaz A2.out).mono ?_); (case qay => exact qfM); (case qaz => exact qb6); rintro e w4 ⟨qhg, rfl, ho0, hb⟩; refine ⟨_, rfl, ?_⟩; have qbW := ak_ (Kd.qau ho0 (qab qam)); replace HB := HB.mw hb; (try clear hb ho0)) | ((with_reducible refine qak (N := 4) rfl ?_); refine bx_ 4 rfl (cs := #[.int .i64 0, .slice none 0 0]) (t := 169) qbb ?_; intro qeU hg w5 hbox hb; replace qbW := qbW.mw hb; have qek := ak_ (hbox); have qnO := ak_ (HB.ge hg); have qmz := ak_ (HB.ge hg); replace HB := HB.mw hb; clear hb hbox hg; obtain ⟨qj6, qj7, qj9, qka⟩ := qbG qek.out; obtain ⟨Ao7, co7, eo7⟩ := Kd.qaJ qbW.out; subst eo7))
  go_ret2
  exact ⟨_, qce, by (with_reducible repeat (first | apply Kd.qaq | apply Kd.qar | apply Kd.qaC)); exact Kd.qa8 (Kd.qc7 (p := ⟨qeU, 1, none⟩) (Kd.qc7 (p := ⟨qeU, 0, none⟩) (Kd.qcH qbW.out qek.out (by decide)) (fun _ hk => hk.2) (.int .i64 qas)) (fun _ hk => hk.2) (.slice Ao7 qaI.length co7)) (fun _ hk => trivial), qoJ⟩
 replace c3 := Bool.eq_false_iff.mpr c3; subst c3; rw [if_neg (show ¬ (false = true) by decide)] at H; obtain ⟨rfl, rfl⟩ := qdI H; go_enter Tryz.func141, Tryz.ntmps141
 go_wp2_with (first | (refine gl_ 8 Tryz.func187 #[.slice A0 l0.length c0] rfl qbK ?_; (with_reducible refine (qbS.calls k _ _ l0 qas qaI false _ ?qay ?qaz A2.out).mono ?_); (case qay => exact qfM); (case qaz => exact qb6); rintro e w8 ⟨qhg, rfl, ho0, hb⟩; refine ⟨_, rfl, ?_⟩; have qbW := ak_ (Kd.qau ho0 (qab qam)); replace HB := HB.mw hb; (try clear hb ho0)) | ((with_reducible refine qak (N := 4) rfl ?_); refine bx_ 4 rfl (cs := #[.int .i64 0, .slice none 0 0]) (t := 169) qbb ?_; intro qeU hg w9 hbox hb; replace qbW := qbW.mw hb; have qek := ak_ (hbox); have qnO := ak_ (HB.ge hg); have qmz := ak_ (HB.ge hg); replace HB := HB.mw hb; clear hb hbox hg; obtain ⟨qom, qon, qos, qot⟩ := qbG qek.out; obtain ⟨Ao11, co11, qrs⟩ := Kd.qaJ qbW.out; subst qrs))
 go_ret2
 exact ⟨_, qce, qg4, qoJ⟩
def qaL.l0 : Nat → List Int → List Int → Int → Int → Int → List Int → Option (List Int)
 | 0, _, _, _, _, _, _ => none
 | k + 1, x3, x8, x9, x10, qpf, qjb => if x10 < x9 then (if 0 ≤ x10 then (if x10 < (x8.length : Int) then (if (wrap64 (x10 + 1)) < (qjb.length : Int) then (if 0 ≤ (wrap64 (x10 + 1)) then (if x3.length < 17592186044416 then (qaL.l0 k (x3 ++ [wrap64 ((rd qjb (wrap64 (x10 + 1))) - (rd x8 x10))]) x8 x9 (wrap64 (x10 + 1)) qpf qjb) else (none)) else (none)) else (if 0 < (qjb.length : Int) then (if x3.length < 17592186044416 then (qaL.l0 k (x3 ++ [wrap64 ((wrap64 ((rd qjb 0) + qpf)) - (rd x8 x10))]) x8 x9 (wrap64 (x10 + 1)) qpf qjb) else (none)) else (none))) else (none)) else (none)) else (some x3)
def qaL.f (k : Nat) (qbL : Int) (qe7 : List Int) : Option (List Int) := qaL.l0 k (([] : List Int)) qe7 (qe7.length : Int) 0 qbL qe7
def qaL.T7 : Bool × List (List Nat × List Nat) := (true, [([], []), ([], []), ([1], [1]), ([2], [2]), ([3], [3]), ([], []), ([5], [5]), ([4, 6], [4, 6]), ([], []), ([7, 8], [7, 8]), ([9], [9]), ([0, 10], [0, 10]), ([11, 11, 0, 1, 2, 3, 4, 5, 6, 7, 8, 9, 10, 11], [0, 11])])
def qaL.B7 : List Nat := [0, 0, 2, 6, 14, 0, 32, 126, 0, 510, 1022, 2047, 4095]
theorem qaL.tab7 : qhK .any (opsOf Tryz.f201 7) = qaL.T7 := by kernel_rfl
theorem qaL.qlR : qeR qaL.T7.2 qaL.B7 = true := by kernel_rfl
theorem qaL.calls (k : Nat) (qbL : Int) (A0_1 : Option Addr) (c0_1 : Nat) (qe7 : List Int) (r : List Int) (w : World) (hr0_1 : Kd.C (Kd.int .i64) w A0_1 qe7.length qe7) (hc0_1 : qe7.length ≤ c0_1) (h : qaL.f k qbL qe7 = some r) :
  Calls Tryz.prog 201 #[.agg #[.int .i64 qbL, .slice A0_1 qe7.length c0_1]] w fun e w' => ∃ v0_ : Value, e = .returned (v0_) ∧ Kd.R (Kd.int .i64) 3 w' w.heap.size (fun _ => True) v0_ r ∧ Below w.heap.size w w' := by
 have hu169 := Tryz.underlying169; have HR0_1 := ak_ hr0_1; have HC0_1 := ak_ hc0_1; clear hr0_1 hc0_1; have HB := ak_ (Below.refl w.heap.size w); have H : (qaL.l0 k (([] : List Int)) qe7 (qe7.length : Int) 0 qbL qe7) = some r := h; clear h
 obtain ⟨qh1, hy_⟩ : ∃ y_ : List Int, y_ = (([] : List Int)) := ⟨_, rfl⟩
 replace H : (qaL.l0 k qh1 qe7 (qe7.length : Int) 0 qbL qe7) = some r := qe6; have qgq := ak_ hy_; clear hy_; have H' := ak_ H; clear H; go_enter Tryz.func201, Tryz.ntmps201
 go_wp2_with (first | ((with_reducible refine qak (N := 1) rfl ?_); refine bx_ 1 rfl (cs := #[.int .i64 qbL, .slice A0_1 qe7.length c0_1]) (t := 169) qbb ?_; intro qb8 hg w2 hbox hb; have qaF := ak_ (hbox); have qeJ := ak_ (HB.ge hg); have qen := ak_ (HB.ge hg); replace HB := HB.mw hb; clear hb hbox hg) | ((with_reducible refine qak (N := 6) rfl ?_); refine li_ (Kd.int .i64) 3 6 rfl (xs := ([] : List Int)) qbb ?_; intro qhg w3 ho4 hb; (first | rw [← qgq.out] at ho4 | (simp only [Int.reduceToNat] at ho4; rw [← qgq.out] at ho4)); have qbW := ak_ (Kd.qau ho4 (qab qdt)); replace qaF := qaF.mw hb; replace HB := ak_ (qaa qdt hb); clear hb ho4; obtain ⟨qrK, qrL, qrS, qrT⟩ := qbG qaF.out))
 go_loopg [3, 10] k (fun kq v3 v10 w' => ∃ (qbg : List Int) (qca : Int), v10 = .int .i64 qca ∧ qag (qaL.l0 kq qbg qe7 (qe7.length : Int) qca qbL qe7 = some r) ∧ qag (kq ≤ k) ∧ qag (Kd.R (Kd.int .i64) 3 w' w.heap.size (fun _ => True) v3 qbg) ∧ qag (w'.heap[qb8]? = some (.cells #[.int .i64 qbL, (.slice A0_1 qe7.length c0_1)] 169 (0, 0))) ∧ qag (Below w.heap.size w w'))
 case atStart => exact ⟨(qh1), (0), qav, H', ⟨Nat.le_refl _⟩, ⟨qqL⟩, ⟨qmu⟩, ⟨qdt⟩⟩
 case round =>
  clear H'; (try clear qrK); (try clear qrL); (try clear qrS); (try clear qrT); obtain ⟨qbg, qca, rfl, HA, HK1, qdr, qaF, HB⟩ := hrel
  cases gk with
  | zero => exact absurd HA.out (by simp [qaL.l0])
  | succ k1 =>
   have H := HA.out; clear HA; simp only [qaL.l0] at H; by_cases c6 : qca < (qe7.length : Int); rotate_left
   ·rw [if_neg c6] at H; have qfY : decide (qca < (qe7.length : Int)) = false := decide_eq_false c6; clear c6; obtain rfl := Option.some.inj H; go_wp2
    go_ret
    exact ⟨_, qce, k64_, qdt⟩
   rw [if_pos c6] at H; have qfY : decide (qca < (qe7.length : Int)) = true := decide_eq_true c6; clear c6; by_cases c7 : 0 ≤ qca; rotate_left
   ·rw [if_neg c7] at H; exact absurd H (by simp)
   rw [if_pos c7] at H; have qgM : decide (0 ≤ qca) = true := decide_eq_true c7; clear c7; by_cases c8 : qca < (qe7.length : Int); rotate_left
   ·rw [if_neg c8] at H; exact absurd H (by simp)
   rw [if_pos c8] at H; have qnK : decide (qca < (qe7.length : Int)) = true := decide_eq_true c8; clear c8; by_cases c9 : (wrap64 (qca + 1)) < (qe7.length : Int)
   ·rw [if_pos c9] at H; have qlX : decide ((wrap64 (qca + 1)) < (qe7.length : Int)) = true := decide_eq_true c9; clear c9
    obtain ⟨qic, qjy⟩ : ∃ j_ : Int, (wrap64 (qca + 1)) = j_ := ⟨_, rfl⟩
    replace H : (if 0 ≤ (qic) then (if qbg.length < 17592186044416 then (qaL.l0 k1 (qbg ++ [wrap64 ((rd qe7 (qic)) - (rd qe7 qca))]) qe7 (qe7.length : Int) qic qbL qe7) else (none)) else (none)) = some r := by first | (rw [qjy] at H; exact H) | (simp only [qjy] at H ⊢; exact H)
    (try rw [qjy] at qlX); have hji10w : (IntKind.i64.wrap (qca + 1)) = qic := (qcF _).trans qjy; by_cases c11 : 0 ≤ (qic); rotate_left
    ·rw [if_neg c11] at H; exact absurd H (by simp)
    rw [if_pos c11] at H; have qgs : decide (0 ≤ (qic)) = true := decide_eq_true c11; clear c11; by_cases c12 : qbg.length < 17592186044416; rotate_left
    ·rw [if_neg c12] at H; exact absurd H (by simp)
    rw [if_pos c12] at H; have LMc12 := ak_ c12; clear c12
    obtain ⟨qfr, hy_⟩ : ∃ y_ : List Int, y_ = (qbg ++ [wrap64 ((rd qe7 (qic)) - (rd qe7 qca))]) := ⟨_, rfl⟩
    replace H : (qaL.l0 k1 qfr qe7 (qe7.length : Int) qic qbL qe7) = some r := qe6; have qjv := ak_ hy_; clear hy_; have H' := ak_ H; clear H; have qhw : 0 ≤ (qca : Int) := of_decide_eq_true qaU; have qhx : qca < (qe7.length : Int) := of_decide_eq_true qaU; obtain ⟨qec, qmV, qcR⟩ := Kd.qem HR0_1.out qca qhw qhx
    cases qmV
    replace qcR := (HB.out.cell (World.block_lt_of_cell? w _ qcR)).trans qcR; replace qhw := eq_true qhw; replace qhx := eq_true qhx; obtain ⟨ql3, ql4, ql5, ql6⟩ := qbG qaF.out; have qfH : 0 ≤ ((qic) : Int) := of_decide_eq_true qaU; have qfJ : (qic) < (qe7.length : Int) := of_decide_eq_true qaU; obtain ⟨qgL, qjx, qcq⟩ := Kd.qem HR0_1.out (qic) qfH qfJ
    obtain rfl : qec = qgL := (by injection qjx)
    replace qcq := (HB.out.cell (World.block_lt_of_cell? w _ qcq)).trans qcq; replace qfH := eq_true qfH; replace qfJ := eq_true qfJ
    go_wp2_with (first | ((with_reducible refine qa3 (b := .append) (xs := #[.tmp 21, .tmp 30]) rfl ?_); at_builtin; refine Kd.qc8 (Kd.int .i64) (w0 := w) w.heap.size rfl (.tmp 21) (.tmp 30) 48 3 (.int .i64 0) 8 rfl Tryz.underlying48 info3 rfl (by decide) (by omega) u3 qbg (wrap64 ((rd qe7 (qic)) - (rd qe7 qca))) [.int .i64 (wrap64 ((rd qe7 (qic)) - (rd qe7 qca)))] (fun _ => True) (fun _ => False) rfl rfl ?aP (fun _ hk => hk.elim) ?aF ?aO ?aB ?aS ?aL ?_; (case aP => exact rfl); (case aB => exact qdt); (case aF => exact (fun _ _ => trivial)); (case aO => exact qhQ); (case aS => exact (qab qdt)); (case aL => have := LMc12.out; omega); intro v108 w14 ho hb hg hat; rw [← qjv.out] at ho; replace qaF := ak_ (qev (g := qb8) (o := .cells #[.int .i64 qbL, .slice (some qec) qe7.length c0_1] 169 (0, 0)) qmu hg (Kd.R_ne qdr.out qaF.out (by decide))); replace HB := ak_ (hb); have qiN := ak_ (ho); clear qdr; clear ho hb hg hat))
    go_roundg k1
    case measure => have := HK1.out; omega
    case rel => exact ⟨(qfr), (qic), (by first | rfl | (simp; done) | (simp only [← qjy] <;> (first | rfl | simp)) | (simp [*]; done)), H', ⟨qc9⟩, ⟨by apply_rules only [qiN.out, Kd.qaq, Kd.qar, Kd.qaC]⟩, ⟨qmu⟩, ⟨qdt⟩⟩
   rw [if_neg c9] at H; have qlX : decide ((wrap64 (qca + 1)) < (qe7.length : Int)) = false := decide_eq_false c9; clear c9; by_cases c15 : 0 < (qe7.length : Int); rotate_left
   ·rw [if_neg c15] at H; exact absurd H (by simp)
   rw [if_pos c15] at H; have qmI : decide (0 < (qe7.length : Int)) = true := decide_eq_true c15; have qoa : decide (0 < qe7.length) = true := decide_eq_true (by omega); clear c15; by_cases c16 : qbg.length < 17592186044416; rotate_left
   ·rw [if_neg c16] at H; exact absurd H (by simp)
   rw [if_pos c16] at H; have LMc16 := ak_ c16; clear c16
   obtain ⟨qio, hy_⟩ : ∃ y_ : List Int, y_ = (qbg ++ [wrap64 ((wrap64 ((rd qe7 0) + qbL)) - (rd qe7 qca))]) := ⟨_, rfl⟩
   replace H : (qaL.l0 k1 qio qe7 (qe7.length : Int) (wrap64 (qca + 1)) qbL qe7) = some r := qe6; have Ny111 := ak_ hy_; clear hy_; have H' := ak_ H; clear H; have qhw : 0 ≤ (qca : Int) := of_decide_eq_true qaU; have qhx : qca < (qe7.length : Int) := of_decide_eq_true qaU; obtain ⟨qec, qmV, qcR⟩ := Kd.qem HR0_1.out qca qhw qhx
   cases qmV
   replace qcR := (HB.out.cell (World.block_lt_of_cell? w _ qcR)).trans qcR; replace qhw := eq_true qhw; replace qhx := eq_true qhx; obtain ⟨hcz17_0, hcz17_1, hfz17_0, hfz17_1⟩ := qbG qaF.out
   try go_wp2
   replace qdr := ak_ (Kd.qaC qdr.out); replace qaF := ak_ (qan qaF.out); replace HB := ak_ (qah HB.out)
   have p110 : 0 ≤ (0 : Int) := (by omega)
   have q110 : 0 < (qe7.length : Int) := of_decide_eq_true qaU; obtain ⟨ad110, e110, qgc⟩ := Kd.qem HR0_1.out 0 p110 q110; have qgb := qgc; (try rw [show ((0 : Int)).toNat = 0 from rfl] at qgb); (try rw [show 0 * 1 = 0 from rfl] at qgb); (try rw [Addr.add_zero'] at qgb)
   obtain rfl : qec = ad110 := (by injection e110)
   have qi110 : (0 < qe7.length) = True := eq_true (by omega); (try rw [show ((0 : Int)).toNat = 0 from rfl] at qgc); (try rw [Addr.add_zero'] at qgc); replace qgc := (HB.out.cell (World.block_lt_of_cell? w _ qgc)).trans qgc; replace p110 := eq_true p110; replace q110 := eq_true q110; refine qeQ (n := 13) (S := fun w' => w'.cell? ⟨qb8, 0, none⟩ = some (.int .i64 qbL) ∧ w'.cell? ⟨qb8, 1, none⟩ = some (.slice (some qec) qe7.length c0_1) ∧ w'.cell? qec = some (.int .i64 (rd qe7 0))) (ds := []) (rA_ [0, 13]) (by kernel_rfl) rfl rfl ⟨qed qaF.out, qbB qaF.out, ((HB.out.cell (World.block_lt_of_cell? w _ qgb)).trans qgb)⟩ (fun hHeld => ?_); refine qdp qaL.tab7 qaL.qlR (fun HT_ HW_ => ?_)
   generalize wr.drew = w18 at qdr qaF HB qgc hHeld ⊢
   refine pu_ 0 32 [1, 12] ?_; refine pu_ 1 33 [2, 11] ?_; refine pu_ 5 37 [2, 3, 1, 7] ?_; refine pu_ 8 40 [2, 3, 1, 2, 1, 4] ?_; refine ta3_ 2 34 [3, 2, 1, 2, 1, 4] ?_; refine pu_ 3 35 [4, 1, 1, 2, 1, 4] ?_; refine ta3_ 4 36 [6, 2, 1, 4] ?_; refine ta3_ 6 38 [7, 1, 1, 4] ?_; refine pu_ 7 39 [9, 4] ?_; refine pu_ 9 41 [10, 3] ?_; refine qfA (i := 10) (N := some 42) (rA_ [11, 2]) rfl rfl (qc5 HT_.out (by kernel_rfl)) (by decide) (fun K hK => ?_); refine qiK (w1 := ?_) (v := ?_) (by rfl) rfl ?_ ?_; rotate_left 2
   ·go_simp; constructor
    ·rfl
    rfl
   refine hK.out _ _ ⟨(qa7 (qaj qaF.out _) 0).trans rfl, (qa7 (qaj qaF.out _) 1).trans rfl, (World.cell?_alloc_lt _ _ _ (World.block_lt_of_cell? _ _ (((HB.out.cell (World.block_lt_of_cell? w _ qgb)).trans qgb)))).trans (((HB.out.cell (World.block_lt_of_cell? w _ qgb)).trans qgb))⟩ (fun hHeld => ?_); clear hK K; refine nm_ 42 ?_; refine qfA (i := 11) (N := some 43) (rA_ [12, 1]) rfl rfl (qc5 HT_.out (by kernel_rfl)) (by decide) (fun K hK => ?_); refine Kd.qeT (Kd.int .i64) (w0 := w) w.heap.size (by rfl) (.tmp 32) (.tmp 42) 48 3 (.int .i64 0) 8 rfl Tryz.underlying48 info3 rfl (by decide) (by omega) u3 qbg (wrap64 ((wrap64 ((rd qe7 0) + qbL)) - (rd qe7 qca))) [.int .i64 (wrap64 ((wrap64 ((rd qe7 0) + qbL)) - (rd qe7 qca)))] (fun _ => True) (fun _ => False) rfl rfl ?aP (fun _ hk => hk.elim) ?aF ?aO ?aB ?aS ?aL ?_
   (case aP => exact rfl)
   (case aB => exact qdt)
   (case aF => exact (fun _ _ => trivial))
   (case aO => exact qhQ)
   (case aS => exact (qab qdt))
   (case aL => have := LMc16.out; omega)
   intro v112 w19 ho hb hg hat; rw [← Ny111.out] at ho; replace qaF := ak_ (qev (g := qb8) (o := .cells #[.int .i64 qbL, .slice (some qec) qe7.length c0_1] 169 (0, 0)) qmu hg (Kd.R_ne qdr.out qaF.out (by decide))); replace HB := ak_ (hb); have HO113 := ak_ (ho); clear qdr; clear ho hb hg hat; refine hK.out _ _ ⟨qed qaF.out, qbB qaF.out, ((HB.out.cell (World.block_lt_of_cell? w _ qgb)).trans qgb)⟩ (fun hHeld => ?_); clear hK K; refine nm_ 43 ?_; refine pu_ 12 3 [13] ?_; refine qf4 (qeC HT_.out (by kernel_rfl)) ?_
   try go_wp2
   go_roundg k1
   case measure => have := HK1.out; omega
   case rel => exact ⟨(qio), (wrap64 (qca + 1)), qav, H', ⟨qc9⟩, ⟨by apply_rules only [HO113.out, Kd.qaq, Kd.qar, Kd.qaC]⟩, ⟨qmu⟩, ⟨qdt⟩⟩
def qd1.f (k : Nat) (l0 : List (qac)) : Option (List Int × Bool) := (qbS.f k l0).bind fun qc6 => (if qc6.2.2 = true then ((qaL.f k qc6.1 qc6.2.1).bind fun t107 => (some (t107, true))) else (some (([] : List Int), false)))
theorem qd1.calls (k : Nat) (A0 : Option Addr) (c0 : Nat) (l0 : List (qac)) (r1 : List Int) (r2 : Bool) (w : World) (hr0 : Kd.C qaN w A0 l0.length l0) (hc0 : l0.length ≤ c0) (h : qd1.f k l0 = some (r1, r2)) :
  Calls Tryz.prog 142 #[.slice A0 l0.length c0] w fun e w' => ∃ v0_ : Value, e = .returned (.tuple #[v0_, .bool r2]) ∧ Kd.R (Kd.int .i64) 3 w' w.heap.size (fun _ => True) v0_ r1 ∧ Below w.heap.size w w' := by
 have hu169 := Tryz.underlying169; have HR0 := ak_ hr0; have HC0 := ak_ hc0; clear hr0 hc0; have HB := ak_ (Below.refl w.heap.size w); have H : ((qbS.f k l0).bind fun qc6 => (if qc6.2.2 = true then ((qaL.f k qc6.1 qc6.2.1).bind fun t107 => (some (t107, true))) else (some (([] : List Int), false)))) = some (r1, r2) := h; clear h; obtain ⟨⟨qas, qaI, t105⟩, A2, H⟩ := qaw H; (try dsimp only at H); by_cases c3 : t105 = true
 ·subst c3; rw [if_pos rfl] at H; obtain ⟨t107, A4, H⟩ := qaw H; (try dsimp only at H); obtain ⟨rfl, rfl⟩ := qdI H; go_enter Tryz.func142, Tryz.ntmps142
  go_wp2_with (first | (refine gl_ 8 Tryz.func187 #[.slice A0 l0.length c0] rfl qbK ?_; (with_reducible refine (qbS.calls k _ _ l0 qas qaI true _ ?qay ?qaz A2.out).mono ?_); (case qay => exact qfM); (case qaz => exact qb6); rintro e w5 ⟨qhg, rfl, ho0, hb⟩; refine ⟨_, rfl, ?_⟩; have qbW := ak_ (Kd.qau ho0 (qab qam)); replace HB := HB.mw hb; (try clear hb ho0)) | ((with_reducible refine qak (N := 4) rfl ?_); refine bx_ 4 rfl (cs := #[.int .i64 0, .slice none 0 0]) (t := 169) qbb ?_; intro qeU hg w6 hbox hb; replace qbW := qbW.mw hb; have qek := ak_ (hbox); have qnO := ak_ (HB.ge hg); have qmz := ak_ (HB.ge hg); replace HB := HB.mw hb; clear hb hbox hg; obtain ⟨qm4, qm5, qm8, qm9⟩ := qbG qek.out; obtain ⟨Ao8, co8, eo8⟩ := Kd.qaJ qbW.out; subst eo8) | (refine gl_ 14 Tryz.func201 #[.agg #[.int .i64 qas, .slice Ao8 qaI.length co8]] rfl qbK ?_; (with_reducible refine (qaL.calls k qas _ _ qaI t107 _ ?qay ?qaz A4.out).mono ?_); (case qay => refine (Kd.R_reads' (e := 3) (base := w.heap.size) (ok := fun k_ => True) (n := qaI.length) (c := co8) ?_).2.2; exact k20_); (case qaz => exact (Kd.R_reads' qbW.out).2.1); rintro e w9 ⟨v108, rfl, ho0, hb⟩; refine ⟨_, rfl, ?_⟩; have qiN := ak_ (Kd.qau (Kd.R_new' ho0 (Kd.qjA k20_)) (qab qoJ)); replace qbW := ak_ (Kd.R_elder' k20_ (Kd.qfk ho0) hb); replace qek := ak_ (qao (g := qeU) (o := .cells #[.int .i64 qas, .slice Ao8 qaI.length co8] 169 (0, 0)) k6_ hb); replace HB := ak_ (qaa qoJ hb); (try clear hb ho0)))
  go_ret2
  exact ⟨_, qce, by (with_reducible repeat (first | apply Kd.qaq | apply Kd.qar | apply Kd.qaC)); exact Kd.qa8 qiN.out (fun _ hk => trivial), qoJ⟩
 replace c3 := Bool.eq_false_iff.mpr c3; subst c3; rw [if_neg (show ¬ (false = true) by decide)] at H; obtain ⟨rfl, rfl⟩ := qdI H; go_enter Tryz.func142, Tryz.ntmps142
 go_wp2_with (first | (refine gl_ 8 Tryz.func187 #[.slice A0 l0.length c0] rfl qbK ?_; (with_reducible refine (qbS.calls k _ _ l0 qas qaI false _ ?qay ?qaz A2.out).mono ?_); (case qay => exact qfM); (case qaz => exact qb6); rintro e w10 ⟨qhg, rfl, ho0, hb⟩; refine ⟨_, rfl, ?_⟩; have qbW := ak_ (Kd.qau ho0 (qab qam)); replace HB := HB.mw hb; (try clear hb ho0)) | ((with_reducible refine qak (N := 4) rfl ?_); refine bx_ 4 rfl (cs := #[.int .i64 0, .slice none 0 0]) (t := 169) qbb ?_; intro qeU hg w11 hbox hb; replace qbW := qbW.mw hb; have qek := ak_ (hbox); have qnO := ak_ (HB.ge hg); have qmz := ak_ (HB.ge hg); replace HB := HB.mw hb; clear hb hbox hg; obtain ⟨qoo, qop, qou, qov⟩ := qbG qek.out; obtain ⟨Ao13, co13, eo13⟩ := Kd.qaJ qbW.out; subst eo13))
 go_ret2
 exact ⟨_, qce, qg4, qoJ⟩
def qfZ.f (k : Nat) (rs : List qac) (mo : Int) (c : Cmd) : Option (List qac × Int × ByteArray) := match c with
  | .cMirror => (qaQ.f k rs).bind fun q => (qe3 k rs q.1 q.2).bind fun p => some (p.1, mo, p.2)
  | .cTidy => (qa6.f k rs).bind fun q => (qe3 k rs q.1 q.2).bind fun p => some (p.1, mo, p.2)
  | .cShow => (qaE.f k rs).bind fun s => some (rs, mo, s)
  | .cCount => (qaA.f k rs 1 mo).bind fun l => (qbk.f (l.length : Int)).bind fun s => some (rs, mo, s)
  | .cPeriod => (qcb.f k rs).bind fun q => (qbk.f q.1).bind fun s => (qbX.f s q.2).bind fun z => some (rs, mo, z)
  | .cLeft => (qaA.f k rs 1 mo).bind fun l => (qbn.f k l).bind fun s => (qbX.f s true).bind fun z => some (rs, mo, z)
  | .cSpokes => (qdM.f k rs).bind fun q => (qbn.f k q.1).bind fun s => (qbX.f s q.2).bind fun z => some (rs, mo, z)
  | .cSteps => (qd1.f k rs).bind fun q => (qbn.f k q.1).bind fun s => (qbX.f s q.2).bind fun z => some (rs, mo, z)
  | _ => none
theorem qoW (k base g : Nat) (rs : List qac) (mo : Int) (c : Cmd) (rs' : List qac) (mo' : Int) (txt : ByteArray) (w : World) (hbase : base ≤ w.heap.size) (hD : qfD w base g rs mo) (hl : rs.length < 8796093022208) (hG : qba w) (h : qfZ.f k rs mo c = some (rs', mo', txt)) :
    Calls Tryz.prog 77 #[.pointer (some ⟨g, 0, none⟩), .string c.word] w fun e w' => e = .returned (.string txt) ∧ qfD w' base g rs' mo' ∧ qcu w w' g := by
  obtain ⟨A0, c0, hC, hO⟩ := hD; have HCw := ak_ hC; have HOw := ak_ hO; have HC := ak_ hC; have HO := ak_ hO; have HG := ak_ hG; have HBS := ak_ hbase; have HB := ak_ (Below.refl w.heap.size w); have HLn := ak_ hl; have SM := ak_ (show ∀ w' : World, Below w.heap.size w w' → qfD w' base g rs mo ∧ qcu w w' g from fun w' h_ => ⟨⟨A0, c0, qao HCw.out h_, Kd.qbx HOw.out h_⟩, qcu.qbN h_ g⟩); obtain ⟨qqm, qqn, qqg, qqh⟩ := qbG HC.out; clear hC hO hG hbase hl; unfold qfZ.f at h
  match c, h with
  | .cMirror, h =>
    simp only [Cmd.word, Cmd.bytes]; dsimp only at h; obtain ⟨⟨xs, ok⟩, A1, h⟩ := qaw h; (try dsimp only at h); obtain ⟨⟨rs1, qi8⟩, A2, h⟩ := qaw h; (try dsimp only at h); obtain ⟨rfl, rfl, rfl⟩ := qfI h; go_enter Tryz.func77, Tryz.ntmps77
    go_wp2_with (first | ((with_reducible refine qak (N := 9) rfl ?_); refine li_ (Kd.int .i64) 3 9 rfl (xs := ([] : List Int)) qbb ?_; intro vl9 wl ho hb; have HV := ak_ (Kd.qau ho (qab qam)); replace HB := HB.mw hb; clear hb ho; clear HV; clear HC HO; have HC := ak_ (qao HCw.out HB.out); have HO := ak_ (Kd.qbx HOw.out HB.out); obtain ⟨qji, qjj, qjg, qjh⟩ := qbG HC.out) | (refine gl_ 26 Tryz.func137 #[.slice A0 rs.length c0] rfl qb1 ?_; (refine (qaQ.calls k _ _ rs xs ok _ qjk (Kd.R_reads' HO.out).2.1 A1.out).mono ?_); rintro e w2 ⟨vx, rfl, hox, hb⟩; refine ⟨_, rfl, ?_⟩; have HX := ak_ (Kd.qau hox (Nat.le_trans HBS.out (qab qam))); clear hox; obtain ⟨Ax, cx, ex⟩ := Kd.qaJ HX.out; subst ex; replace HB := ak_ (qaa qam hb); clear hb) | (refine gl_ 29 Tryz.func71 #[.pointer (some ⟨g, 0, none⟩), .slice Ax xs.length cx, .bool ok] rfl qb1 ?_; (refine (qeM k base g Ax cx xs ok rs mo rs1 qi8 _ (SM.out _ qam).1 qmv A2.out).mono ?_); rintro e w9 ⟨rfl, hD, hk⟩; refine ⟨_, rfl, ?_⟩; have HD := ak_ hD; have HKb := ak_ (qcu.trans (qcu.qbN qam g) hk); clear hD hk))
    go_ret
    exact ⟨rfl, HD.out, HKb.out⟩
  | .cTidy, h =>
    simp only [Cmd.word, Cmd.bytes]; dsimp only at h; obtain ⟨⟨xs, ok⟩, A1, h⟩ := qaw h; (try dsimp only at h); obtain ⟨⟨rs1, qi8⟩, A2, h⟩ := qaw h; (try dsimp only at h); obtain ⟨rfl, rfl, rfl⟩ := qfI h; go_enter Tryz.func77, Tryz.ntmps77
    go_wp2_with (first | ((with_reducible refine qak (N := 9) rfl ?_); refine li_ (Kd.int .i64) 3 9 rfl (xs := ([] : List Int)) qbb ?_; intro vl9 wl ho hb; have HV := ak_ (Kd.qau ho (qab qam)); replace HB := HB.mw hb; clear hb ho; clear HV; clear HC HO; have HC := ak_ (qao HCw.out HB.out); have HO := ak_ (Kd.qbx HOw.out HB.out); obtain ⟨qji, qjj, qjg, qjh⟩ := qbG HC.out) | (refine gl_ 37 Tryz.func138 #[.slice A0 rs.length c0] rfl qb1 ?_; (refine (qa6.calls k _ _ rs xs ok _ qjk (Kd.R_reads' HO.out).2.1 A1.out).mono ?_); rintro e w2 ⟨vx, rfl, hox, hb⟩; refine ⟨_, rfl, ?_⟩; have HX := ak_ (Kd.qau hox (Nat.le_trans HBS.out (qab qam))); clear hox; obtain ⟨Ax, cx, ex⟩ := Kd.qaJ HX.out; subst ex; replace HB := ak_ (qaa qam hb); clear hb) | (refine gl_ 40 Tryz.func71 #[.pointer (some ⟨g, 0, none⟩), .slice Ax xs.length cx, .bool ok] rfl qb1 ?_; (refine (qeM k base g Ax cx xs ok rs mo rs1 qi8 _ (SM.out _ qam).1 qmv A2.out).mono ?_); rintro e w9 ⟨rfl, hD, hk⟩; refine ⟨_, rfl, ?_⟩; have HD := ak_ hD; have HKb := ak_ (qcu.trans (qcu.qbN qam g) hk); clear hD hk))
    go_ret
    exact ⟨rfl, HD.out, HKb.out⟩
  | .cShow, h =>
    simp only [Cmd.word, Cmd.bytes]; dsimp only at h; obtain ⟨s, A1, h⟩ := qaw h; (try dsimp only at h); obtain ⟨rfl, rfl, rfl⟩ := qfI h; go_enter Tryz.func77, Tryz.ntmps77
    go_wp2_with (first | ((with_reducible refine qak (N := 9) rfl ?_); refine li_ (Kd.int .i64) 3 9 rfl (xs := ([] : List Int)) qbb ?_; intro vl9 wl ho hb; have HV := ak_ (Kd.qau ho (qab qam)); replace HB := HB.mw hb; clear hb ho; clear HV; clear HC HO; have HC := ak_ (qao HCw.out HB.out); have HO := ak_ (Kd.qbx HOw.out HB.out); obtain ⟨qji, qjj, qjg, qjh⟩ := qbG HC.out) | (refine gl_ 47 Tryz.func54 #[.slice A0 rs.length c0] rfl qb1 ?_; (refine (qaE.calls k _ _ rs s _ qjk (Kd.R_reads' HO.out).2.1 A1.out).mono ?_); rintro e w3 ⟨rfl, hb⟩; refine ⟨_, rfl, ?_⟩; replace HB := ak_ (qaa qam hb); clear hb))
    go_ret
    exact ⟨rfl, SM.out _ qam⟩
  | .cCount, h =>
    simp only [Cmd.word, Cmd.bytes]; dsimp only at h; obtain ⟨xs, A1, h⟩ := qaw h; (try dsimp only at h); obtain ⟨s, A2, h⟩ := qaw h; (try dsimp only at h); obtain ⟨rfl, rfl, rfl⟩ := qfI h; go_enter Tryz.func77, Tryz.ntmps77
    go_wp2_with (first | ((with_reducible refine qak (N := 9) rfl ?_); refine li_ (Kd.int .i64) 3 9 rfl (xs := ([] : List Int)) qbb ?_; intro vl9 wl ho hb; have HV := ak_ (Kd.qau ho (qab qam)); replace HB := HB.mw hb; clear hb ho; clear HV; clear HC HO; have HC := ak_ (qao HCw.out HB.out); have HO := ak_ (Kd.qbx HOw.out HB.out); obtain ⟨qji, qjj, qjg, qjh⟩ := qbG HC.out))
    go_still_tail 8, (by kernel_rfl)
    go_wp2_with (first | (refine gl_ 58 Tryz.func139 #[.slice A0 rs.length c0, .int .i64 1, .int .i64 mo] rfl qb1 ?_; (refine (qaA.calls k _ _ rs 1 mo xs _ qjk (Kd.R_reads' HO.out).2.1 A1.out).mono ?_); rintro e w2 ⟨vx, rfl, hox, hb⟩; refine ⟨_, rfl, ?_⟩; have HX := ak_ (Kd.qau hox (Nat.le_trans HBS.out (qab qam))); clear hox; obtain ⟨Ax, cx, ex⟩ := Kd.qaJ HX.out; subst ex; replace HB := ak_ (qaa qam hb); clear hb) | (refine gl_ 60 Tryz.func87 #[.int .i64 (xs.length : Int)] rfl qb1 ?_; (refine (qbk.calls (xs.length : Int) s _ A2.out (qba.below HG.out qam)).mono ?_); rintro e w5 ⟨rfl, hb⟩; refine ⟨_, rfl, ?_⟩; replace HB := ak_ (qaa qam hb); clear hb))
    go_ret
    exact ⟨rfl, SM.out _ qam⟩
  | .cPeriod, h =>
    simp only [Cmd.word, Cmd.bytes]; dsimp only at h; obtain ⟨⟨v, ok⟩, A1, h⟩ := qaw h; (try dsimp only at h); obtain ⟨s, A2, h⟩ := qaw h; (try dsimp only at h); obtain ⟨z, A3, h⟩ := qaw h; (try dsimp only at h); obtain ⟨rfl, rfl, rfl⟩ := qfI h; go_enter Tryz.func77, Tryz.ntmps77
    go_wp2_with (first | ((with_reducible refine qak (N := 9) rfl ?_); refine li_ (Kd.int .i64) 3 9 rfl (xs := ([] : List Int)) qbb ?_; intro vl9 wl ho hb; have HV := ak_ (Kd.qau ho (qab qam)); replace HB := HB.mw hb; clear hb ho; clear HV; clear HC HO; have HC := ak_ (qao HCw.out HB.out); have HO := ak_ (Kd.qbx HOw.out HB.out); obtain ⟨qji, qjj, qjg, qjh⟩ := qbG HC.out) | (refine gl_ 68 Tryz.func140 #[.slice A0 rs.length c0] rfl qb1 ?_; (refine (qcb.calls k _ _ rs v ok _ qjk (Kd.R_reads' HO.out).2.1 A1.out).mono ?_); rintro e w2 ⟨rfl, hb⟩; refine ⟨_, rfl, ?_⟩; replace HB := ak_ (qaa qam hb); clear hb) | (refine gl_ 72 Tryz.func87 #[.int .i64 v] rfl qb1 ?_; (refine (qbk.calls v s _ A2.out (qba.below HG.out qam)).mono ?_); rintro e w5 ⟨rfl, hb⟩; refine ⟨_, rfl, ?_⟩; replace HB := ak_ (qaa qam hb); clear hb) | (refine gl_ 74 Tryz.func76 #[.string s, .bool ok] rfl qb1 ?_; (refine ((qbX.calls s ok z _ A3.out)).mono ?_); rintro e w8 ⟨rfl, hd_⟩; refine ⟨_, rfl, ?_⟩; have hb := hd_.below; clear hd_; replace HB := ak_ (qaa qam hb); clear hb))
    go_ret
    exact ⟨rfl, SM.out _ qam⟩
  | .cLeft, h =>
    simp only [Cmd.word, Cmd.bytes]; dsimp only at h; obtain ⟨xs, A1, h⟩ := qaw h; (try dsimp only at h); obtain ⟨s, A2, h⟩ := qaw h; (try dsimp only at h); obtain ⟨z, A3, h⟩ := qaw h; (try dsimp only at h); obtain ⟨rfl, rfl, rfl⟩ := qfI h; go_enter Tryz.func77, Tryz.ntmps77
    go_wp2_with (first | ((with_reducible refine qak (N := 9) rfl ?_); refine li_ (Kd.int .i64) 3 9 rfl (xs := ([] : List Int)) qbb ?_; intro vl9 wl ho hb; have HV := ak_ (Kd.qau ho (qab qam)); replace HB := HB.mw hb; clear hb ho; clear HV; clear HC HO; have HC := ak_ (qao HCw.out HB.out); have HO := ak_ (Kd.qbx HOw.out HB.out); obtain ⟨qji, qjj, qjg, qjh⟩ := qbG HC.out))
    go_still_tail 8, (by kernel_rfl)
    go_wp2_with (first | (refine gl_ 85 Tryz.func139 #[.slice A0 rs.length c0, .int .i64 1, .int .i64 mo] rfl qb1 ?_; (refine (qaA.calls k _ _ rs 1 mo xs _ qjk (Kd.R_reads' HO.out).2.1 A1.out).mono ?_); rintro e w2 ⟨vx, rfl, hox, hb⟩; refine ⟨_, rfl, ?_⟩; have HX := ak_ (Kd.qau hox (Nat.le_trans HBS.out (qab qam))); clear hox; obtain ⟨Ax, cx, ex⟩ := Kd.qaJ HX.out; subst ex; replace HB := ak_ (qaa qam hb); clear hb) | (refine gl_ 97 Tryz.func131 #[.slice Ax xs.length cx] rfl qb1 ?_; (refine (qbn.calls k _ _ xs s _ qqq (Kd.R_reads' HX.out).2.1 A2.out (qba.below HG.out qam)).mono ?_); rintro e w5 ⟨rfl, hb⟩; refine ⟨_, rfl, ?_⟩; replace HB := ak_ (qaa qam hb); clear hb) | (refine gl_ 99 Tryz.func76 #[.string s, .bool true] rfl qb1 ?_; (refine ((qbX.calls s true z _ A3.out)).mono ?_); rintro e w8 ⟨rfl, hd_⟩; refine ⟨_, rfl, ?_⟩; have hb := hd_.below; clear hd_; replace HB := ak_ (qaa qam hb); clear hb))
    go_ret
    exact ⟨rfl, SM.out _ qam⟩
  | .cSpokes, h =>
    simp only [Cmd.word, Cmd.bytes]; dsimp only at h; obtain ⟨⟨xs, ok⟩, A1, h⟩ := qaw h; (try dsimp only at h); obtain ⟨s, A2, h⟩ := qaw h; (try dsimp only at h); obtain ⟨z, A3, h⟩ := qaw h; (try dsimp only at h); obtain ⟨rfl, rfl, rfl⟩ := qfI h; go_enter Tryz.func77, Tryz.ntmps77
    go_wp2_with (first | ((with_reducible refine qak (N := 9) rfl ?_); refine li_ (Kd.int .i64) 3 9 rfl (xs := ([] : List Int)) qbb ?_; intro vl9 wl ho hb; have HV := ak_ (Kd.qau ho (qab qam)); replace HB := HB.mw hb; clear hb ho; clear HV; clear HC HO; have HC := ak_ (qao HCw.out HB.out); have HO := ak_ (Kd.qbx HOw.out HB.out); obtain ⟨qji, qjj, qjg, qjh⟩ := qbG HC.out) | (refine gl_ 93 Tryz.func141 #[.slice A0 rs.length c0] rfl qb1 ?_; (refine (qdM.calls k _ _ rs xs ok _ qjk (Kd.R_reads' HO.out).2.1 A1.out).mono ?_); rintro e w2 ⟨vx, rfl, hox, hb⟩; refine ⟨_, rfl, ?_⟩; have HX := ak_ (Kd.qau hox (Nat.le_trans HBS.out (qab qam))); clear hox; obtain ⟨Ax, cx, ex⟩ := Kd.qaJ HX.out; subst ex; replace HB := ak_ (qaa qam hb); clear hb) | (refine gl_ 97 Tryz.func131 #[.slice Ax xs.length cx] rfl qb1 ?_; (refine (qbn.calls k _ _ xs s _ qqq (Kd.R_reads' HX.out).2.1 A2.out (qba.below HG.out qam)).mono ?_); rintro e w5 ⟨rfl, hb⟩; refine ⟨_, rfl, ?_⟩; replace HB := ak_ (qaa qam hb); clear hb) | (refine gl_ 99 Tryz.func76 #[.string s, .bool ok] rfl qb1 ?_; (refine ((qbX.calls s ok z _ A3.out)).mono ?_); rintro e w8 ⟨rfl, hd_⟩; refine ⟨_, rfl, ?_⟩; have hb := hd_.below; clear hd_; replace HB := ak_ (qaa qam hb); clear hb))
    go_ret
    exact ⟨rfl, SM.out _ qam⟩
  | .cSteps, h =>
    simp only [Cmd.word, Cmd.bytes]; dsimp only at h; obtain ⟨⟨xs, ok⟩, A1, h⟩ := qaw h; (try dsimp only at h); obtain ⟨s, A2, h⟩ := qaw h; (try dsimp only at h); obtain ⟨z, A3, h⟩ := qaw h; (try dsimp only at h); obtain ⟨rfl, rfl, rfl⟩ := qfI h; go_enter Tryz.func77, Tryz.ntmps77
    go_wp2_with (first | ((with_reducible refine qak (N := 9) rfl ?_); refine li_ (Kd.int .i64) 3 9 rfl (xs := ([] : List Int)) qbb ?_; intro vl9 wl ho hb; have HV := ak_ (Kd.qau ho (qab qam)); replace HB := HB.mw hb; clear hb ho; clear HV; clear HC HO; have HC := ak_ (qao HCw.out HB.out); have HO := ak_ (Kd.qbx HOw.out HB.out); obtain ⟨qji, qjj, qjg, qjh⟩ := qbG HC.out) | (refine gl_ 16 Tryz.func142 #[.slice A0 rs.length c0] rfl qb1 ?_; (refine (qd1.calls k _ _ rs xs ok _ qjk (Kd.R_reads' HO.out).2.1 A1.out).mono ?_); rintro e w2 ⟨vx, rfl, hox, hb⟩; refine ⟨_, rfl, ?_⟩; have HX := ak_ (Kd.qau hox (Nat.le_trans HBS.out (qab qam))); clear hox; obtain ⟨Ax, cx, ex⟩ := Kd.qaJ HX.out; subst ex; replace HB := ak_ (qaa qam hb); clear hb) | (refine gl_ 97 Tryz.func131 #[.slice Ax xs.length cx] rfl qb1 ?_; (refine (qbn.calls k _ _ xs s _ qqq (Kd.R_reads' HX.out).2.1 A2.out (qba.below HG.out qam)).mono ?_); rintro e w5 ⟨rfl, hb⟩; refine ⟨_, rfl, ?_⟩; replace HB := ak_ (qaa qam hb); clear hb) | (refine gl_ 99 Tryz.func76 #[.string s, .bool ok] rfl qb1 ?_; (refine ((qbX.calls s ok z _ A3.out)).mono ?_); rintro e w8 ⟨rfl, hd_⟩; refine ⟨_, rfl, ?_⟩; have hb := hd_.below; clear hd_; replace HB := ak_ (qaa qam hb); clear hb))
    go_ret
    exact ⟨rfl, SM.out _ qam⟩
theorem qcP {w : World} {base g n c : Nat} {ok : Nat → Prop} {ws : List ByteArray} (h : Kd.R Kd.string 9 w base ok (.slice (some ⟨g, 0, none⟩) n c) ws) (i : Nat) (x : ByteArray) (hx : ws[i]? = some x) : w.cell? ⟨g, i, none⟩ = some (.string x) := by
  have hi := (List.getElem?_eq_some_iff.1 hx).1; have h2 := Kd.R_reads' h; obtain ⟨ad, e, hc⟩ := Kd.qeu h2.2.2 (i : Int) (by omega) (by omega)
  cases e
  rw [Int.toNat_natCast, add_plain] at hc; rw [hc, qeW, List.getD, Int.toNat_natCast, hx]; rfl
theorem Cmd.kinds (c : Cmd) : c.kind = [] ∨ c.kind = [110] ∨ c.kind = [114] ∨ c.kind = [115] := by cases c <;> simp [Cmd.kind]
theorem Cmd.rule {c : Cmd} (h : c.kind = [114]) : c = .cRules ∨ c = .cAdd := by cases c <;> simp_all [Cmd.kind]
def qfn.f (k : Nat) (rs : List qac) (mo : Int) (s : ByteArray) : Option (List qac × Int × ByteArray) := if s.size ≤ 1048576 ∧ rs.length < 8796093022208 then (match qgw 32 s with
  | [] => none
  | x :: t => match qhn x with
    | none => some (rs, mo, (⟨#[119, 104, 97, 116]⟩ : ByteArray))
    | some c => if t.length = c.kind.length then (match c.kind, t with
        | [], _ => qfZ.f k rs mo c
        | 110 :: _, y :: _ => (match numOf y with | none => some (rs, mo, (⟨#[119, 104, 97, 116]⟩ : ByteArray)) | some n => qck.f k rs mo c n)
        | 114 :: _, y :: _ => (qaT.f k y).bind fun q => if q.2 = true then ((if c.bytes = [97, 100, 100] then (if rs.length + q.1.length < 8796093022208 then some (rs ++ q.1) else none) else some q.1).bind fun xs => (qe3 k rs xs true).bind fun p => some (p.1, mo, p.2)) else some (rs, mo, (⟨#[119, 104, 97, 116]⟩ : ByteArray))
        | _, y :: _ => (qb9.f y).bind fun q => if q.2.2 = true then ((qc1.f k q.1 q.2.1).bind fun u => (qaE.f k u.1).bind fun z => (qbX.f z u.2).bind fun z => some (rs, mo, z)) else some (rs, mo, (⟨#[110, 111]⟩ : ByteArray))
        | _, [] => none) else some (rs, mo, (⟨#[119, 104, 97, 116]⟩ : ByteArray))) else none
theorem qqu (k base g : Nat) (rs : List qac) (mo : Int) (s : ByteArray) (rs' : List qac) (mo' : Int) (txt : ByteArray) (w : World) (hbase : base ≤ w.heap.size) (hD : qfD w base g rs mo) (hG : qba w) (h : qfn.f k rs mo s = some (rs', mo', txt)) :
    Calls Tryz.prog 45 #[.pointer (some ⟨g, 0, none⟩), .string s] w fun e w' => e = .returned (.string txt) ∧ qfD w' base g rs' mo' ∧ qcu w w' g := by
  unfold qfn.f at h; by_cases hsl : s.size ≤ 1048576 ∧ rs.length < 8796093022208; rotate_left
  ·rw [if_neg hsl] at h; exact absurd h (by simp)
  rw [if_pos hsl] at h; have hl := hsl.2; have HS := ak_ hsl.1; clear hsl; obtain ⟨A0, c0, hC, hO⟩ := hD; have HCw := ak_ hC; have HOw := ak_ hO; have HC := ak_ hC; have HO := ak_ hO; have HG := ak_ hG; have HBS := ak_ hbase; have HB := ak_ (Below.refl w.heap.size w); have HLn := ak_ hl; have SM := ak_ (show ∀ w' : World, Below w.heap.size w w' → qfD w' base g rs mo ∧ qcu w w' g from fun w' h_ => ⟨⟨A0, c0, qao HCw.out h_, Kd.qbx HOw.out h_⟩, qcu.qbN h_ g⟩); obtain ⟨qqm, qqn, qqg, qqh⟩ := qbG HC.out; clear hC hO hG hbase hl
  obtain ⟨ws, hws⟩ : ∃ ws, ws = qgw 32 s := ⟨_, rfl⟩
  rw [← hws] at h; have HWE := ak_ hws; have HWM := ak_ (show ∀ x ∈ ws, x.size ≤ 1048576 from fun x hx => by have := qi4 _ _ s x (by rw [hws] at hx; exact hx); have := HS.out; omega); clear hws
  cases hw0 : ws with
  | nil => rw [hw0] at h; exact absurd h (by simp)
  | cons x0 t =>
    rw [hw0] at h; have HWP := ak_ (show 0 < ws.length from by rw [hw0]; simp)
    have hlt0 : (0 : Int) < (ws.length : Int) := by have := HWP.out; omega
    dsimp only at h; have HX0 := ak_ (show ws[0]? = some x0 from by rw [hw0]; rfl)
    cases hcm : qhn x0 with
    | none =>
      rw [hcm] at h; dsimp only at h; have HCM := ak_ hcm; obtain ⟨rfl, rfl, rfl⟩ := qfI h; clear hcm hw0; go_enter Tryz.func45, Tryz.ntmps45
      go_wp2_with (first | (refine gl_ 16 Tryz.func68 #[.string s, .string ⟨#[32]⟩] rfl qb1 ?_; (refine (qdg s ⟨#[32]⟩ _ (by have := HS.out; omega) rfl (qba.below HG.out qam)).mono ?_); rintro e w1 ⟨vw, rfl, how, hb⟩; refine ⟨_, rfl, ?_⟩; have HW := ak_ (show Kd.R Kd.string 9 _ w.heap.size (fun _ => True) vw ws from qpL); obtain ⟨gw, cw, ew, -⟩ := Kd.qeX HW.out HWP.out; subst ew; replace HB := ak_ (qaa qam hb); have qg1 : w1.cell? ⟨gw, 0, none⟩ = some (.string x0) := qcP HW.out 0 x0 HX0.out; clear hb; clear how) | (refine gl_ 21 Tryz.func69 #[.string x0] rfl qb1 ?_; (refine ((qbE.calls x0 ⟨#[]⟩ false _ (by unfold qbE.f; rw [HCM.out]))).mono ?_); rintro e w2 ⟨rfl, hb⟩; refine ⟨_, rfl, ?_⟩; replace HB := ak_ (qaa qam hb); replace HW := HW.mw hb; have qg2 : w2.cell? ⟨gw, 0, none⟩ = some (.string x0) := qcP HW.out 0 x0 HX0.out; clear hb))
      go_ret
      exact ⟨rfl, SM.out _ qam⟩
    | some c =>
      rw [hcm] at h; dsimp only at h; have HCM := ak_ hcm; have HWD := ak_ (qhG hcm); clear hcm
      have hwl : ws.length = t.length + 1 := by rw [hw0]; rfl
      by_cases htl : t.length = c.kind.length; rotate_left
      ·rw [if_neg htl] at h
       rcases Cmd.kinds c with hkd | hkd | hkd | hkd
       ·have hln : ws.length ≠ 1 := by rw [hkd] at htl; have : t.length ≠ 0 := htl; omega
        have HKD := ak_ hkd; have hlc : ((ws.length : Int) != 1) = true := bne_iff_ne.2 (by omega); have hld : ((ws.length : Int) == 1) = false := beq_eq_false_iff_ne.2 (by omega); obtain ⟨rfl, rfl, rfl⟩ := qfI h; clear hkd hln; go_enter Tryz.func45, Tryz.ntmps45
        go_wp2_with (first | (refine gl_ 16 Tryz.func68 #[.string s, .string ⟨#[32]⟩] rfl qb1 ?_; (refine (qdg s ⟨#[32]⟩ _ (by have := HS.out; omega) rfl (qba.below HG.out qam)).mono ?_); rintro e w1 ⟨vw, rfl, how, hb⟩; refine ⟨_, rfl, ?_⟩; have HW := ak_ (show Kd.R Kd.string 9 _ w.heap.size (fun _ => True) vw ws from qpL); obtain ⟨gw, cw, ew, -⟩ := Kd.qeX HW.out HWP.out; subst ew; replace HB := ak_ (qaa qam hb); have qg1 : w1.cell? ⟨gw, 0, none⟩ = some (.string x0) := qcP HW.out 0 x0 HX0.out; clear hb; clear how) | (refine gl_ 21 Tryz.func69 #[.string x0] rfl qb1 ?_; (refine ((qbE.calls x0 ⟨#[]⟩ true _ qqM)).mono ?_); rintro e w2 ⟨rfl, hb⟩; refine ⟨_, rfl, ?_⟩; replace HB := ak_ (qaa qam hb); replace HW := HW.mw hb; have qg2 : w2.cell? ⟨gw, 0, none⟩ = some (.string x0) := qcP HW.out 0 x0 HX0.out; clear hb))
        go_ret
        exact ⟨rfl, SM.out _ qam⟩
       ·have hln : ws.length ≠ 2 := by rw [hkd] at htl; have : t.length ≠ 1 := htl; omega
        have HKD := ak_ hkd; have hlc : ((ws.length : Int) != 2) = true := bne_iff_ne.2 (by omega); have hld : ((ws.length : Int) == 2) = false := beq_eq_false_iff_ne.2 (by omega); obtain ⟨rfl, rfl, rfl⟩ := qfI h; clear hkd hln; go_enter Tryz.func45, Tryz.ntmps45
        go_wp2_with (first | (refine gl_ 16 Tryz.func68 #[.string s, .string ⟨#[32]⟩] rfl qb1 ?_; (refine (qdg s ⟨#[32]⟩ _ (by have := HS.out; omega) rfl (qba.below HG.out qam)).mono ?_); rintro e w1 ⟨vw, rfl, how, hb⟩; refine ⟨_, rfl, ?_⟩; have HW := ak_ (show Kd.R Kd.string 9 _ w.heap.size (fun _ => True) vw ws from qpL); obtain ⟨gw, cw, ew, -⟩ := Kd.qeX HW.out HWP.out; subst ew; replace HB := ak_ (qaa qam hb); have qg1 : w1.cell? ⟨gw, 0, none⟩ = some (.string x0) := qcP HW.out 0 x0 HX0.out; clear hb; clear how) | (refine gl_ 21 Tryz.func69 #[.string x0] rfl qb1 ?_; (refine ((qbE.calls x0 ⟨#[110]⟩ true _ qqM)).mono ?_); rintro e w2 ⟨rfl, hb⟩; refine ⟨_, rfl, ?_⟩; replace HB := ak_ (qaa qam hb); replace HW := HW.mw hb; have qg2 : w2.cell? ⟨gw, 0, none⟩ = some (.string x0) := qcP HW.out 0 x0 HX0.out; clear hb))
        go_ret
        exact ⟨rfl, SM.out _ qam⟩
       ·have hln : ws.length ≠ 2 := by rw [hkd] at htl; have : t.length ≠ 1 := htl; omega
        have HKD := ak_ hkd; have hlc : ((ws.length : Int) != 2) = true := bne_iff_ne.2 (by omega); have hld : ((ws.length : Int) == 2) = false := beq_eq_false_iff_ne.2 (by omega); obtain ⟨rfl, rfl, rfl⟩ := qfI h; clear hkd hln; go_enter Tryz.func45, Tryz.ntmps45
        go_wp2_with (first | (refine gl_ 16 Tryz.func68 #[.string s, .string ⟨#[32]⟩] rfl qb1 ?_; (refine (qdg s ⟨#[32]⟩ _ (by have := HS.out; omega) rfl (qba.below HG.out qam)).mono ?_); rintro e w1 ⟨vw, rfl, how, hb⟩; refine ⟨_, rfl, ?_⟩; have HW := ak_ (show Kd.R Kd.string 9 _ w.heap.size (fun _ => True) vw ws from qpL); obtain ⟨gw, cw, ew, -⟩ := Kd.qeX HW.out HWP.out; subst ew; replace HB := ak_ (qaa qam hb); have qg1 : w1.cell? ⟨gw, 0, none⟩ = some (.string x0) := qcP HW.out 0 x0 HX0.out; clear hb; clear how) | (refine gl_ 21 Tryz.func69 #[.string x0] rfl qb1 ?_; (refine ((qbE.calls x0 ⟨#[114]⟩ true _ qqM)).mono ?_); rintro e w2 ⟨rfl, hb⟩; refine ⟨_, rfl, ?_⟩; replace HB := ak_ (qaa qam hb); replace HW := HW.mw hb; have qg2 : w2.cell? ⟨gw, 0, none⟩ = some (.string x0) := qcP HW.out 0 x0 HX0.out; clear hb))
        go_ret
        exact ⟨rfl, SM.out _ qam⟩
       have hln : ws.length ≠ 2 := by rw [hkd] at htl; have : t.length ≠ 1 := htl; omega
       have HKD := ak_ hkd; have hlc : ((ws.length : Int) != 2) = true := bne_iff_ne.2 (by omega); have hld : ((ws.length : Int) == 2) = false := beq_eq_false_iff_ne.2 (by omega); obtain ⟨rfl, rfl, rfl⟩ := qfI h; clear hkd hln; go_enter Tryz.func45, Tryz.ntmps45
       go_wp2_with (first | (refine gl_ 16 Tryz.func68 #[.string s, .string ⟨#[32]⟩] rfl qb1 ?_; (refine (qdg s ⟨#[32]⟩ _ (by have := HS.out; omega) rfl (qba.below HG.out qam)).mono ?_); rintro e w1 ⟨vw, rfl, how, hb⟩; refine ⟨_, rfl, ?_⟩; have HW := ak_ (show Kd.R Kd.string 9 _ w.heap.size (fun _ => True) vw ws from qpL); obtain ⟨gw, cw, ew, -⟩ := Kd.qeX HW.out HWP.out; subst ew; replace HB := ak_ (qaa qam hb); have qg1 : w1.cell? ⟨gw, 0, none⟩ = some (.string x0) := qcP HW.out 0 x0 HX0.out; clear hb; clear how) | (refine gl_ 21 Tryz.func69 #[.string x0] rfl qb1 ?_; (refine ((qbE.calls x0 ⟨#[115]⟩ true _ qqM)).mono ?_); rintro e w2 ⟨rfl, hb⟩; refine ⟨_, rfl, ?_⟩; replace HB := ak_ (qaa qam hb); replace HW := HW.mw hb; have qg2 : w2.cell? ⟨gw, 0, none⟩ = some (.string x0) := qcP HW.out 0 x0 HX0.out; clear hb))
       go_ret
       exact ⟨rfl, SM.out _ qam⟩
      rw [if_pos htl] at h
      rcases Cmd.kinds c with hkd | hkd | hkd | hkd
      ·rw [hkd] at h htl; obtain rfl := List.length_eq_zero_iff.1 htl; have HF := ak_ (show qfZ.f k rs mo c = some (rs', mo', txt) from h); have HKD := ak_ hkd
       have hln : ws.length = 1 := by rw [hw0]; rfl
       have hlc : ((ws.length : Int) != 1) = false := bne_eq_false_iff_eq.2 (by omega); have hld : ((ws.length : Int) == 1) = true := beq_iff_eq.2 (by omega); clear hkd htl h hw0 hwl hln; go_enter Tryz.func45, Tryz.ntmps45
       go_wp2_with (first | (refine gl_ 16 Tryz.func68 #[.string s, .string ⟨#[32]⟩] rfl qb1 ?_; (refine (qdg s ⟨#[32]⟩ _ (by have := HS.out; omega) rfl (qba.below HG.out qam)).mono ?_); rintro e w1 ⟨vw, rfl, how, hb⟩; refine ⟨_, rfl, ?_⟩; have HW := ak_ (show Kd.R Kd.string 9 _ w.heap.size (fun _ => True) vw ws from qpL); obtain ⟨gw, cw, ew, -⟩ := Kd.qeX HW.out HWP.out; subst ew; replace HB := ak_ (qaa qam hb); have qg1 : w1.cell? ⟨gw, 0, none⟩ = some (.string x0) := qcP HW.out 0 x0 HX0.out; clear hb; clear how) | (refine gl_ 21 Tryz.func69 #[.string x0] rfl qb1 ?_; (refine ((qbE.calls x0 ⟨#[]⟩ true _ qqM)).mono ?_); rintro e w2 ⟨rfl, hb⟩; refine ⟨_, rfl, ?_⟩; replace HB := ak_ (qaa qam hb); replace HW := HW.mw hb; have qg2 : w2.cell? ⟨gw, 0, none⟩ = some (.string x0) := qcP HW.out 0 x0 HX0.out; clear hb) | (refine gl_ 102 Tryz.func77 #[.pointer (some ⟨g, 0, none⟩), .string x0] rfl qb1 ?_; (refine ((show Calls _ _ _ _ _ from by rw [HWD.out]; exact qoW k base g rs mo c rs' mo' txt _ (Nat.le_trans HBS.out (qab qam)) (SM.out _ qam).1 HLn.out (qba.below HG.out qam) HF.out)).mono ?_); rintro e w9 ⟨rfl, hD, hk⟩; refine ⟨_, rfl, ?_⟩; have HD := ak_ hD; have HKb := ak_ (qcu.trans (qcu.qbN qam g) hk); clear hD hk))
       go_ret
       exact ⟨rfl, HD.out, HKb.out⟩
      ·rw [hkd] at h htl; obtain ⟨x1, rfl⟩ := List.length_eq_one_iff.1 htl; have HX1 := ak_ (show ws[1]? = some x1 from by rw [hw0]; rfl); have HKD := ak_ hkd
       have hln : ws.length = 2 := by rw [hw0]; rfl
       have hlc : ((ws.length : Int) != 2) = false := bne_eq_false_iff_eq.2 (by omega); have hld : ((ws.length : Int) == 2) = true := beq_iff_eq.2 (by omega)
       have hlt1 : (1 : Int) < (ws.length : Int) := by omega
       have HS1 := ak_ (HWM.out x1 (by rw [hw0]; simp)); clear hkd htl hw0 hwl hln
       cases hno : numOf x1 with
       | none =>
         have H : (match numOf x1 with | none => some (rs, mo, (⟨#[119, 104, 97, 116]⟩ : ByteArray)) | some n => qck.f k rs mo c n) = some (rs', mo', txt) := h; rw [hno] at H; dsimp only at H; obtain ⟨rfl, rfl, rfl⟩ := qfI H; have HNO := ak_ hno; clear hno h; go_enter Tryz.func45, Tryz.ntmps45
         go_wp2_with (first | (refine gl_ 16 Tryz.func68 #[.string s, .string ⟨#[32]⟩] rfl qb1 ?_; (refine (qdg s ⟨#[32]⟩ _ (by have := HS.out; omega) rfl (qba.below HG.out qam)).mono ?_); rintro e w1 ⟨vw, rfl, how, hb⟩; refine ⟨_, rfl, ?_⟩; have HW := ak_ (show Kd.R Kd.string 9 _ w.heap.size (fun _ => True) vw ws from qpL); obtain ⟨gw, cw, ew, -⟩ := Kd.qeX HW.out HWP.out; subst ew; replace HB := ak_ (qaa qam hb); have qg1 : w1.cell? ⟨gw, 0, none⟩ = some (.string x0) := qcP HW.out 0 x0 HX0.out; have qlj : w1.cell? ⟨gw, 1, none⟩ = some (.string x1) := qcP HW.out 1 x1 HX1.out; clear hb; clear how) | (refine gl_ 21 Tryz.func69 #[.string x0] rfl qb1 ?_; (refine ((qbE.calls x0 ⟨#[110]⟩ true _ qqM)).mono ?_); rintro e w2 ⟨rfl, hb⟩; refine ⟨_, rfl, ?_⟩; replace HB := ak_ (qaa qam hb); replace HW := HW.mw hb; have qg2 : w2.cell? ⟨gw, 0, none⟩ = some (.string x0) := qcP HW.out 0 x0 HX0.out; have qlk : w2.cell? ⟨gw, 1, none⟩ = some (.string x1) := qcP HW.out 1 x1 HX1.out; clear hb) | (refine gl_ 67 Tryz.func72 #[.string x1] rfl qb1 ?_; (refine (qhY x1 _ (by have := HS1.out; omega) (qba.below HG.out qam)).mono ?_); rintro e w3 ⟨nn, bb, rfl, hcs, hb⟩; refine ⟨_, rfl, ?_⟩; obtain rfl : bb = false := (by rcases hcs with ⟨-, h2_⟩ | ⟨h1_, -⟩; (rw [HNO.out] at h2_; exact absurd h2_ (by simp)); exact h1_); clear hcs; replace HB := ak_ (qaa qam hb); replace HW := HW.mw hb; have qpH : w3.cell? ⟨gw, 0, none⟩ = some (.string x0) := qcP HW.out 0 x0 HX0.out; have qpI : w3.cell? ⟨gw, 1, none⟩ = some (.string x1) := qcP HW.out 1 x1 HX1.out; clear hb))
         go_ret
         exact ⟨rfl, SM.out _ qam⟩
       | some n =>
         have H : (match numOf x1 with | none => some (rs, mo, (⟨#[119, 104, 97, 116]⟩ : ByteArray)) | some n => qck.f k rs mo c n) = some (rs', mo', txt) := h; rw [hno] at H; have HF := ak_ (show qck.f k rs mo c n = some (rs', mo', txt) from H); have HNO := ak_ hno; clear hno h H; go_enter Tryz.func45, Tryz.ntmps45
         go_wp2_with (first | (refine gl_ 16 Tryz.func68 #[.string s, .string ⟨#[32]⟩] rfl qb1 ?_; (refine (qdg s ⟨#[32]⟩ _ (by have := HS.out; omega) rfl (qba.below HG.out qam)).mono ?_); rintro e w1 ⟨vw, rfl, how, hb⟩; refine ⟨_, rfl, ?_⟩; have HW := ak_ (show Kd.R Kd.string 9 _ w.heap.size (fun _ => True) vw ws from qpL); obtain ⟨gw, cw, ew, -⟩ := Kd.qeX HW.out HWP.out; subst ew; replace HB := ak_ (qaa qam hb); have qg1 : w1.cell? ⟨gw, 0, none⟩ = some (.string x0) := qcP HW.out 0 x0 HX0.out; have qlj : w1.cell? ⟨gw, 1, none⟩ = some (.string x1) := qcP HW.out 1 x1 HX1.out; clear hb; clear how) | (refine gl_ 21 Tryz.func69 #[.string x0] rfl qb1 ?_; (refine ((qbE.calls x0 ⟨#[110]⟩ true _ qqM)).mono ?_); rintro e w2 ⟨rfl, hb⟩; refine ⟨_, rfl, ?_⟩; replace HB := ak_ (qaa qam hb); replace HW := HW.mw hb; have qg2 : w2.cell? ⟨gw, 0, none⟩ = some (.string x0) := qcP HW.out 0 x0 HX0.out; have qlk : w2.cell? ⟨gw, 1, none⟩ = some (.string x1) := qcP HW.out 1 x1 HX1.out; clear hb) | (refine gl_ 67 Tryz.func72 #[.string x1] rfl qb1 ?_; (refine (qhY x1 _ (by have := HS1.out; omega) (qba.below HG.out qam)).mono ?_); rintro e w3 ⟨nn, bb, rfl, hcs, hb⟩; refine ⟨_, rfl, ?_⟩; obtain ⟨rfl, rfl⟩ : n = nn ∧ bb = true := (by rcases hcs with ⟨h1_, h2_⟩ | ⟨-, h2_⟩; (rw [HNO.out] at h2_; exact ⟨Option.some.inj h2_, h1_⟩); (rw [HNO.out] at h2_; exact absurd h2_ (by simp))); clear hcs; replace HB := ak_ (qaa qam hb); replace HW := HW.mw hb; have qpH : w3.cell? ⟨gw, 0, none⟩ = some (.string x0) := qcP HW.out 0 x0 HX0.out; have qpI : w3.cell? ⟨gw, 1, none⟩ = some (.string x1) := qcP HW.out 1 x1 HX1.out; clear hb) | (refine gl_ 77 Tryz.func73 #[.pointer (some ⟨g, 0, none⟩), .string x0, .int .i64 n] rfl qb1 ?_; (refine ((show Calls _ _ _ _ _ from by rw [HWD.out]; exact qkV k base g rs mo c n rs' mo' txt _ (Nat.le_trans HBS.out (qab qam)) (SM.out _ qam).1 HLn.out (qba.below HG.out qam) HF.out)).mono ?_); rintro e w9 ⟨rfl, hD, hk⟩; refine ⟨_, rfl, ?_⟩; have HD := ak_ hD; have HKb := ak_ (qcu.trans (qcu.qbN qam g) hk); clear hD hk))
         go_ret
         exact ⟨rfl, HD.out, HKb.out⟩
      ·rw [hkd] at h htl; obtain ⟨x1, rfl⟩ := List.length_eq_one_iff.1 htl; have HX1 := ak_ (show ws[1]? = some x1 from by rw [hw0]; rfl); have HKD := ak_ hkd
       have hln : ws.length = 2 := by rw [hw0]; rfl
       have hlc : ((ws.length : Int) != 2) = false := bne_eq_false_iff_eq.2 (by omega); have hld : ((ws.length : Int) == 2) = true := beq_iff_eq.2 (by omega)
       have hlt1 : (1 : Int) < (ws.length : Int) := by omega
       have HS1 := ak_ (HWM.out x1 (by rw [hw0]; simp)); replace h : ((qaT.f k x1).bind fun q => if q.2 = true then ((if c.bytes = [97, 100, 100] then (if rs.length + q.1.length < 8796093022208 then some (rs ++ q.1) else none) else some q.1).bind fun xs => (qe3 k rs xs true).bind fun p => some (p.1, mo, p.2)) else some (rs, mo, (⟨#[119, 104, 97, 116]⟩ : ByteArray))) = some (rs', mo', txt) := h; obtain ⟨⟨xs, ok⟩, A1, h⟩ := qaw h; dsimp only at h
       cases ok with
       | false =>
         rw [if_neg (by decide)] at h; obtain ⟨rfl, rfl, rfl⟩ := qfI h; clear hkd htl hw0 hwl hln; go_enter Tryz.func45, Tryz.ntmps45
         go_wp2_with (first | (refine gl_ 16 Tryz.func68 #[.string s, .string ⟨#[32]⟩] rfl qb1 ?_; (refine (qdg s ⟨#[32]⟩ _ (by have := HS.out; omega) rfl (qba.below HG.out qam)).mono ?_); rintro e w1 ⟨vw, rfl, how, hb⟩; refine ⟨_, rfl, ?_⟩; have HW := ak_ (show Kd.R Kd.string 9 _ w.heap.size (fun _ => True) vw ws from qpL); obtain ⟨gw, cw, ew, -⟩ := Kd.qeX HW.out HWP.out; subst ew; replace HB := ak_ (qaa qam hb); have qg1 : w1.cell? ⟨gw, 0, none⟩ = some (.string x0) := qcP HW.out 0 x0 HX0.out; have qlj : w1.cell? ⟨gw, 1, none⟩ = some (.string x1) := qcP HW.out 1 x1 HX1.out; clear hb; clear how) | (refine gl_ 21 Tryz.func69 #[.string x0] rfl qb1 ?_; (refine ((qbE.calls x0 ⟨#[114]⟩ true _ qqM)).mono ?_); rintro e w2 ⟨rfl, hb⟩; refine ⟨_, rfl, ?_⟩; replace HB := ak_ (qaa qam hb); replace HW := HW.mw hb; have qg2 : w2.cell? ⟨gw, 0, none⟩ = some (.string x0) := qcP HW.out 0 x0 HX0.out; have qlk : w2.cell? ⟨gw, 1, none⟩ = some (.string x1) := qcP HW.out 1 x1 HX1.out; clear hb) | (refine gl_ 41 Tryz.func70 #[.string x1] rfl qb1 ?_; (refine (qaT.calls k x1 xs false _ A1.out (qba.below HG.out qam)).mono ?_); rintro e w3 ⟨vx, rfl, hox, hb⟩; refine ⟨_, rfl, ?_⟩; have HX := ak_ (Kd.qau hox (Nat.le_trans HBS.out (qab qam))); clear hox; obtain ⟨Ax, cx, ex⟩ := Kd.qaJ HX.out; subst ex; replace HB := ak_ (qaa qam hb); replace HW := HW.mw hb; have qpH : w3.cell? ⟨gw, 0, none⟩ = some (.string x0) := qcP HW.out 0 x0 HX0.out; have qpI : w3.cell? ⟨gw, 1, none⟩ = some (.string x1) := qcP HW.out 1 x1 HX1.out; clear hb))
         go_ret
         exact ⟨rfl, SM.out _ qam⟩
       | true =>
         rw [if_pos rfl] at h
         rcases Cmd.rule hkd with rfl | rfl
         ·rw [if_neg (by decide), Option.bind_some] at h; obtain ⟨⟨rs1, qi8⟩, A2, h⟩ := qaw h; dsimp only at h; obtain ⟨rfl, rfl, rfl⟩ := qfI h
          have hwx : x0.toList = [114, 117, 108, 101, 115] := by rw [HWD.out, toList_data]; rfl
          have hwy : (x0.toList == [97, 100, 100]) = false := by rw [hwx]; rfl
          clear hkd htl hw0 hwl hln hwx; go_enter Tryz.func45, Tryz.ntmps45
          go_wp2_with (first | (refine gl_ 16 Tryz.func68 #[.string s, .string ⟨#[32]⟩] rfl qb1 ?_; (refine (qdg s ⟨#[32]⟩ _ (by have := HS.out; omega) rfl (qba.below HG.out qam)).mono ?_); rintro e w1 ⟨vw, rfl, how, hb⟩; refine ⟨_, rfl, ?_⟩; have HW := ak_ (show Kd.R Kd.string 9 _ w.heap.size (fun _ => True) vw ws from qpL); obtain ⟨gw, cw, ew, -⟩ := Kd.qeX HW.out HWP.out; subst ew; replace HB := ak_ (qaa qam hb); have qg1 : w1.cell? ⟨gw, 0, none⟩ = some (.string x0) := qcP HW.out 0 x0 HX0.out; have qlj : w1.cell? ⟨gw, 1, none⟩ = some (.string x1) := qcP HW.out 1 x1 HX1.out; clear hb; clear how) | (refine gl_ 21 Tryz.func69 #[.string x0] rfl qb1 ?_; (refine ((qbE.calls x0 ⟨#[114]⟩ true _ qqM)).mono ?_); rintro e w2 ⟨rfl, hb⟩; refine ⟨_, rfl, ?_⟩; replace HB := ak_ (qaa qam hb); replace HW := HW.mw hb; have qg2 : w2.cell? ⟨gw, 0, none⟩ = some (.string x0) := qcP HW.out 0 x0 HX0.out; have qlk : w2.cell? ⟨gw, 1, none⟩ = some (.string x1) := qcP HW.out 1 x1 HX1.out; clear hb) | (refine gl_ 41 Tryz.func70 #[.string x1] rfl qb1 ?_; (refine (qaT.calls k x1 xs true _ A1.out (qba.below HG.out qam)).mono ?_); rintro e w3 ⟨vx, rfl, hox, hb⟩; refine ⟨_, rfl, ?_⟩; have HX := ak_ (Kd.qau hox (Nat.le_trans HBS.out (qab qam))); clear hox; obtain ⟨Ax, cx, ex⟩ := Kd.qaJ HX.out; subst ex; replace HB := ak_ (qaa qam hb); replace HW := HW.mw hb; have qpH : w3.cell? ⟨gw, 0, none⟩ = some (.string x0) := qcP HW.out 0 x0 HX0.out; have qpI : w3.cell? ⟨gw, 1, none⟩ = some (.string x1) := qcP HW.out 1 x1 HX1.out; clear hb) | (refine gl_ 60 Tryz.func71 #[.pointer (some ⟨g, 0, none⟩), .slice Ax xs.length cx, .bool true] rfl qb1 ?_; (refine (qeM k base g Ax cx xs true rs mo rs1 qi8 _ (SM.out _ qam).1 qmv A2.out).mono ?_); rintro e w9 ⟨rfl, hD, hk⟩; refine ⟨_, rfl, ?_⟩; have HD := ak_ hD; have HKb := ak_ (qcu.trans (qcu.qbN qam g) hk); clear hD hk))
          go_ret
          exact ⟨rfl, HD.out, HKb.out⟩
         rw [if_pos (show Cmd.cAdd.bytes = [97, 100, 100] from rfl)] at h; obtain ⟨ys, A0_, h⟩ := qaw h; obtain ⟨⟨rs1, qi8⟩, A2, h⟩ := qaw h; dsimp only at h; obtain ⟨rfl, rfl, rfl⟩ := qfI h
         have hwx : x0.toList = [97, 100, 100] := by rw [HWD.out, toList_data]; rfl
         have hwy : (x0.toList == [97, 100, 100]) = true := by rw [hwx]; rfl
         have hle := A0_.out; clear A0_; by_cases hlq : rs.length + xs.length < 8796093022208; rotate_left
         ·rw [if_neg hlq] at hle; exact absurd hle (by simp)
         rw [if_pos hlq] at hle; have HLq := ak_ hlq; have HYE := ak_ (Option.some.inj hle); clear hkd htl hw0 hwl hln hwx hle hlq; go_enter Tryz.func45, Tryz.ntmps45
         go_wp2_with (first | (refine gl_ 16 Tryz.func68 #[.string s, .string ⟨#[32]⟩] rfl qb1 ?_; (refine (qdg s ⟨#[32]⟩ _ (by have := HS.out; omega) rfl (qba.below HG.out qam)).mono ?_); rintro e w1 ⟨vw, rfl, how, hb⟩; refine ⟨_, rfl, ?_⟩; have HW := ak_ (show Kd.R Kd.string 9 _ w.heap.size (fun _ => True) vw ws from qpL); obtain ⟨gw, cw, ew, -⟩ := Kd.qeX HW.out HWP.out; subst ew; replace HB := ak_ (qaa qam hb); have qg1 : w1.cell? ⟨gw, 0, none⟩ = some (.string x0) := qcP HW.out 0 x0 HX0.out; have qlj : w1.cell? ⟨gw, 1, none⟩ = some (.string x1) := qcP HW.out 1 x1 HX1.out; clear hb; clear how) | (refine gl_ 21 Tryz.func69 #[.string x0] rfl qb1 ?_; (refine ((qbE.calls x0 ⟨#[114]⟩ true _ qqM)).mono ?_); rintro e w2 ⟨rfl, hb⟩; refine ⟨_, rfl, ?_⟩; replace HB := ak_ (qaa qam hb); replace HW := HW.mw hb; have qg2 : w2.cell? ⟨gw, 0, none⟩ = some (.string x0) := qcP HW.out 0 x0 HX0.out; have qlk : w2.cell? ⟨gw, 1, none⟩ = some (.string x1) := qcP HW.out 1 x1 HX1.out; clear hb) | (refine gl_ 41 Tryz.func70 #[.string x1] rfl qb1 ?_; (refine (qaT.calls k x1 xs true _ A1.out (qba.below HG.out qam)).mono ?_); rintro e w3 ⟨vx, rfl, hox, hb⟩; refine ⟨_, rfl, ?_⟩; have HX := ak_ (Kd.qau hox (Nat.le_trans HBS.out (qab qam))); clear hox; obtain ⟨Ax, cx, ex⟩ := Kd.qaJ HX.out; subst ex; replace HB := ak_ (qaa qam hb); replace HW := HW.mw hb; have qpH : w3.cell? ⟨gw, 0, none⟩ = some (.string x0) := qcP HW.out 0 x0 HX0.out; have qpI : w3.cell? ⟨gw, 1, none⟩ = some (.string x1) := qcP HW.out 1 x1 HX1.out; clear hb; have HBA := HB; have HB3 := ak_ (Below.refl w3.heap.size w3); have HXw := HX; clear HX) | ((with_reducible refine qak (N := 50) rfl ?_); refine li_ qaN 85 50 rfl (xs := ([] : List qac)) qbb ?_; intro vl50 w50 ho hb; have HV := ak_ (Kd.qau ho (qab k79_)); replace HB3 := ak_ (qaa k79_ hb); clear hb ho; clear HB HC HO; have HB := ak_ (qaa HBA.out HB3.out); have HC := ak_ (qao HCw.out HB.out); have HO := ak_ (Kd.qbx HOw.out HB.out); obtain ⟨hzw50_0, hzw50_1, hfw50_0, hfw50_1⟩ := qbG HC.out) | ((with_reducible refine qa3 (b := .append) (xs := #[.tmp 50, .tmp 54]) rfl ?_); at_builtin; refine Kd.qdK qaN (w0 := w3) w3.heap.size rfl (.tmp 50) (.tmp 54) 26 85 (.agg #[(.int .i64 0), (.int .i64 0)]) 16 rfl Tryz.underlying26 qcW rfl (by decide) (by omega) (vl50) [] rs _ _ _ (fun _ => True) (fun _ => False) rfl rfl ?aO ?aR (fun _ _ h => h) (fun _ h => h.elim) ?aF ?aB ?aS ?aL ?_; (case aR => exact qjk); (case aB => exact k79_); (case aF => exact (fun _ _ => trivial)); (case aO => exact (by apply_rules only [HV.out, Kd.qaq, Kd.qar, Kd.qaC])); (case aS => exact (qab k79_)); (case aL => have := HLn.out; have := HLq.out; (try simp only [List.length_nil]); omega); intro v55 w55 ho hb hg hat; rw [List.nil_append] at ho; have HV2 := ak_ ho; replace HB3 := ak_ hb; clear HV; clear ho hb hg hat; clear HB; have HB := ak_ (qaa HBA.out HB3.out); obtain ⟨Ay, cy, ey⟩ := Kd.qaJ HV2.out; subst ey) | ((with_reducible refine qa3 (b := .append) (xs := #[.tmp 55, .tmp 56]) rfl ?_); at_builtin; refine Kd.qdK qaN (w0 := w3) w3.heap.size rfl (.tmp 55) (.tmp 56) 26 85 (.agg #[(.int .i64 0), (.int .i64 0)]) 16 rfl Tryz.underlying26 qcW rfl (by decide) (by omega) (.slice Ay rs.length cy) rs xs _ _ _ (fun _ => True) (fun _ => False) rfl rfl ?aO ?aR (fun _ _ h => h) (fun _ h => h.elim) ?aF ?aB ?aS ?aL ?_; (case aR => exact (Kd.qei (Kd.R_reads' HXw.out).2.2 k79_)); (case aB => exact k79_); (case aF => exact (fun _ _ => trivial)); (case aO => exact (by apply_rules only [HV2.out, Kd.qaq, Kd.qar, Kd.qaC])); (case aS => exact (qab k79_)); (case aL => have := HLn.out; have := HLq.out; (try simp only [List.length_nil]); omega); intro v57 w57 ho hb hg hat; rw [HYE.out] at ho; have HXx := ak_ ho; replace HB3 := ak_ hb; clear HV2; clear ho hb hg hat; clear HB; have HB := ak_ (qaa HBA.out HB3.out); have HX := ak_ (Kd.qau HXx.out (Nat.le_trans HBS.out (qab HBA.out))); clear HXx; obtain ⟨Az, cz, ez⟩ := Kd.qaJ HX.out; subst ez) | (refine gl_ 60 Tryz.func71 #[.pointer (some ⟨g, 0, none⟩), .slice Az ys.length cz, .bool true] rfl qb1 ?_; (refine (qeM k base g Az cz ys true rs mo rs1 qi8 _ (SM.out _ qam).1 qmv A2.out).mono ?_); rintro e w9 ⟨rfl, hD, hk⟩; refine ⟨_, rfl, ?_⟩; have HD := ak_ hD; have HKb := ak_ (qcu.trans (qcu.qbN qam g) hk); clear hD hk))
         go_ret
         exact ⟨rfl, HD.out, HKb.out⟩
      rw [hkd] at h htl; obtain ⟨x1, rfl⟩ := List.length_eq_one_iff.1 htl; have HX1 := ak_ (show ws[1]? = some x1 from by rw [hw0]; rfl); have HKD := ak_ hkd
      have hln : ws.length = 2 := by rw [hw0]; rfl
      have hlc : ((ws.length : Int) != 2) = false := bne_eq_false_iff_eq.2 (by omega); have hld : ((ws.length : Int) == 2) = true := beq_iff_eq.2 (by omega)
      have hlt1 : (1 : Int) < (ws.length : Int) := by omega
      have HS1 := ak_ (HWM.out x1 (by rw [hw0]; simp)); clear hkd htl hw0 hwl hln; replace h : ((qb9.f x1).bind fun q => if q.2.2 = true then ((qc1.f k q.1 q.2.1).bind fun u => (qaE.f k u.1).bind fun z => (qbX.f z u.2).bind fun z => some (rs, mo, z)) else some (rs, mo, (⟨#[110, 111]⟩ : ByteArray))) = some (rs', mo', txt) := h; obtain ⟨⟨pa, pb, pok⟩, A1, h⟩ := qaw h; dsimp only at h
      cases pok with
      | false =>
        rw [if_neg (by decide)] at h; obtain ⟨rfl, rfl, rfl⟩ := qfI h; go_enter Tryz.func45, Tryz.ntmps45
        go_wp2_with (first | (refine gl_ 16 Tryz.func68 #[.string s, .string ⟨#[32]⟩] rfl qb1 ?_; (refine (qdg s ⟨#[32]⟩ _ (by have := HS.out; omega) rfl (qba.below HG.out qam)).mono ?_); rintro e w1 ⟨vw, rfl, how, hb⟩; refine ⟨_, rfl, ?_⟩; have HW := ak_ (show Kd.R Kd.string 9 _ w.heap.size (fun _ => True) vw ws from qpL); obtain ⟨gw, cw, ew, -⟩ := Kd.qeX HW.out HWP.out; subst ew; replace HB := ak_ (qaa qam hb); have qg1 : w1.cell? ⟨gw, 0, none⟩ = some (.string x0) := qcP HW.out 0 x0 HX0.out; have qlj : w1.cell? ⟨gw, 1, none⟩ = some (.string x1) := qcP HW.out 1 x1 HX1.out; clear hb; clear how) | (refine gl_ 21 Tryz.func69 #[.string x0] rfl qb1 ?_; (refine ((qbE.calls x0 ⟨#[115]⟩ true _ qqM)).mono ?_); rintro e w2 ⟨rfl, hb⟩; refine ⟨_, rfl, ?_⟩; replace HB := ak_ (qaa qam hb); replace HW := HW.mw hb; have qg2 : w2.cell? ⟨gw, 0, none⟩ = some (.string x0) := qcP HW.out 0 x0 HX0.out; have qlk : w2.cell? ⟨gw, 1, none⟩ = some (.string x1) := qcP HW.out 1 x1 HX1.out; clear hb) | (refine gl_ 84 Tryz.func74 #[.string x1] rfl qb1 ?_; (refine (qb9.calls x1 pa pb false _ A1.out (qba.below HG.out qam).1).mono ?_); rintro e w4 ⟨rfl, hb⟩; refine ⟨_, rfl, ?_⟩; replace HB := ak_ (qaa qam hb); clear hb) | ((with_reducible refine qak (N := 12) rfl ?_); refine bx_ 12 rfl (cs := #[.string (⟨#[]⟩ : ByteArray), .int .i64 0]) (t := 99) qbb ?_; intro gQ hg w5 hbox hb; have HGQ := ak_ (show w.heap.size ≤ gQ from qsi); have hz0 : w5.cell? ⟨gQ, 0, none⟩ = some (.string (⟨#[]⟩ : ByteArray)) := (qa7 hbox 0).trans rfl; have hz1 : w5.cell? ⟨gQ, 1, none⟩ = some (.int .i64 0) := (qa7 hbox 1).trans rfl; have hf0 := qad hbox 0; have hf1 := qad hbox 1; replace HB := ak_ (qaa qam hb); clear hb hbox hg))
        go_ret
        exact ⟨rfl, SM.out _ (qap (qap HB.out HGQ.out) HGQ.out)⟩
      | true =>
        rw [if_pos rfl] at h; obtain ⟨⟨xs, ok⟩, A2, h⟩ := qaw h; dsimp only at h; obtain ⟨z1, A3, h⟩ := qaw h; obtain ⟨z, A4, h⟩ := qaw h; obtain ⟨rfl, rfl, rfl⟩ := qfI h; go_enter Tryz.func45, Tryz.ntmps45
        go_wp2_with (first | (refine gl_ 16 Tryz.func68 #[.string s, .string ⟨#[32]⟩] rfl qb1 ?_; (refine (qdg s ⟨#[32]⟩ _ (by have := HS.out; omega) rfl (qba.below HG.out qam)).mono ?_); rintro e w1 ⟨vw, rfl, how, hb⟩; refine ⟨_, rfl, ?_⟩; have HW := ak_ (show Kd.R Kd.string 9 _ w.heap.size (fun _ => True) vw ws from qpL); obtain ⟨gw, cw, ew, -⟩ := Kd.qeX HW.out HWP.out; subst ew; replace HB := ak_ (qaa qam hb); have qg1 : w1.cell? ⟨gw, 0, none⟩ = some (.string x0) := qcP HW.out 0 x0 HX0.out; have qlj : w1.cell? ⟨gw, 1, none⟩ = some (.string x1) := qcP HW.out 1 x1 HX1.out; clear hb; clear how) | (refine gl_ 21 Tryz.func69 #[.string x0] rfl qb1 ?_; (refine ((qbE.calls x0 ⟨#[115]⟩ true _ qqM)).mono ?_); rintro e w2 ⟨rfl, hb⟩; refine ⟨_, rfl, ?_⟩; replace HB := ak_ (qaa qam hb); replace HW := HW.mw hb; have qg2 : w2.cell? ⟨gw, 0, none⟩ = some (.string x0) := qcP HW.out 0 x0 HX0.out; have qlk : w2.cell? ⟨gw, 1, none⟩ = some (.string x1) := qcP HW.out 1 x1 HX1.out; clear hb) | (refine gl_ 84 Tryz.func74 #[.string x1] rfl qb1 ?_; (refine (qb9.calls x1 pa pb true _ A1.out (qba.below HG.out qam).1).mono ?_); rintro e w4 ⟨rfl, hb⟩; refine ⟨_, rfl, ?_⟩; replace HB := ak_ (qaa qam hb); clear hb) | ((with_reducible refine qak (N := 12) rfl ?_); refine bx_ 12 rfl (cs := #[.string (⟨#[]⟩ : ByteArray), .int .i64 0]) (t := 99) qbb ?_; intro gQ hg w5 hbox hb; have HGQ := ak_ (show w.heap.size ≤ gQ from qsi); have hz0 : w5.cell? ⟨gQ, 0, none⟩ = some (.string (⟨#[]⟩ : ByteArray)) := (qa7 hbox 0).trans rfl; have hz1 : w5.cell? ⟨gQ, 1, none⟩ = some (.int .i64 0) := (qa7 hbox 1).trans rfl; have hf0 := qad hbox 0; have hf1 := qad hbox 1; replace HB := ak_ (qaa qam hb); clear hb hbox hg) | (refine gl_ 91 Tryz.func75 #[.agg #[.string pa, .int .i64 pb]] rfl qb1 ?_; (refine (qc1.calls k pa pb xs ok _ A2.out).mono ?_); rintro e w6 ⟨vx, rfl, hox, hb⟩; refine ⟨_, rfl, ?_⟩; have hB2 := qaa (w := w) (by first | exact (qap (qap HB.out HGQ.out) HGQ.out) | apply_rules only [qai, qaf, qah, (qap (qap HB.out HGQ.out) HGQ.out)]) hb; have HX := ak_ (Kd.qau hox (Nat.le_trans HBS.out (by first | exact qab (qap (qap HB.out HGQ.out) HGQ.out) | exact qab (by apply_rules only [qai, qaf, qah, (qap (qap HB.out HGQ.out) HGQ.out)])))); clear HB hox hb; have HB := ak_ hB2; clear hB2; obtain ⟨Ax, cx, ex⟩ := Kd.qaJ HX.out; subst ex) | (refine gl_ 95 Tryz.func54 #[.slice Ax xs.length cx] rfl qb1 ?_; (refine (qaE.calls k _ _ xs z1 _ qqq (Kd.R_reads' HX.out).2.1 A3.out).mono ?_); rintro e w7 ⟨rfl, hb⟩; refine ⟨_, rfl, ?_⟩; replace HB := ak_ (qaa qam hb); clear hb) | (refine gl_ 97 Tryz.func76 #[.string z1, .bool ok] rfl qb1 ?_; (refine ((qbX.calls z1 ok z _ A4.out)).mono ?_); rintro e w8 ⟨rfl, hd_⟩; refine ⟨_, rfl, ?_⟩; have hb := hd_.below; clear hd_; replace HB := ak_ (qaa qam hb); clear hb))
        go_ret
        exact ⟨rfl, SM.out _ qam⟩
def qgt.f  : Option ((List (qac)) × Int) := some ((([(⟨2, 0⟩ : qac), (⟨3, 0⟩ : qac)] : List (qac))), 30)
theorem qgt.calls  (r1 : List (qac)) (r2 : Int) (w : World) (h : qgt.f  = some (r1, r2)) :
  Calls Tryz.prog 58 #[] w fun e w' => ∃ v0_ : Value, e = .returned (.agg #[v0_, .int .i64 r2]) ∧ Kd.R qaN 85 w' w.heap.size (fun _ => True) v0_ r1 ∧ Below w.heap.size w w' := by
 have hu28 := Tryz.underlying28; have qms := Tryz.underlying85; have HB := ak_ (Below.refl w.heap.size w); have H : (some ((([(⟨2, 0⟩ : qac), (⟨3, 0⟩ : qac)] : List (qac))), 30)) = some (r1, r2) := h; clear h
 obtain ⟨qh1, hy_⟩ : ∃ y_ : List (qac), y_ = (([(⟨2, 0⟩ : qac), (⟨3, 0⟩ : qac)] : List (qac))) := ⟨_, rfl⟩
 replace H : (some (qh1, 30)) = some (r1, r2) := qe6; have qgq := ak_ hy_; clear hy_; obtain ⟨rfl, rfl⟩ := qdI H; go_enter Tryz.func58, Tryz.ntmps58
 go_wp2_with (first | ((with_reducible refine qak (N := 0) rfl ?_); refine bx_ 0 rfl (cs := #[.slice none 0 0, .int .i64 0]) (t := 28) qbb ?_; intro qb8 hg w1 hbox hb; have qaF := ak_ (hbox); have qeJ := ak_ (HB.ge hg); have qen := ak_ (HB.ge hg); replace HB := HB.mw hb; clear hb hbox hg) | ((with_reducible refine qak (N := 3) rfl ?_); refine Kd.qg9 qaN _ 85 ?hg (N := 3) ?hd (xs := ([(⟨2, 0⟩ : qac), (⟨3, 0⟩ : qac)] : List (qac))) (inner := [.int .i64 2, .int .i64 0, .int .i64 3, .int .i64 0]) (ok := fun _ => True) (okp := fun _ => True) ?hr ?hp (fun _ hk => hk) trivial (Below.refl _ _) (Nat.le_refl _) (by simp) ?_; (case hd => rfl); (case hg => rfl); (case hr => exact qbb); (case hp => exact (qd9.c2 (show Kd.M qaN _ _ _ (⟨2, 0⟩ : qac) [.int .i64 2, .int .i64 0] from (qdo _ _ _ (⟨2, 0⟩ : qac) )) (qd9.c2 (show Kd.M qaN _ _ _ (⟨3, 0⟩ : qac) [.int .i64 3, .int .i64 0] from (qdo _ _ _ (⟨3, 0⟩ : qac) )) (qd9.none _ _)))); intro qhg w2 ho3 hb hg_ hnew_; clear hg_ hnew_; (first | rw [← qgq.out] at ho3 | (simp only [Int.reduceToNat] at ho3; rw [← qgq.out] at ho3)); have qbW := ak_ (Kd.qau ho3 (qab qdt)); replace qaF := qaF.mw hb; replace HB := ak_ (qaa qdt hb); clear hb ho3; obtain ⟨Ao4, co4, eo4⟩ := Kd.qaJ qbW.out; subst eo4; obtain ⟨qrK, qrL, qrS, qrT⟩ := qbG qaF.out))
 refine bodyPost_ret (results_cell_row rfl _ _ qb8 28 #[.slice Ao4 qh1.length co4, .int .i64 30] (0, 0) _ rfl (by (with_reducible repeat (first | refine qal ?_ _ | refine qan ?_ | refine qaj ?_ _)); refine qbp (cs := #[.slice Ao4 qh1.length co4, .int .i64 0]) ?_ 1 _ rfl; (with_reducible repeat (first | refine qal ?_ _ | refine qan ?_ | refine qaj ?_ _)); refine qbp (cs := #[.slice none 0 0, .int .i64 0]) ?_ 0 _ rfl; apply_rules only [qaF.out, qal, qan, qaj]) Tryz.underlying28 rfl (by kernel_rfl)) rfl ?_; exact ⟨_, qce, by (with_reducible repeat (first | apply Kd.qaq | apply Kd.qar | apply Kd.qaC)); exact Kd.qa8 (Kd.qc7 (p := ⟨qb8, 1, none⟩) (Kd.qc7 (p := ⟨qb8, 0, none⟩) (Kd.qcH qbW.out qaF.out (by decide)) (fun _ hk => hk.2) (.slice Ao4 qh1.length co4)) (fun _ hk => hk.2) (.int .i64 30)) (fun _ hk => trivial), qdt⟩
def qbe.l0 (k : Nat) : Nat → List qac → Int → ByteArray → List ByteArray → Option (List ByteArray × List qac × Int × Bool)
  | 0, _, _, _, _ => none
  | n + 1, rs, mo, s, out => if s.toList = [] then some (out, rs, mo, true) else (if (Lib.cut s.data.toList [10]).2.2 = true then (if out.length = 50 then some ([], [], 0, false) else ((qfn.f k rs mo ⟨(Lib.cut s.data.toList [10]).1.toArray⟩).bind fun p => qbe.l0 k n p.1 p.2.1 ⟨(Lib.cut s.data.toList [10]).2.1.toArray⟩ (out ++ [p.2.2]))) else some ([], [], 0, false))
def qbe.f (k : Nat) (s : ByteArray) : Option (List ByteArray × List qac × Int × Bool) := if s.size ≤ 3000 then qbe.l0 k k ([⟨2, 0⟩, ⟨3, 0⟩] : List qac) 30 s [] else some ([], [], 0, false)
theorem qbe.calls (k : Nat) (s : ByteArray) (r1 : List ByteArray) (r2 : List qac) (r3 : Int) (r4 : Bool) (w : World) (h : qbe.f k s = some (r1, r2, r3, r4)) (hG : qba w) :
    Calls Tryz.prog 56 #[.string s] w fun e w' => ∃ v0_ v1_ : Value, e = .returned (.tuple #[v0_, .agg #[v1_, .int .i64 r3], .bool r4]) ∧ Kd.R Kd.string 9 w' w.heap.size (fun _ => True) v0_ r1 ∧ Kd.R qaN 85 w' w.heap.size (fun _ => True) v1_ r2 ∧ Below w.heap.size w w' := by
  have hu := Tryz.underlying28; have HG := ak_ hG; have HB := ak_ (Below.refl w.heap.size w); clear hG; unfold qbe.f at h; by_cases hs : s.size ≤ 3000; rotate_left
  ·rw [if_neg hs] at h; have hsb : decide (3000 < (s.size : Int)) = true := decide_eq_true (by omega); have hsc : decide (3000 < s.size) = true := decide_eq_true (by omega); have H := h; clear h hs; obtain ⟨rfl, rfl, rfl, rfl⟩ := pj4_ H; go_enter Tryz.func56, Tryz.ntmps56
   go_wp2_with (first | ((with_reducible refine qak (N := 3) rfl ?_); refine bx_ 3 rfl (cs := #[.slice none 0 0, .int .i64 0]) (t := 28) qbb ?_; intro g3 hg w3 hbox hb; have B3 := ak_ hbox; have G3 := ak_ (show w.heap.size ≤ g3 from qsi); replace HB := ak_ (qaa qam hb); obtain ⟨hqw3_0, fqw3_0⟩ := qcv B3.out; have hqw3_1 := qbB B3.out; have fqw3_1 := qad B3.out 1; clear hb hbox hg))
   refine bodyPost_ret (qb5 (rs := [.tmp 2, .cell 3 28, .tmp 4]) rfl (by simp) (.tmp (.cell g3 28 #[.slice none 0 0, .int .i64 0] (0, 0) _ rfl k52_ Tryz.underlying28 rfl (by kernel_rfl) (.tmp .nil)))) rfl ?_; exact ⟨_, _, rfl, Kd.qfO _ _ _ _ _, Kd.qfO _ _ _ _ _, (by apply_rules only [HB.out, qai, qaf, qah, qap, G3.out])⟩
  rw [if_pos hs] at h; have hsb : decide (3000 < (s.size : Int)) = false := decide_eq_false (by omega); have hsc : decide (3000 < s.size) = false := decide_eq_false (by omega); have HS0 := ak_ hs; have H' := ak_ h; clear h hs; go_enter Tryz.func56, Tryz.ntmps56
  go_wp2_with (first | ((with_reducible refine qak (N := 3) rfl ?_); refine bx_ 3 rfl (cs := #[.slice none 0 0, .int .i64 0]) (t := 28) qbb ?_; intro g3 hg w3 hbox hb; have B3 := ak_ hbox; have G3 := ak_ (show w.heap.size ≤ g3 from qsi); replace HB := ak_ (qaa qam hb); obtain ⟨hqw3_0, fqw3_0⟩ := qcv B3.out; have hqw3_1 := qbB B3.out; have fqw3_1 := qad B3.out 1; clear hb hbox hg) | (refine gl_ 14 Tryz.func58 #[] rfl qb1 ?_; (refine ((qgt.calls _ _ _ rfl)).mono ?_); rintro e w4 ⟨v0, rfl, ho, hb⟩; refine ⟨_, rfl, ?_⟩; have HO := ak_ (Kd.qau ho (qab qam)); replace B3 := B3.mw hb; replace HB := ak_ (qaa qam hb); obtain ⟨A0, c0, eo⟩ := Kd.qaJ HO.out; subst eo; clear ho hb) | ((with_reducible refine qak (N := 5) rfl ?_); refine bx_ 5 rfl (cs := #[.slice none 0 0, .int .i64 0]) (t := 28) qbb ?_; intro g5 hg w5 hbox hb; have B5 := ak_ hbox; have G5 := ak_ (show w.heap.size ≤ g5 from qsi); have NE := ak_ (show g3 ≠ g5 from by rw [hg]; exact Nat.ne_of_lt (qdT k97_)); replace B3 := B3.mw hb; replace HO := HO.mw hb; replace HB := ak_ (qaa qam hb); obtain ⟨hdw5_0, fdw5_0⟩ := qcv B5.out; have hdw5_1 := qbB B5.out; have fdw5_1 := qad B5.out 1; clear hb hbox hg) | ((with_reducible refine qak (N := 15) rfl ?_); refine li_ Kd.string 9 15 rfl (xs := ([] : List ByteArray)) qbb ?_; intro vl15 w15 ho hb; have hW : Below w.heap.size w ((w5.setCell ⟨g5, 0, none⟩ (.slice A0 2 c0)).setCell ⟨g5, 1, none⟩ (.int .i64 30)) := qap (qap qam G5.out) G5.out; have HV := ak_ (Kd.qau ho (qab hW)); have HD := ak_ (show qfD w15 w.heap.size g5 ([⟨2, 0⟩, ⟨3, 0⟩] : List qac) 30 from ⟨A0, c0, qao (qbp (qbp (by apply_rules only [B5.out, qal, qan, qaj]) 0 _ rfl) 1 _ rfl) hb, Kd.qbx (Kd.qgJ (Kd.qgJ k94_ (by apply_rules only [B5.out, qal, qan, qaj]) (by decide) 0 _) (qbp (by apply_rules only [B5.out, qal, qan, qaj]) 0 _ rfl) (by decide) 1 _) hb⟩); have B3_ := ak_ (qao (qcY (qcY k97_ (by exact NE.out) _) (by exact NE.out) _) hb); clear B3; have B3 := B3_; clear B3_; replace HB := ak_ (qaa hW hb); clear hb ho hW))
  go_loopg [0, 6] k (fun kq v0 v6 w' => ∃ (s_1 : ByteArray) (qfS : List ByteArray) (rs : List qac) (mo : Int), v0 = .string s_1 ∧ qag (qbe.l0 k kq rs mo s_1 qfS = some (r1, r2, r3, r4)) ∧ qag (kq ≤ k) ∧ qag (s_1.size ≤ 3000) ∧ qag (qfS.length ≤ 50) ∧ qag (qfD w' w.heap.size g5 rs mo) ∧ qag (w'.heap[g3]? = some (.cells #[.slice none 0 0, .int .i64 0] 28 (0, 0))) ∧ qag (Kd.R Kd.string 9 w' w.heap.size (fun _ => True) v6 qfS) ∧ qag (Below w.heap.size w w'))
  case atStart => exact ⟨s, [], ([⟨2, 0⟩, ⟨3, 0⟩] : List qac), 30, rfl, H', ⟨Nat.le_refl _⟩, HS0, ⟨by simp⟩, HD, B3, HV, HB⟩
  case round =>
    clear H' HD B3 HV HB HO; (try clear B5); obtain ⟨s_1, qfS, rs, mo, rfl, HA, HK1, HSZ, HLO, HD, B3, qfv, HB⟩ := hrel; obtain ⟨A0, c0, hC5, hO5⟩ := HD.out; have B5 := ak_ hC5; have HO := ak_ hO5; clear hC5 hO5 HD; obtain ⟨hqwr_0, fqwr_0⟩ := qcv B3.out; have hqwr_1 := qbB B3.out; have fqwr_1 := qad B3.out 1; obtain ⟨hdwr_0, fdwr_0⟩ := qcv B5.out; have hdwr_1 := qbB B5.out; have fdwr_1 := qad B5.out 1
    cases gk with
    | zero => exact absurd HA.out (by simp [qbe.l0])
    | succ k1 =>
      have H := HA.out; clear HA; unfold qbe.l0 at H; by_cases hd : s_1.toList = []
      ·rw [if_pos hd] at H; have hdb : (s_1.toList != []) = false := bne_eq_false_iff_eq.2 hd; have hdc : (s_1.toList == []) = true := beq_iff_eq.2 hd; clear hd; obtain ⟨rfl, rfl, rfl, rfl⟩ := pj4_ H; obtain ⟨A6, c6, e6⟩ := Kd.qaJ qfv.out; subst e6; go_wp2
       go_region
       all_goals (go_wp2; refine bodyPost_ret (qb5 (rs := [.tmp 2, .cell 3 28, .tmp 4]) rfl (by simp) (.tmp (.cell g3 28 #[.slice A0 rs.length c0, .int .i64 mo] (0, 0) _ rfl k52_ Tryz.underlying28 rfl (by kernel_rfl) (.tmp .nil)))) rfl ?_; exact ⟨_, _, rfl, (by (with_reducible repeat (first | apply Kd.qaq | apply Kd.qar | apply Kd.qaC)); exact (Kd.qa8 (Kd.qc7 (p := ⟨g3, 1, none⟩) (Kd.qc7 (p := ⟨g3, 0, none⟩) (Kd.qcH qoK k97_ (by decide)) (fun _ hk => hk.2) _) (fun _ hk => hk.2) _) (fun _ _ => trivial))), (by (with_reducible repeat (first | apply Kd.qaq | apply Kd.qar | apply Kd.qaC)); exact (Kd.qa8 (Kd.qc7 (p := ⟨g3, 1, none⟩) (Kd.qc7 (p := ⟨g3, 0, none⟩) (Kd.qcH k94_ k97_ (by decide)) (fun _ hk => hk.2) _) (fun _ hk => hk.2) _) (fun _ _ => trivial))), (by apply_rules only [HB.out, qai, qaf, qah, qap, G3.out])⟩)
      rw [if_neg hd] at H; have hdb : (s_1.toList != []) = true := bne_iff_ne.2 hd; have hdc : (s_1.toList == []) = false := beq_eq_false_iff_ne.2 hd; have hl2 := qod s_1.data.toList [10]
      obtain ⟨bf, hbf⟩ : ∃ x_ : ByteArray, x_ = ⟨(Lib.cut s_1.data.toList [10]).1.toArray⟩ := ⟨_, rfl⟩
      obtain ⟨nb, hnb⟩ : ∃ x_ : ByteArray, x_ = ⟨(Lib.cut s_1.data.toList [10]).2.1.toArray⟩ := ⟨_, rfl⟩
      obtain ⟨okc, hok⟩ : ∃ x_ : Bool, (Lib.cut s_1.data.toList [10]).2.2 = x_ := ⟨_, rfl⟩
      have hnd : nb.data.toList = (Lib.cut s_1.data.toList [10]).2.1 := by rw [hnb]
      have HNS := ak_ (show nb.size ≤ 3000 from by have h_ := HSZ.out; rw [qmh] at h_ ⊢; rw [hnd]; omega); rw [← hbf, ← hnb, hok] at H; have HBF := ak_ hbf; have HNB := ak_ hnb; have HOK := ak_ hok; clear hbf hnb hok hnd hl2 hd; obtain ⟨A6, c6, e6⟩ := Kd.qaJ qfv.out; subst e6
      cases okc with
      | false =>
        rw [if_neg (by decide)] at H; obtain ⟨rfl, rfl, rfl, rfl⟩ := pj4_ H
        go_wp2_with (first | (refine gl_ 20 Tryz.func90 #[.string s_1, .string ⟨#[10]⟩] rfl qb1 ?_; (refine (qh4 s_1 10 _ (by have := HSZ.out; omega) (qba.below HG.out qam).1).mono ?_); rintro e w20 ⟨rfl, hb⟩; refine ⟨_, rfl, ?_⟩; replace B3 := B3.mw hb; replace B5 := B5.mw hb; replace HO := HO.mw hb; replace qfv := qfv.mw hb; replace HB := ak_ (qaa qam hb); obtain ⟨qrZ, qrv⟩ := qcv B3.out; have qr0 := qbB B3.out; have qrw := qad B3.out 1; obtain ⟨qrM, qrt⟩ := qcv B5.out; have qrN := qbB B5.out; have qru := qad B5.out 1; rw [← HBF.out, ← HNB.out, HOK.out]; clear hb))
        refine bodyPost_ret (qb5 (rs := [.tmp 2, .cell 3 28, .tmp 4]) rfl (by simp) (.tmp (.cell g3 28 #[.slice none 0 0, .int .i64 0] (0, 0) _ rfl k52_ Tryz.underlying28 rfl (by kernel_rfl) (.tmp .nil)))) rfl ?_; exact ⟨_, _, rfl, Kd.qfO _ _ _ _ _, Kd.qfO _ _ _ _ _, (by apply_rules only [HB.out, qai, qaf, qah, qap, G3.out])⟩
      | true =>
        rw [if_pos rfl] at H; by_cases hl : qfS.length = 50
        ·rw [if_pos hl] at H; have hlb : ((qfS.length : Int) == 50) = true := beq_iff_eq.2 (by omega); clear hl; obtain ⟨rfl, rfl, rfl, rfl⟩ := pj4_ H
         go_wp2_with (first | (refine gl_ 20 Tryz.func90 #[.string s_1, .string ⟨#[10]⟩] rfl qb1 ?_; (refine (qh4 s_1 10 _ (by have := HSZ.out; omega) (qba.below HG.out qam).1).mono ?_); rintro e w20 ⟨rfl, hb⟩; refine ⟨_, rfl, ?_⟩; replace B3 := B3.mw hb; replace B5 := B5.mw hb; replace HO := HO.mw hb; replace qfv := qfv.mw hb; replace HB := ak_ (qaa qam hb); obtain ⟨qrZ, qrv⟩ := qcv B3.out; have qr0 := qbB B3.out; have qrw := qad B3.out 1; obtain ⟨qrM, qrt⟩ := qcv B5.out; have qrN := qbB B5.out; have qru := qad B5.out 1; rw [← HBF.out, ← HNB.out, HOK.out]; clear hb))
         refine bodyPost_ret (qb5 (rs := [.tmp 2, .cell 3 28, .tmp 4]) rfl (by simp) (.tmp (.cell g3 28 #[.slice none 0 0, .int .i64 0] (0, 0) _ rfl k52_ Tryz.underlying28 rfl (by kernel_rfl) (.tmp .nil)))) rfl ?_; exact ⟨_, _, rfl, Kd.qfO _ _ _ _ _, Kd.qfO _ _ _ _ _, (by apply_rules only [HB.out, qai, qaf, qah, qap, G3.out])⟩
        rw [if_neg hl] at H; have hlb : ((qfS.length : Int) == 50) = false := beq_eq_false_iff_ne.2 (by omega); obtain ⟨⟨rs2, mo2, txt⟩, A1, H⟩ := qaw H; have HLO2 := ak_ (show (qfS ++ [txt]).length ≤ 50 from by have := HLO.out; rw [List.length_append]; simp only [List.length_cons, List.length_nil]; omega); have H' := ak_ H; clear hl H
        go_wp2_with (first | (refine gl_ 20 Tryz.func90 #[.string s_1, .string ⟨#[10]⟩] rfl qb1 ?_; (refine (qh4 s_1 10 _ (by have := HSZ.out; omega) (qba.below HG.out qam).1).mono ?_); rintro e w20 ⟨rfl, hb⟩; refine ⟨_, rfl, ?_⟩; replace B3 := B3.mw hb; replace B5 := B5.mw hb; replace HO := HO.mw hb; replace qfv := qfv.mw hb; replace HB := ak_ (qaa qam hb); obtain ⟨qrZ, qrv⟩ := qcv B3.out; have qr0 := qbB B3.out; have qrw := qad B3.out 1; obtain ⟨qrM, qrt⟩ := qcv B5.out; have qrN := qbB B5.out; have qru := qad B5.out 1; rw [← HBF.out, ← HNB.out, HOK.out]; clear hb) | (refine gl_ 34 Tryz.func45 #[.pointer (some ⟨g5, 0, none⟩), .string bf] rfl qb1 ?_; (refine (qqu k w.heap.size g5 rs mo bf rs2 mo2 txt _ (qab qam) ⟨A0, c0, (by apply_rules only [B5.out, qal, qan, qaj]), k94_⟩ (qba.below HG.out qam) A1.out).mono ?_); rintro e w34 ⟨rfl, hD, hk⟩; refine ⟨_, rfl, ?_⟩; have HD := ak_ hD; have hB6 := Kd.qa8 (Kd.R_keep (Kd.qcH qoK (by apply_rules only [B5.out, qal, qan, qaj]) (by decide)) hk.1 (fun _ h_ => h_.2)) (fun _ _ => trivial); have hB3 := qeA.blk hk.1 k97_ NE.out (by simp); have hB2 := qcu.below qam hk G5.out (qab qam); clear qfv B3 HB B5 HO; have qfv := ak_ hB6; have B3 := ak_ hB3; have HB := ak_ hB2; clear hD hk hB6 hB3 hB2) | ((with_reducible refine qa3 (b := .append) (xs := #[.tmp 32, .tmp 35]) rfl ?_); at_builtin; refine Kd.qc8 Kd.string (w0 := w) w.heap.size rfl (.tmp 32) (.tmp 35) 43 9 (.string ⟨#[]⟩) 16 rfl Tryz.underlying43 ql7 rfl (by decide) (by omega) (.slice A6 qfS.length c6) qfS txt [.string txt] (fun _ => True) (fun _ => False) rfl rfl ?aP (fun _ hk => hk.elim) ?aF ?aO ?aB ?aS ?aL ?_; (case aP => exact rfl); (case aB => exact qam); (case aF => exact (fun _ _ => trivial)); (case aO => exact qoK); (case aS => exact (qab qam)); (case aL => have := HLO.out; omega); intro v36 w36 ho hb hg hat; have HD2 := ak_ (show qfD w36 w.heap.size g5 rs2 mo2 from by obtain ⟨A_, c_, h1_, h2_⟩ := HD.out; exact ⟨A_, c_, qev (by apply_rules only [h1_, qal, qan, qaj]) hg (Kd.R_ne qoK (by apply_rules only [h1_, qal, qan, qaj]) (by decide)), Kd.R_over' (by apply_rules only [h2_, Kd.qaq, Kd.qar, Kd.qaC]) (Kd.qh3 qoK) (by decide) hg⟩); have B3_ := ak_ (qev k97_ hg (Kd.R_ne qoK k97_ (by decide))); clear HD B3 HB; have HD := HD2; have B3 := B3_; have HB := ak_ hb; have HO36 := ak_ ho; clear qfv HD2 B3_ ho hb hg hat))
        go_roundg k1
        case measure => have := HK1.out; omega
        case rel => exact ⟨nb, qfS ++ [txt], rs2, mo2, rfl, H', ⟨qc9⟩, HNS, HLO2, HD, B3, HO36, HB⟩
def qda.f (k : Nat) (a0 : ByteArray) : Option (List ByteArray × Bool) := (qbe.f k a0).bind fun qc6 => (some (qc6.1, qc6.2.2.2))
theorem qda.calls (k : Nat) (a0 : ByteArray) (r1 : List ByteArray) (r2 : Bool) (w : World) (h : qda.f k a0 = some (r1, r2)) (hG : qba w) :
  Calls Tryz.prog 23 #[.string a0] w fun e w' => ∃ v0_ : Value, e = .returned (.tuple #[v0_, .bool r2]) ∧ Kd.R Kd.string 9 w' w.heap.size (fun _ => True) v0_ r1 ∧ Below w.heap.size w w' := by
 have hu28 := Tryz.underlying28; have HB := ak_ (Below.refl w.heap.size w); have HG := ak_ hG; clear hG; have H : ((qbe.f k a0).bind fun qc6 => (some (qc6.1, qc6.2.2.2))) = some (r1, r2) := h; clear h; obtain ⟨⟨qas, qcf, t107, qsM⟩, A2, H⟩ := qaw H; (try dsimp only at H); obtain ⟨rfl, rfl⟩ := qdI H; go_enter Tryz.func23, Tryz.ntmps23
 go_wp2_with (first | (refine gl_ 9 Tryz.func56 #[.string a0] rfl qbK ?_; (refine (qbe.calls k a0 qas qcf t107 qsM _ A2.out (qba.below HG.out qam)).mono ?_); rintro e w3 ⟨qiq, v105, rfl, ho0, ho1, hb⟩; refine ⟨_, rfl, ?_⟩; have qdi := ak_ (Kd.qau ho0 (qab qam)); have qeK := ak_ (Kd.qau ho1 (qab qam)); replace HB := HB.mw hb; (try clear hb ho0 ho1)) | ((with_reducible refine qak (N := 5) rfl ?_); refine bx_ 5 rfl (cs := #[.slice none 0 0, .int .i64 0]) (t := 28) qbb ?_; intro qrD hg w4 hbox hb; replace qdi := qdi.mw hb; replace qeK := qeK.mw hb; have qqR := ak_ (hbox); have GW109 := ak_ (HB.ge hg); have GE109 := ak_ (HB.ge hg); replace HB := HB.mw hb; clear hb hbox hg; obtain ⟨Ao5, co5, eo5⟩ := Kd.qaJ qeK.out; subst eo5; obtain ⟨qj6, qj7, qj9, qka⟩ := qbG qqR.out))
 go_ret2
 exact ⟨_, qce, by (with_reducible repeat (first | apply Kd.qaq | apply Kd.qar | apply Kd.qaC)); exact Kd.qa8 (Kd.qc7 (p := ⟨qrD, 1, none⟩) (Kd.qc7 (p := ⟨qrD, 0, none⟩) (Kd.qcH qdi.out qqR.out (by decide)) (fun _ hk => hk.2) (.slice Ao5 qcf.length co5)) (fun _ hk => hk.2) (.int .i64 t107)) (fun _ hk => trivial), k77_⟩
def qbi.l0 : Nat → ByteArray → Int → List ByteArray → Int → Int → Option (List ByteArray)
 | 0, _, _, _, _, _ => none
 | k + 1, x0, x1, x5, x6, x7 => if x7 < (x0.size : Int) then (if 0 ≤ x7 then (if (bt x0 x7) = x1 then (if 0 ≤ x6 then (if x6 ≤ x7 then (if x7 ≤ (x0.size : Int) then (if x5.length < 8796093022208 then (qbi.l0 k x0 x1 (x5 ++ [x0.extract (x6 : Int).toNat (x7 : Int).toNat]) (wrap64 (x7 + 1)) (wrap64 (x7 + 1))) else (none)) else (none)) else (none)) else (none)) else (qbi.l0 k x0 x1 x5 x6 (wrap64 (x7 + 1)))) else (none)) else (if 0 ≤ x6 then (if x6 ≤ (x0.size : Int) then (if x5.length < 8796093022208 then (some (x5 ++ [x0.extract (x6 : Int).toNat x0.size])) else (none)) else (none)) else (none))
def qbi.f (k : Nat) (a0 : ByteArray) (a1 : Int) : Option (List ByteArray) := qbi.l0 k a0 a1 ([] : List ByteArray) 0 0
theorem qbi.calls (k : Nat) (a0 : ByteArray) (a1 : Int) (r : List ByteArray) (w : World) (h : qbi.f k a0 a1 = some r) :
  Calls Tryz.prog 39 #[.string a0, .int .u8 a1] w fun e w' => ∃ v0_ : Value, e = .returned (v0_) ∧ Kd.R Kd.string 9 w' w.heap.size (fun _ => True) v0_ r ∧ Below w.heap.size w w' := by
 have HB := ak_ (Below.refl w.heap.size w); have H : (qbi.l0 k a0 a1 ([] : List ByteArray) 0 0) = some r := h; clear h; have H' := ak_ H; clear H; go_enter Tryz.func39, Tryz.ntmps39; go_wp2
 go_loopg [5, 6, 7] k (fun kq v5 v6 v7 w' => ∃ (qbP : List ByteArray) (qcU : Int) (qcZ : Int), v6 = .int .i64 qcU ∧ v7 = .int .i64 qcZ ∧ qag (qbi.l0 kq a0 a1 qbP qcU qcZ = some r) ∧ qag (kq ≤ k) ∧ qag (Kd.R Kd.string 9 w' w.heap.size (fun _ => True) v5 qbP) ∧ qag (Below w.heap.size w w'))
 case atStart => exact ⟨(([] : List ByteArray)), (0), (0), qav, qav, H', ⟨Nat.le_refl _⟩, ⟨qg4⟩, ⟨qam⟩⟩
 case round =>
  clear H'; obtain ⟨qbP, qcU, qcZ, rfl, rfl, HA, HK1, qgy, HB⟩ := hrel
  cases gk with
  | zero => exact absurd HA.out (by simp [qbi.l0])
  | succ k1 =>
   have H := HA.out; clear HA; simp only [qbi.l0] at H; by_cases c3 : qcZ < (a0.size : Int); rotate_left
   ·rw [if_neg c3] at H; have qff : decide (qcZ < (a0.size : Int)) = false := decide_eq_false c3; clear c3; by_cases c12 : 0 ≤ qcU; rotate_left
    ·rw [if_neg c12] at H; exact absurd H (by simp)
    rw [if_pos c12] at H; have qhm := eq_true c12; have c12b1 : decide (0 ≤ qcU) = true := decide_eq_true c12; clear c12; by_cases c13 : qcU ≤ (a0.size : Int); rotate_left
    ·rw [if_neg c13] at H; exact absurd H (by simp)
    rw [if_pos c13] at H; have qlU := eq_true c13; have c13b1 : decide (qcU ≤ (a0.size : Int)) = true := decide_eq_true c13; clear c13; by_cases c14 : qbP.length < 8796093022208; rotate_left
    ·rw [if_neg c14] at H; exact absurd H (by simp)
    rw [if_pos c14] at H; have qnU := ak_ c14; clear c14
    obtain ⟨qgn, hy_⟩ : ∃ y_ : List ByteArray, y_ = (qbP ++ [a0.extract (qcU : Int).toNat a0.size]) := ⟨_, rfl⟩
    replace H : (some qgn) = some r := qe6; have qiu := ak_ hy_; clear hy_; obtain rfl := Option.some.inj H
    go_wp2_with (first | ((with_reducible refine qa3 (b := .append) (xs := #[.tmp 28, .tmp 32]) rfl ?_); at_builtin; refine Kd.qc8 Kd.string (w0 := w) w.heap.size rfl (.tmp 28) (.tmp 32) 43 9 (.string ⟨#[]⟩) 16 rfl Tryz.underlying43 ql7 rfl (by decide) (by omega) u5 qbP (a0.extract (qcU : Int).toNat a0.size) [.string (a0.extract (qcU : Int).toNat a0.size)] (fun _ => True) (fun _ => False) rfl rfl ?aP (fun _ hk => hk.elim) ?aF ?aO ?aB ?aS ?aL ?_; (case aP => exact rfl); (case aB => exact qam); (case aF => exact (fun _ _ => trivial)); (case aO => exact qnM); (case aS => exact (qab qam)); (case aL => have := qnU.out; omega); intro v105 w15 ho hb hg hat; rw [← qiu.out] at ho; replace HB := ak_ (hb); have qeK := ak_ (ho); clear qgy; clear ho hb hg hat))
    go_ret
    exact ⟨_, qce, by (with_reducible repeat (first | apply Kd.qaq | apply Kd.qar | apply Kd.qaC)); exact qeK.out, qam⟩
   rw [if_pos c3] at H; have qff : decide (qcZ < (a0.size : Int)) = true := decide_eq_true c3; clear c3; by_cases c4 : 0 ≤ qcZ; rotate_left
   ·rw [if_neg c4] at H; exact absurd H (by simp)
   rw [if_pos c4] at H; have qfx : decide (0 ≤ qcZ) = true := decide_eq_true c4; clear c4; by_cases c6 : (bt a0 qcZ) = a1; rotate_left
   ·rw [if_neg c6] at H; have qfY : ((bt a0 qcZ) == a1) = false := beq_eq_false_iff_ne.mpr c6; have qmK : ((bt a0 qcZ) != a1) = true := bne_iff_ne.mpr c6; have H' := ak_ H; clear H; have p5 : 0 ≤ (qcZ : Int) := of_decide_eq_true qaU; have q5 : qcZ < (a0.size : Int) := of_decide_eq_true qaU; have hx5 := qel a0 qcZ; replace p5 := eq_true p5; replace q5 := eq_true q5; go_wp2
    go_roundg k1
    case measure => have := HK1.out; omega
    case rel => exact ⟨(qbP), (qcU), (wrap64 (qcZ + 1)), qav, qav, H', ⟨qc9⟩, ⟨qnM⟩, ⟨qam⟩⟩
   rw [if_pos c6] at H; have qfY : ((bt a0 qcZ) == a1) = true := beq_iff_eq.mpr c6; have qmK : ((bt a0 qcZ) != a1) = false := bne_eq_false_iff_eq.mpr c6; clear c6; by_cases c7 : 0 ≤ qcU; rotate_left
   ·rw [if_neg c7] at H; exact absurd H (by simp)
   rw [if_pos c7] at H; have qgM := eq_true c7; have qmr : decide (0 ≤ qcU) = true := decide_eq_true c7; clear c7; by_cases c8 : qcU ≤ qcZ; rotate_left
   ·rw [if_neg c8] at H; exact absurd H (by simp)
   rw [if_pos c8] at H; have qnK := eq_true c8; have c8b1 : decide (qcU ≤ qcZ) = true := decide_eq_true c8; clear c8; by_cases c9 : qcZ ≤ (a0.size : Int); rotate_left
   ·rw [if_neg c9] at H; exact absurd H (by simp)
   rw [if_pos c9] at H; have qlX := eq_true c9; have c9b1 : decide (qcZ ≤ (a0.size : Int)) = true := decide_eq_true c9; clear c9; by_cases c10 : qbP.length < 8796093022208; rotate_left
   ·rw [if_neg c10] at H; exact absurd H (by simp)
   rw [if_pos c10] at H; have LMc10 := ak_ c10; clear c10
   obtain ⟨qeS, hy_⟩ : ∃ y_ : List ByteArray, y_ = (qbP ++ [a0.extract (qcU : Int).toNat (qcZ : Int).toNat]) := ⟨_, rfl⟩
   replace H : (qbi.l0 k1 a0 a1 qeS (wrap64 (qcZ + 1)) (wrap64 (qcZ + 1))) = some r := qe6; have qeb := ak_ hy_; clear hy_; have H' := ak_ H; clear H; have p5 : 0 ≤ (qcZ : Int) := of_decide_eq_true qaU; have q5 : qcZ < (a0.size : Int) := of_decide_eq_true qaU; have hx5 := qel a0 qcZ; replace p5 := eq_true p5; replace q5 := eq_true q5
   go_wp2_with (first | ((with_reducible refine qa3 (b := .append) (xs := #[.tmp 19, .tmp 24]) rfl ?_); at_builtin; refine Kd.qc8 Kd.string (w0 := w) w.heap.size rfl (.tmp 19) (.tmp 24) 43 9 (.string ⟨#[]⟩) 16 rfl Tryz.underlying43 ql7 rfl (by decide) (by omega) u5 qbP (a0.extract (qcU : Int).toNat (qcZ : Int).toNat) [.string (a0.extract (qcU : Int).toNat (qcZ : Int).toNat)] (fun _ => True) (fun _ => False) rfl rfl ?aP (fun _ hk => hk.elim) ?aF ?aO ?aB ?aS ?aL ?_; (case aP => exact rfl); (case aB => exact qam); (case aF => exact (fun _ _ => trivial)); (case aO => exact qnM); (case aS => exact (qab qam)); (case aL => have := LMc10.out; omega); intro qiq w11 ho hb hg hat; rw [← qeb.out] at ho; replace HB := ak_ (hb); have qdi := ak_ (ho); clear qgy; clear ho hb hg hat))
   go_roundg k1
   case measure => have := HK1.out; omega
   case rel => exact ⟨(qeS), (wrap64 (qcZ + 1)), (wrap64 (qcZ + 1)), qav, qav, H', ⟨qc9⟩, ⟨qpM⟩, ⟨qam⟩⟩
def qeP.f (x : ByteArray) : Option ByteArray := match qhn x with
  | some c => some ⟨c.kind.toArray⟩
  | none => some ⟨#[63]⟩
theorem qeP.calls (x : ByteArray) (r : ByteArray) (w : World) (h : qeP.f x = some r) :
    Calls Tryz.prog 94 #[.string x] w fun e w' => e = .returned (.string r) ∧ Below w.heap.size w w' := by
  unfold qeP.f at h
  cases hc : qhn x with
  | some c =>
    rw [hc] at h; obtain rfl := Option.some.inj h; obtain rfl := qhG hc; clear hc
    cases c <;> (simp only [Cmd.word, Cmd.bytes, Cmd.kind]; go_enter Tryz.func94, Tryz.ntmps94; go_wp2; go_ret; exact ⟨rfl, Below.refl _ _⟩)
  | none =>
    rw [hc] at h; obtain rfl := Option.some.inj h; have HN := qk8 hc; clear hc; have n0 : (x.toList == ([109, 105, 114, 114, 111, 114] : List UInt8)) = false := HN .cMirror; have n1 : (x.toList == ([116, 105, 100, 121] : List UInt8)) = false := HN .cTidy; have n2 : (x.toList == ([115, 104, 111, 119] : List UInt8)) = false := HN .cShow; have n3 : (x.toList == ([108, 101, 102, 116] : List UInt8)) = false := HN .cLeft; have n4 : (x.toList == ([99, 111, 117, 110, 116] : List UInt8)) = false := HN .cCount; have n5 : (x.toList == ([112, 101, 114, 105, 111, 100] : List UInt8)) = false := HN .cPeriod; have n6 : (x.toList == ([115, 112, 111, 107, 101, 115] : List UInt8)) = false := HN .cSpokes; have n7 : (x.toList == ([115, 116, 101, 112, 115] : List UInt8)) = false := HN .cSteps; have n8 : (x.toList == ([100, 114, 111, 112] : List UInt8)) = false := HN .cDrop; have n9 : (x.toList == ([109, 111, 115, 116] : List UInt8)) = false := HN .cMost; have n10 : (x.toList == ([109, 111, 118, 101] : List UInt8)) = false := HN .cMove; have n11 : (x.toList == ([112, 114, 105, 109, 101, 115] : List UInt8)) = false := HN .cPrimes; have n12 : (x.toList == ([114, 97, 110, 107] : List UInt8)) = false := HN .cRank; have n13 : (x.toList == ([102, 97, 99, 116, 111, 114, 115] : List UInt8)) = false := HN .cFactors; have n14 : (x.toList == ([112, 105] : List UInt8)) = false := HN .cPi; have n15 : (x.toList == ([100, 105, 118, 105, 115, 111, 114, 115] : List UInt8)) = false := HN .cDivisors; have n16 : (x.toList == ([116, 111, 116, 105, 101, 110, 116] : List UInt8)) = false := HN .cTotient; have n17 : (x.toList == ([112, 97, 116, 116, 101, 114, 110] : List UInt8)) = false := HN .cPattern; have n18 : (x.toList == ([114, 117, 108, 101, 115] : List UInt8)) = false := HN .cRules; have n19 : (x.toList == ([97, 100, 100] : List UInt8)) = false := HN .cAdd; have n20 : (x.toList == ([97, 110, 115, 119, 101, 114] : List UInt8)) = false := HN .cAnswer; clear HN; go_enter Tryz.func94, Tryz.ntmps94; go_wp2
    go_ret
    exact ⟨rfl, Below.refl _ _⟩
def qbf.f (a0 : Int) (a1 : Int) (a2 : Int) : Option (Bool) := if a0 ≥ a1 then (some (decide (a0 ≤ a2))) else (some false)
theorem qbf.calls (a0 : Int) (a1 : Int) (a2 : Int) (r : Bool) (w : World) (h : qbf.f a0 a1 a2 = some r) :
  Calls Tryz.prog 93 #[.int .i64 a0, .int .i64 a1, .int .i64 a2] w fun e w' => e = .returned (.bool r) ∧ qcX w w' := by
 have H : (if a0 ≥ a1 then (some (decide (a0 ≤ a2))) else (some false)) = some r := h; clear h; by_cases c4 : a0 ≥ a1
 ·rw [if_pos c4] at H; have qfx : decide (a1 ≤ a0) = true := decide_eq_true c4; clear c4; obtain rfl := Option.some.inj H; go_enter Tryz.func93, Tryz.ntmps93; go_wp2
  go_ret
  exact ⟨qav, qc2⟩
 rw [if_neg c4] at H; have qfx : decide (a1 ≤ a0) = false := decide_eq_false c4; clear c4; obtain rfl := Option.some.inj H; go_enter Tryz.func93, Tryz.ntmps93; go_wp2
 go_ret
 exact ⟨qav, qc2⟩
mutual
def qaV.j0 : Nat → ByteArray → Bool → Option (Int)
 | 0, _, _ => none
 | k + 1, x0, x18 => if x18 = true then (some (-1)) else (qaV.l0 k x0 0 0)
def qaV.l0 : Nat → ByteArray → Int → Int → Option (Int)
 | 0, _, _, _ => none
 | k + 1, x0, x3, x4 => if x4 < (x0.size : Int) then (if 0 ≤ x4 then (if (bt x0 x4) < 48 then (some (-1)) else (if (bt x0 x4) > 57 then (some (-1)) else (qaV.l0 k x0 (wrap64 ((wrap64 (10 * x3)) + (((bt x0 x4) - 48) % 256))) (wrap64 (x4 + 1))))) else (none)) else (some x3)
end
def qaV.f (k : Nat) (a0 : ByteArray) : Option (Int) := (qbf.f (a0.size : Int) 1 6).bind fun qas => (if qas = true then (if 0 < (a0.size : Int) then (if (bt a0 0) = 48 then (qaV.j0 k a0 (decide ((a0.size : Int) > 1))) else (qaV.j0 k a0 false)) else (none)) else (qaV.j0 k a0 true))
theorem qaV.calls (k : Nat) (a0 : ByteArray) (r : Int) (w : World) (h : qaV.f k a0 = some r) :
  Calls Tryz.prog 95 #[.string a0] w fun e w' => e = .returned (.int .i64 r) ∧ qcX w w' := by
 have H : ((qbf.f (a0.size : Int) 1 6).bind fun qas => (if qas = true then (if 0 < (a0.size : Int) then (if (bt a0 0) = 48 then (qaV.j0 k a0 (decide ((a0.size : Int) > 1))) else (qaV.j0 k a0 false)) else (none)) else (qaV.j0 k a0 true))) = some r := h; clear h; have HC2 := ak_ H; clear H; go_enter Tryz.func95, Tryz.ntmps95
 go_upto_region 1 with (fail)
 go_cut [18] (fun v18 wc => ∃ (kq : Nat) (x18_1 : Bool), v18 = .bool x18_1 ∧ qag (qaV.j0 kq a0 x18_1 = some r) ∧ qag (kq ≤ k) ∧ qcX w wc)
 case first =>
  have H := HC2.out; clear HC2; obtain ⟨qas, A3, H⟩ := qaw H; (try dsimp only at H); by_cases c4 : qas = true; rotate_left
  ·replace c4 := Bool.eq_false_iff.mpr c4; subst c4; rw [if_neg (show ¬ (false = true) by decide)] at H; have H' := ak_ H; clear H
   go_wp2_with (first | (refine gl_ 7 Tryz.func93 #[.int .i64 (a0.size : Int), .int .i64 1, .int .i64 6] rfl qbK ?_; (with_reducible refine (qbf.calls (a0.size : Int) 1 6 false _ A3.out).mono ?_); rintro e w' ⟨rfl, ⟨nd, rfl⟩⟩; refine ⟨_, rfl, ?_⟩))
   go_meet
   case rel => exact ⟨_, (true), qav, H', ⟨qid⟩, qc2⟩
  subst c4; rw [if_pos rfl] at H; by_cases c5 : 0 < (a0.size : Int); rotate_left
  ·rw [if_neg c5] at H; exact absurd H (by simp)
  rw [if_pos c5] at H; have qgH : decide (0 < (a0.size : Int)) = true := decide_eq_true c5; have c5b1 : decide (0 < a0.size) = true := decide_eq_true (by omega); clear c5; (first | rw [qgH] | rw [c5b1] | (simp only [qcF, qcO]; rw [qgH]) | skip); by_cases c7 : (bt a0 0) = 48
  ·rw [if_pos c7] at H; have qgM : ((bt a0 0) == 48) = true := beq_iff_eq.mpr c7; have qmr : ((bt a0 0) != 48) = false := bne_eq_false_iff_eq.mpr c7; clear c7; have H' := ak_ H; clear H
   go_wp2_with (first | (refine gl_ 7 Tryz.func93 #[.int .i64 (a0.size : Int), .int .i64 1, .int .i64 6] rfl qbK ?_; (with_reducible refine (qbf.calls (a0.size : Int) 1 6 true _ A3.out).mono ?_); rintro e w' ⟨rfl, ⟨nd, rfl⟩⟩; refine ⟨_, rfl, ?_⟩; have p6 : 0 ≤ (0 : Int) := (by omega); have q6 : 0 < a0.size := (by have : (0 : Int) < (a0.size : Int) := of_decide_eq_true qaU; omega); have hx6 : ∀ h : 0 < a0.size, ((a0[0]'h).toNat : Int) = bt a0 0 := qel a0 0; clear p6; have qi6 : (0 < (a0.size : Int)) = True := eq_true (of_decide_eq_true qaU); replace q6 := eq_true q6))
   go_meet
   case rel => exact ⟨_, (decide ((a0.size : Int) > 1)), qav, H', ⟨qid⟩, qc2⟩
  rw [if_neg c7] at H; have qgM : ((bt a0 0) == 48) = false := beq_eq_false_iff_ne.mpr c7; have qmr : ((bt a0 0) != 48) = true := bne_iff_ne.mpr c7; have H' := ak_ H; clear H
  go_wp2_with (first | (refine gl_ 7 Tryz.func93 #[.int .i64 (a0.size : Int), .int .i64 1, .int .i64 6] rfl qbK ?_; (with_reducible refine (qbf.calls (a0.size : Int) 1 6 true _ A3.out).mono ?_); rintro e w' ⟨rfl, ⟨nd, rfl⟩⟩; refine ⟨_, rfl, ?_⟩; have p6 : 0 ≤ (0 : Int) := (by omega); have q6 : 0 < a0.size := (by have : (0 : Int) < (a0.size : Int) := of_decide_eq_true qaU; omega); have hx6 : ∀ h : 0 < a0.size, ((a0[0]'h).toNat : Int) = bt a0 0 := qel a0 0; clear p6; have qi6 : (0 < (a0.size : Int)) = True := eq_true (of_decide_eq_true qaU); replace q6 := eq_true q6))
  go_meet
  case rel => exact ⟨_, (false), qav, H', ⟨qid⟩, qc2⟩
 case rest =>
  clear HC2; obtain ⟨kq, x18_1, rfl, HA, HJ1, ⟨mc1, rfl⟩⟩ := hcut
  cases kq with
  | zero => exact absurd HA.out (by simp [qaV.j0])
  | succ kj1 =>
   have H := HA.out; clear HA; simp only [qaV.j0] at H; by_cases c8 : x18_1 = true
   ·subst c8; rw [if_pos rfl] at H; obtain rfl := Option.some.inj H; go_wp2
    go_ret
    exact ⟨qav, qc2⟩
   replace c8 := Bool.eq_false_iff.mpr c8; subst c8; rw [if_neg (show ¬ (false = true) by decide)] at H; have H' := ak_ H; clear H; go_wp2
   go_loopg [3, 4] kj1 (fun kq v3 v4 w' => ∃ (qgm : Int) (qhO : Int), v3 = .int .i64 qgm ∧ v4 = .int .i64 qhO ∧ qag (qaV.l0 kq a0 qgm qhO = some r) ∧ qag (kq ≤ kj1) ∧ qcX w w')
   case atStart => exact ⟨(0), (0), qav, qav, H', ⟨Nat.le_refl _⟩, qc2⟩
   case round =>
    clear H'; (try clear c8); obtain ⟨qgm, qhO, rfl, rfl, HA, HK2, ⟨m2, rfl⟩⟩ := hrel
    cases gk with
    | zero => exact absurd HA.out (by simp [qaV.l0])
    | succ k2 =>
     have H := HA.out; clear HA; simp only [qaV.l0] at H; by_cases c9 : qhO < (a0.size : Int); rotate_left
     ·rw [if_neg c9] at H; have qlX : decide (qhO < (a0.size : Int)) = false := decide_eq_false c9; clear c9; obtain rfl := Option.some.inj H; go_wp2
      go_ret
      exact ⟨qav, qc2⟩
     rw [if_pos c9] at H; have qlX : decide (qhO < (a0.size : Int)) = true := decide_eq_true c9; clear c9; by_cases c10 : 0 ≤ qhO; rotate_left
     ·rw [if_neg c10] at H; exact absurd H (by simp)
     rw [if_pos c10] at H; have qgC : decide (0 ≤ qhO) = true := decide_eq_true c10; clear c10; by_cases c12 : (bt a0 qhO) < 48
     ·rw [if_pos c12] at H; have qhm : decide ((bt a0 qhO) < 48) = true := decide_eq_true c12; clear c12; obtain rfl := Option.some.inj H; have p11 : 0 ≤ (qhO : Int) := of_decide_eq_true qaU; have q11 : qhO < (a0.size : Int) := of_decide_eq_true qaU; have hx11 := qel a0 qhO; replace p11 := eq_true p11; replace q11 := eq_true q11; go_wp2
      go_ret
      exact ⟨qav, qc2⟩
     rw [if_neg c12] at H; have qhm : decide ((bt a0 qhO) < 48) = false := decide_eq_false c12; clear c12; by_cases c14 : (bt a0 qhO) > 57
     ·rw [if_pos c14] at H; have qn9 : decide (57 < (bt a0 qhO)) = true := decide_eq_true c14; clear c14; obtain rfl := Option.some.inj H; have p11 : 0 ≤ (qhO : Int) := of_decide_eq_true qaU; have q11 : qhO < (a0.size : Int) := of_decide_eq_true qaU; have hx11 := qel a0 qhO; replace p11 := eq_true p11; replace q11 := eq_true q11; have p13 : 0 ≤ (qhO : Int) := of_decide_eq_true qaU; have q13 : qhO < (a0.size : Int) := of_decide_eq_true qaU; have hx13 := qel a0 qhO; replace p13 := eq_true p13; replace q13 := eq_true q13; go_wp2
      go_ret
      exact ⟨qav, qc2⟩
     rw [if_neg c14] at H; have qn9 : decide (57 < (bt a0 qhO)) = false := decide_eq_false c14; clear c14; have H' := ak_ H; clear H; have p11 : 0 ≤ (qhO : Int) := of_decide_eq_true qaU; have q11 : qhO < (a0.size : Int) := of_decide_eq_true qaU; have hx11 := qel a0 qhO; replace p11 := eq_true p11; replace q11 := eq_true q11; have p13 : 0 ≤ (qhO : Int) := of_decide_eq_true qaU; have q13 : qhO < (a0.size : Int) := of_decide_eq_true qaU; have hx13 := qel a0 qhO; replace p13 := eq_true p13; replace q13 := eq_true q13; have p15 : 0 ≤ (qhO : Int) := of_decide_eq_true qaU; have q15 : qhO < (a0.size : Int) := of_decide_eq_true qaU; have hx15 := qel a0 qhO; replace p15 := eq_true p15; replace q15 := eq_true q15; go_wp2
     go_roundg k2
     case measure => have := HJ1.out; have := HK2.out; omega
     case rel => exact ⟨(wrap64 ((wrap64 (10 * qgm)) + (((bt a0 qhO) - 48) % 256))), (wrap64 (qhO + 1)), qav, qav, H', ⟨by have := HJ1.out; have := HK2.out; omega⟩, qc2⟩
def qfd.f (a0 : Int) (a1 : Int) : Option (Int) := if a0 < a1 then (some a0) else (some a1)
theorem qfd.calls (a0 : Int) (a1 : Int) (r : Int) (w : World) (h : qfd.f a0 a1 = some r) :
  Calls Tryz.prog 206 #[.int .i64 a0, .int .i64 a1] w fun e w' => e = .returned (.int .i64 r) ∧ qcX w w' := by
 have H : (if a0 < a1 then (some a0) else (some a1)) = some r := h; clear h; by_cases c3 : a0 < a1
 ·rw [if_pos c3] at H; have qff : decide (a0 < a1) = true := decide_eq_true c3; clear c3; obtain rfl := Option.some.inj H; go_enter Tryz.func206, Tryz.ntmps206; go_wp2
  go_ret
  exact ⟨qav, qc2⟩
 rw [if_neg c3] at H; have qff : decide (a0 < a1) = false := decide_eq_false c3; clear c3; obtain rfl := Option.some.inj H; go_enter Tryz.func206, Tryz.ntmps206; go_wp2
 go_ret
 exact ⟨qav, qc2⟩
def qbr.f : Nat → Int → Option (ByteArray)
 | 0, _ => none
 | k + 1, a0 => if a0 < 10 then (some (strOfNums (([(wrap64 (48 + a0)) % 256] : List Int)))) else ((qbr.f k (wrap64 (Int.tdiv a0 10))).bind fun qcf => ((some (([(wrap64 (48 + (Int.tmod a0 10))) % 256] : List Int) : List Int)).bind fun qhD => (if qcf.size + (strOfNums qhD).size ≤ 9223372036854775807 then (some (qcf ++ (strOfNums qhD))) else (none))))
def qbr.T3 : Bool × List (List Nat × List Nat) := (true, [([], []), ([0], [0]), ([1], [1]), ([], []), ([3], [3]), ([4], [4]), ([5], [5]), ([6], [6]), ([7], [7]), ([2, 8], [2, 8]), ([9, 2, 0, 1, 2, 3, 4, 5, 6, 7, 8, 9], [9])])
def qbr.B3 : List Nat := [0, 1, 3, 0, 8, 24, 56, 120, 248, 511, 1023]
theorem qbr.tab3 : qhK .any (opsOf Tryz.f83 3) = qbr.T3 := by kernel_rfl
theorem qbr.bits3 : qeR qbr.T3.2 qbr.B3 = true := by kernel_rfl
theorem qbr.calls (k : Nat) : ∀ (a0 : Int) (r : ByteArray) (w : World) (h : qbr.f k a0 = some r),
  Calls Tryz.prog 83 #[.int .i64 a0] w fun e w' => e = .returned (.string r) ∧ Below w.heap.size w w' := by
 induction k using Nat.strongRecOn with
 | _ k ih =>
 intro a0 r w h
 cases k with
 | zero => exact absurd h (by simp [qbr.f])
 | succ k =>
 simp only [qbr.f] at h; have HB := ak_ (Below.refl w.heap.size w); have H : (if a0 < 10 then (some (strOfNums (([(wrap64 (48 + a0)) % 256] : List Int)))) else ((qbr.f k (wrap64 (Int.tdiv a0 10))).bind fun qcf => ((some (([(wrap64 (48 + (Int.tmod a0 10))) % 256] : List Int) : List Int)).bind fun qhD => (if qcf.size + (strOfNums qhD).size ≤ 9223372036854775807 then (some (qcf ++ (strOfNums qhD))) else (none))))) = some r := h; clear h; by_cases c2 : a0 < 10
 ·rw [if_pos c2] at H; have qfe : decide (a0 < 10) = true := decide_eq_true c2; clear c2
  obtain ⟨qeS, hy_⟩ : ∃ y_ : List Int, y_ = (([(wrap64 (48 + a0)) % 256] : List Int)) := ⟨_, rfl⟩
  replace H : (some (strOfNums qeS)) = some r := qe6; have qeb := ak_ hy_; clear hy_; obtain rfl := Option.some.inj H; go_enter Tryz.func83, Tryz.ntmps83
  go_wp2_with (first | ((with_reducible refine qak (N := 8) rfl ?_); refine Kd.qg9 (Kd.int .u8) _ 5 ?hg (N := 8) ?hd (xs := ([(wrap64 (48 + a0)) % 256] : List Int)) (inner := [.int .u8 ((wrap64 (48 + a0)) % 256)]) (ok := fun _ => True) (okp := fun _ => True) ?hr ?hp (fun _ hk => hk) trivial (Below.refl _ _) (Nat.le_refl _) (by simp) ?_; (case hd => rfl); (case hg => rfl); (case hr => exact qbb); (case hp => exact (qd9.one (show Kd.M (Kd.int .u8) _ _ _ ((wrap64 (48 + a0)) % 256) [.int .u8 ((wrap64 (48 + a0)) % 256)] from rfl) (qd9.none _ _))); intro qiq w3 ho4 hb hg_ hnew_; clear hg_ hnew_; (first | rw [← qeb.out] at ho4 | (simp only [Int.reduceToNat] at ho4; rw [← qeb.out] at ho4)); have qdi := ak_ (Kd.qau ho4 (qab qam)); replace HB := HB.mw hb; clear hb ho4; have hcv5 := qgF (P := Tryz.prog) Tryz.underlying35 Tryz.underlying5 Tryz.underlying9 (Kd.qgZ qdi.out)))
  go_ret
  exact ⟨qce, qam⟩
 rw [if_neg c2] at H; have qfe : decide (a0 < 10) = false := decide_eq_false c2; clear c2; obtain ⟨qcf, A6, H⟩ := qaw H; (try dsimp only at H)
 obtain ⟨qhD, hy_⟩ : ∃ y_ : List Int, y_ = (([(wrap64 (48 + (Int.tmod a0 10))) % 256] : List Int)) := ⟨_, rfl⟩
 replace H : (if qcf.size + (strOfNums qhD).size ≤ 9223372036854775807 then (some (qcf ++ (strOfNums qhD))) else (none)) = some r := qe6; have qhi := ak_ hy_; clear hy_; by_cases c7 : qcf.size + (strOfNums qhD).size ≤ 9223372036854775807; rotate_left
 ·rw [if_neg c7] at H; exact absurd H (by simp)
 rw [if_pos c7] at H; have qgM := eq_true c7; have qmr : decide (qcf.size + (strOfNums qhD).size ≤ 9223372036854775807) = true := decide_eq_true c7
 try have c7b2 : (9223372036854775807 < qcf.size + (strOfNums qhD).size) = False := eq_false (Nat.not_lt.2 c7)
 obtain rfl := Option.some.inj H; go_enter Tryz.func83, Tryz.ntmps83
 try go_wp2
 replace HB := ak_ (qah HB.out); refine qeQ (n := 11) (S := fun w' => True) (ds := []) (rA_ [0, 11]) (by kernel_rfl) rfl rfl trivial (fun hHeld => ?_); refine qdp qbr.tab3 qbr.bits3 (fun HT_ HW_ => ?_)
 generalize w.drew = w8 at HB hHeld ⊢
 refine pu_ 0 10 [1, 10] ?_; refine pu_ 1 11 [2, 9] ?_; refine pu_ 3 13 [2, 1, 1, 7] ?_; refine pu_ 4 14 [2, 1, 2, 6] ?_; refine pu_ 5 15 [2, 1, 3, 5] ?_; refine pu_ 6 16 [2, 1, 4, 4] ?_; refine qsh (σ := Value) 2 (rA_ [9, 2]) (fun s_ => [(12, .string qcf), (17, s_), (18, .string (strOfNums qhD))]) (fun s_ w' => (Kd.R (Kd.int .u8) 5 w' w.heap.size (fun _ => True) s_ qhD) ∧ (Below w.heap.size w w')) ?_ ?_; rotate_left
 ·intro hCont; refine two_ (i := 2) (j := 7) (Ni := some 12) (Nj := some 17) (rA_ [7, 4]) (rA_ [2, 1, 5, 3]) rfl rfl rfl rfl (qp2 HT_.out (by kernel_rfl)) (by decide) (by decide) (fun K hK => ?_) (fun K hK => ?_)
  ·skip
   refine qfz Tryz.func83 (by kernel_rfl) rfl #[.int .i64 (wrap64 (Int.tdiv a0 10))] (by rfl) rfl rfl qbK ?_
   with_reducible refine (ih k (by omega) (wrap64 (Int.tdiv a0 10)) qcf _ A6.out).mono ?_
   rintro e w9 ⟨rfl, hb⟩; refine ⟨_, rfl, ?_⟩; replace HB := HB.mw hb; (try clear hb); (try clear hb2); (try clear hk); (try clear hi); refine hK.out _ _ trivial (fun hHeld => ?_); clear hK K; refine nm_ 12 ?_; refine qfA (i := 7) (N := some 17) (rA_ [8, 3]) rfl rfl (qc5 HT_.out (by kernel_rfl)) (by decide) (fun K hK => ?_); refine Kd.qdR (Kd.int .u8) _ 5 ?hg (N := 17) ?hd (xs := ([(wrap64 (48 + (Int.tmod a0 10))) % 256] : List Int)) (inner := [.int .u8 ((wrap64 (48 + (Int.tmod a0 10))) % 256)]) (ok := fun _ => True) (okp := fun _ => True) ?hr ?hp (fun _ hk => hk) trivial (Below.refl _ _) (Nat.le_refl _) (by simp) ?_; (case hd => rfl); (case hg => rfl); (case hr => exact qbb); (case hp => exact (qd9.one (show Kd.M (Kd.int .u8) _ _ _ ((wrap64 (48 + (Int.tmod a0 10))) % 256) [.int .u8 ((wrap64 (48 + (Int.tmod a0 10))) % 256)] from rfl) (qd9.none _ _))); intro qqI w10 qrX hb hg_ hnew_; clear hg_ hnew_; (first | rw [← qhi.out] at qrX | (simp only [Int.reduceToNat] at qrX; rw [← qhi.out] at qrX)); have qe2 := ak_ (Kd.qau qrX (qab qam)); replace HB := HB.mw hb; clear hb qrX; refine hK.out _ _ trivial (fun hHeld => ?_); clear hK K; refine nm_ 17 ?_; refine qfA (i := 8) (N := some 18) (rA_ [9, 2]) rfl rfl (qc5 HT_.out (by kernel_rfl)) (by decide) (fun K hK => ?_); have hcv12 := qgF (P := Tryz.prog) Tryz.underlying35 Tryz.underlying5 Tryz.underlying9 (Kd.qgZ qe2.out); refine qiK (w1 := ?_) (v := ?_) (by rfl) rfl ?_ ?_; rotate_left 2
   ·go_simp; constructor
    ·rfl
    rfl
   clear hcv12; refine hK.out _ _ trivial (fun hHeld => ?_); clear hK K; refine nm_ 18 ?_; exact qeq qqr (hCont (qqI) _ ⟨(by apply_rules only [qe2.out, Kd.qaq, Kd.qar, Kd.qaC]), qam⟩)
  skip
  refine Kd.qdR (Kd.int .u8) _ 5 ?hg (N := 17) ?hd (xs := ([(wrap64 (48 + (Int.tmod a0 10))) % 256] : List Int)) (inner := [.int .u8 ((wrap64 (48 + (Int.tmod a0 10))) % 256)]) (ok := fun _ => True) (okp := fun _ => True) ?hr ?hp (fun _ hk => hk) trivial (Below.refl _ _) (Nat.le_refl _) (by simp) ?_; (case hd => rfl); (case hg => rfl); (case hr => exact qbb); (case hp => exact (qd9.one (show Kd.M (Kd.int .u8) _ _ _ ((wrap64 (48 + (Int.tmod a0 10))) % 256) [.int .u8 ((wrap64 (48 + (Int.tmod a0 10))) % 256)] from rfl) (qd9.none _ _))); intro qqI w9 qli hb hg_ hnew_; clear hg_ hnew_; (first | rw [← qhi.out] at qli | (simp only [Int.reduceToNat] at qli; rw [← qhi.out] at qli)); have qe2 := ak_ (Kd.qau qli (qab qam)); replace HB := HB.mw hb; clear hb qli; refine hK.out _ _ trivial (fun hHeld => ?_); clear hK K; refine nm_ 17 ?_; refine two_ (i := 2) (j := 8) (Ni := some 12) (Nj := some 18) (rA_ [8, 3]) (rA_ [2, 1, 6, 2]) rfl rfl rfl rfl (qp2 HT_.out (by kernel_rfl)) (by decide) (by decide) (fun K hK => ?_) (fun K hK => ?_)
  ·skip
   refine qfz Tryz.func83 (by kernel_rfl) rfl #[.int .i64 (wrap64 (Int.tdiv a0 10))] (by rfl) rfl rfl qbK ?_
   with_reducible refine (ih k (by omega) (wrap64 (Int.tdiv a0 10)) qcf _ A6.out).mono ?_
   rintro e w11 ⟨rfl, hb⟩; refine ⟨_, rfl, ?_⟩; replace qe2 := qe2.mw hb; replace HB := HB.mw hb; (try clear hb); (try clear hb2); (try clear hk); (try clear hi); refine hK.out _ _ trivial (fun hHeld => ?_); clear hK K; refine nm_ 12 ?_; refine qfA (i := 8) (N := some 18) (rA_ [9, 2]) rfl rfl (qc5 HT_.out (by kernel_rfl)) (by decide) (fun K hK => ?_); have hcv12 := qgF (P := Tryz.prog) Tryz.underlying35 Tryz.underlying5 Tryz.underlying9 (Kd.qgZ qe2.out); refine qiK (w1 := ?_) (v := ?_) (by rfl) rfl ?_ ?_; rotate_left 2
   ·go_simp; constructor
    ·rfl
    rfl
   clear hcv12; refine hK.out _ _ trivial (fun hHeld => ?_); clear hK K; refine nm_ 18 ?_; exact qeq qqr (hCont (qqI) _ ⟨(by apply_rules only [qe2.out, Kd.qaq, Kd.qar, Kd.qaC]), qam⟩)
  skip
  have hcv11 := qgF (P := Tryz.prog) Tryz.underlying35 Tryz.underlying5 Tryz.underlying9 (Kd.qgZ qe2.out); refine qiK (w1 := ?_) (v := ?_) (by rfl) rfl ?_ ?_; rotate_left 2
  ·go_simp; constructor
   ·rfl
   rfl
  clear hcv11; refine hK.out _ _ trivial (fun hHeld => ?_); clear hK K; refine nm_ 18 ?_; refine qfA (i := 2) (N := some 12) (rA_ [9, 2]) rfl rfl (qc5 HT_.out (by kernel_rfl)) (by decide) (fun K hK => ?_); refine qfz Tryz.func83 (by kernel_rfl) rfl #[.int .i64 (wrap64 (Int.tdiv a0 10))] (by rfl) rfl rfl qbK ?_
  with_reducible refine (ih k (by omega) (wrap64 (Int.tdiv a0 10)) qcf _ A6.out).mono ?_
  rintro e w12 ⟨rfl, hb⟩; refine ⟨_, rfl, ?_⟩; replace qe2 := qe2.mw hb; replace HB := HB.mw hb; (try clear hb); (try clear hb2); (try clear hk); (try clear hi); refine hK.out _ _ trivial (fun hHeld => ?_); clear hK K; refine nm_ 12 ?_; exact qeq qqr (hCont (qqI) _ ⟨(by apply_rules only [qe2.out, Kd.qaq, Kd.qar, Kd.qaC]), qam⟩)
 rintro qqI w13 ⟨h0_, h1_⟩
 have n0_ : qag (Kd.R (Kd.int .u8) 5 w13 w.heap.size (fun _ => True) qqI qhD) := ⟨h0_⟩
 have n1_ : qag (Below w.heap.size w w13) := ⟨h1_⟩
 clear HB; clear h0_ h1_; have qe2 := n0_; have HB := n1_; clear n0_ n1_; have hHeld := trivial; refine qeq (a' := ?_) ?_ ?_; rotate_left
 ·simp only [qiG, Act.put, List.setIfInBounds_toArray, List.set_cons_zero, List.set_cons_succ]; rfl
 refine pu_ 9 19 [10, 1] ?_; refine pu_ 10 2 [11] ?_; refine qf4 (qeC HT_.out (by kernel_rfl)) ?_
 try go_wp2
 go_ret
 exact ⟨qce, qam⟩
def qbm.l0 : Nat → ByteArray → List (qac) → Int → Int → Option (ByteArray)
 | 0, _, _, _, _ => none
 | k + 1, x3, x9, x10, x11 => if x11 < x10 then (if 0 ≤ x11 then (if x11 < (x9.length : Int) then (if x11 > 0 then (if x3.size + 1 ≤ 9223372036854775807 then ((qbr.f k ((qae x9 x11).f0)).bind fun qb7 => (if qb7.size + 1 ≤ 9223372036854775807 then ((qbr.f k ((qae x9 x11).f1)).bind fun qcf => (if (qb7 ++ (⟨#[58]⟩ : ByteArray)).size + qcf.size ≤ 9223372036854775807 then (if (x3 ++ (⟨#[44]⟩ : ByteArray)).size + ((qb7 ++ (⟨#[58]⟩ : ByteArray)) ++ qcf).size ≤ 9223372036854775807 then (qbm.l0 k ((x3 ++ (⟨#[44]⟩ : ByteArray)) ++ ((qb7 ++ (⟨#[58]⟩ : ByteArray)) ++ qcf)) x9 x10 (wrap64 (x11 + 1))) else (none)) else (none))) else (none))) else (none)) else ((qbr.f k ((qae x9 x11).f0)).bind fun t105 => (if t105.size + 1 ≤ 9223372036854775807 then ((qbr.f k ((qae x9 x11).f1)).bind fun qfw => (if (t105 ++ (⟨#[58]⟩ : ByteArray)).size + qfw.size ≤ 9223372036854775807 then (if x3.size + ((t105 ++ (⟨#[58]⟩ : ByteArray)) ++ qfw).size ≤ 9223372036854775807 then (qbm.l0 k (x3 ++ ((t105 ++ (⟨#[58]⟩ : ByteArray)) ++ qfw)) x9 x10 (wrap64 (x11 + 1))) else (none)) else (none))) else (none)))) else (none)) else (none)) else (some x3)
def qbm.f (k : Nat) (l0 : List (qac)) : Option (ByteArray) := if (l0.length : Int) = 0 then (some (⟨#[45]⟩ : ByteArray)) else (qbm.l0 k (⟨#[]⟩ : ByteArray) l0 (l0.length : Int) 0)
def qbm.T9 : Bool × List (List Nat × List Nat) := (true, [([], []), ([], []), ([1], [1]), ([2], [2]), ([3], [3]), ([], []), ([5], [5]), ([6, 3], [6]), ([4, 7], [4, 7]), ([0, 8], [0, 8]), ([9, 7, 0, 1, 2, 3, 4, 5, 6, 7, 8, 9], [0, 9])])
def qbm.B9 : List Nat := [0, 0, 2, 6, 14, 0, 32, 110, 254, 511, 1023]
theorem qbm.tab9 : qhK .any (opsOf Tryz.f207 9) = qbm.T9 := by kernel_rfl
theorem qbm.bits9 : qeR qbm.T9.2 qbm.B9 = true := by kernel_rfl
theorem qbm.calls (k : Nat) (A0 : Option Addr) (c0 : Nat) (l0 : List (qac)) (r : ByteArray) (w : World) (hr0 : Kd.C qaN w A0 l0.length l0) (hc0 : l0.length ≤ c0) (h : qbm.f k l0 = some r) :
  Calls Tryz.prog 207 #[.slice A0 l0.length c0] w fun e w' => e = .returned (.string r) ∧ Below w.heap.size w w' := by
 have qms := Tryz.underlying85; have HR0 := ak_ hr0; have HC0 := ak_ hc0; clear hr0 hc0; have HB := ak_ (Below.refl w.heap.size w); have H : (if (l0.length : Int) = 0 then (some (⟨#[45]⟩ : ByteArray)) else (qbm.l0 k (⟨#[]⟩ : ByteArray) l0 (l0.length : Int) 0)) = some r := h; clear h; by_cases c2 : (l0.length : Int) = 0
 ·rw [if_pos c2] at H; have qfe : ((l0.length : Int) == 0) = true := beq_iff_eq.mpr c2; have qmJ : ((l0.length : Int) != 0) = false := bne_eq_false_iff_eq.mpr c2; clear c2; obtain rfl := Option.some.inj H; go_enter Tryz.func207, Tryz.ntmps207; go_wp2
  go_ret
  exact ⟨qce, qam⟩
 rw [if_neg c2] at H; have qfe : ((l0.length : Int) == 0) = false := beq_eq_false_iff_ne.mpr c2; have qmJ : ((l0.length : Int) != 0) = true := bne_iff_ne.mpr c2
 have c2b2 : ¬ (l0 = []) := fun h_ => c2 (by rw [h_]; rfl)
 have H' := ak_ H; clear H; go_enter Tryz.func207, Tryz.ntmps207; go_wp2
 go_loopg [3, 11] k (fun kq v3 v11 w' => ∃ (qbg : ByteArray) (qb2 : Int), v3 = .string qbg ∧ v11 = .int .i64 qb2 ∧ qag (qbm.l0 kq qbg l0 (l0.length : Int) qb2 = some r) ∧ qag (kq ≤ k) ∧ qag (Below w.heap.size w w'))
 case atStart => exact ⟨((⟨#[]⟩ : ByteArray)), (0), qav, qav, H', ⟨Nat.le_refl _⟩, ⟨qam⟩⟩
 case round =>
  clear H'; (try clear c2); (try clear qfe); (try clear qmJ); (try clear c2b2); obtain ⟨qbg, qb2, rfl, rfl, HA, HK1, HB⟩ := hrel
  cases gk with
  | zero => exact absurd HA.out (by simp [qbm.l0])
  | succ k1 =>
   have H := HA.out; clear HA; simp only [qbm.l0] at H; by_cases c3 : qb2 < (l0.length : Int); rotate_left
   ·rw [if_neg c3] at H; have qff : decide (qb2 < (l0.length : Int)) = false := decide_eq_false c3; clear c3; obtain rfl := Option.some.inj H; go_wp2
    go_ret
    exact ⟨qce, qam⟩
   rw [if_pos c3] at H; have qff : decide (qb2 < (l0.length : Int)) = true := decide_eq_true c3; clear c3; by_cases c4 : 0 ≤ qb2; rotate_left
   ·rw [if_neg c4] at H; exact absurd H (by simp)
   rw [if_pos c4] at H; have qfx : decide (0 ≤ qb2) = true := decide_eq_true c4; clear c4; by_cases c5 : qb2 < (l0.length : Int); rotate_left
   ·rw [if_neg c5] at H; exact absurd H (by simp)
   rw [if_pos c5] at H; have qgH : decide (qb2 < (l0.length : Int)) = true := decide_eq_true c5; clear c5; by_cases c6 : qb2 > 0; rotate_left
   ·rw [if_neg c6] at H; have qfY : decide (0 < qb2) = false := decide_eq_false c6; clear c6; obtain ⟨t105, A19, H⟩ := qaw H; (try dsimp only at H); by_cases c20 : t105.size + 1 ≤ 9223372036854775807; rotate_left
    ·rw [if_neg c20] at H; exact absurd H (by simp)
    rw [if_pos c20] at H; have c20b0 := eq_true c20; have c20b1 : decide (t105.size + 1 ≤ 9223372036854775807) = true := decide_eq_true c20
    try have c20b2 : (9223372036854775807 < t105.size + 1) = False := eq_false (Nat.not_lt.2 c20)
    obtain ⟨qfw, A21, H⟩ := qaw H; (try dsimp only at H); by_cases c22 : (t105 ++ (⟨#[58]⟩ : ByteArray)).size + qfw.size ≤ 9223372036854775807; rotate_left
    ·rw [if_neg c22] at H; exact absurd H (by simp)
    rw [if_pos c22] at H; have c22b0 := eq_true c22; have c22b1 : decide ((t105 ++ (⟨#[58]⟩ : ByteArray)).size + qfw.size ≤ 9223372036854775807) = true := decide_eq_true c22
    try have c22b2 : (9223372036854775807 < (t105 ++ (⟨#[58]⟩ : ByteArray)).size + qfw.size) = False := eq_false (Nat.not_lt.2 c22)
    have c22b3 := c22b2; simp only [ByteArray.size_append, show (⟨#[44]⟩ : ByteArray).size = 1 from rfl, show (⟨#[47]⟩ : ByteArray).size = 1 from rfl, show (⟨#[58]⟩ : ByteArray).size = 1 from rfl] at c22b3; by_cases c23 : qbg.size + ((t105 ++ (⟨#[58]⟩ : ByteArray)) ++ qfw).size ≤ 9223372036854775807; rotate_left
    ·rw [if_neg c23] at H; exact absurd H (by simp)
    rw [if_pos c23] at H; have c23b0 := eq_true c23; have c23b1 : decide (qbg.size + ((t105 ++ (⟨#[58]⟩ : ByteArray)) ++ qfw).size ≤ 9223372036854775807) = true := decide_eq_true c23
    try have c23b2 : (9223372036854775807 < qbg.size + ((t105 ++ (⟨#[58]⟩ : ByteArray)) ++ qfw).size) = False := eq_false (Nat.not_lt.2 c23)
    have c23b3 := c23b2; simp only [ByteArray.size_append, show (⟨#[44]⟩ : ByteArray).size = 1 from rfl, show (⟨#[47]⟩ : ByteArray).size = 1 from rfl, show (⟨#[58]⟩ : ByteArray).size = 1 from rfl] at c23b3; have H' := ak_ H; clear H; have qeE : 0 ≤ (qb2 : Int) := of_decide_eq_true qaU; have qeI : qb2 < (l0.length : Int) := of_decide_eq_true qaU; obtain ⟨qgB, qha, qbj, qcp⟩ := qdV HR0.out qb2 qeE qeI
    cases qha
    replace qbj := (HB.out.cell (World.block_lt_of_cell? w _ qbj)).trans qbj; replace qcp := (HB.out.cell (World.block_lt_of_cell? w _ qcp)).trans qcp; replace qeE := eq_true qeE; replace qeI := eq_true qeI
    try go_wp2_with (first | ((with_reducible refine qak (N := 5) rfl ?_); refine bx_ 5 rfl (cs := #[.int .i64 0, .int .i64 0]) (t := 85) qbb ?_; intro qej hg w24 hbox hb; have qcr := ak_ (hbox); have qgp := ak_ (HB.ge hg); have qgj := ak_ (HB.ge hg); replace HB := HB.mw hb; clear hb hbox hg; obtain ⟨hcz25_0, hcz25_1, hfz25_0, hfz25_1⟩ := qbG qcr.out))
    have n0_ : qag (((w24.setCell ⟨qej, 0, none⟩ (.int .i64 ((qae l0 qb2).f0))).setCell ⟨qej, 1, none⟩ (.int .i64 ((qae l0 qb2).f1))).heap[qej]? = some (.cells #[.int .i64 ((qae l0 qb2).f0), .int .i64 ((qae l0 qb2).f1)] 85 (0, 0))) := ⟨k3_⟩
    have n1_ : qag (Below w.heap.size w ((w24.setCell ⟨qej, 0, none⟩ (.int .i64 ((qae l0 qb2).f0))).setCell ⟨qej, 1, none⟩ (.int .i64 ((qae l0 qb2).f1)))) := ⟨qmt⟩
    (try clear qcr); (try clear HB)
    generalize ((w24.setCell ⟨qej, 0, none⟩ (.int .i64 ((qae l0 qb2).f0))).setCell ⟨qej, 1, none⟩ (.int .i64 ((qae l0 qb2).f1))) = w26 at n0_ n1_ ⊢
    have qcr := n0_; have HB := n1_; clear n0_ n1_; replace qcr := ak_ (qan qcr.out); replace HB := ak_ (qah HB.out); refine qeQ (n := 11) (S := fun w' => w'.cell? ⟨qej, 0, none⟩ = some (.int .i64 ((qae l0 qb2).f0)) ∧ w'.cell? ⟨qej, 1, none⟩ = some (.int .i64 ((qae l0 qb2).f1))) (ds := []) (rA_ [0, 11]) (by kernel_rfl) rfl rfl ⟨qed qcr.out, qbB qcr.out⟩ (fun hHeld => ?_); refine qdp qbm.tab9 qbm.bits9 (fun HT_ HW_ => ?_)
    generalize w26.drew = w27 at qcr HB hHeld ⊢
    refine pu_ 0 20 [1, 10] ?_; refine pu_ 1 21 [2, 9] ?_; refine pu_ 5 25 [2, 3, 1, 5] ?_; refine qip 2 22 [3, 2, 1, 5] ?_; refine qip 6 26 [3, 2, 2, 4] ?_; refine qfA (i := 3) (N := some 23) (rA_ [4, 1, 2, 4]) rfl rfl (qc5 HT_.out (by kernel_rfl)) (by decide) (fun K hK => ?_); refine qfz Tryz.func83 (by kernel_rfl) rfl #[.int .i64 ((qae l0 qb2).f0)] (by rfl) rfl rfl qbK ?_
    with_reducible refine (qbr.calls k1 ((qae l0 qb2).f0) t105 _ A19.out).mono ?_
    rintro e w28 ⟨rfl, hb⟩; refine ⟨_, rfl, ?_⟩; replace qcr := qcr.mw hb; replace HB := ak_ (qaa qmt hb); (try clear hb); (try clear hb2); (try clear hk); (try clear hi); refine hK.out _ _ ⟨qed qcr.out, qbB qcr.out⟩ (fun hHeld => ?_); clear hK K; refine nm_ 23 ?_; refine pu_ 4 24 [7, 4] ?_; refine qfA (i := 7) (N := some 27) (rA_ [8, 3]) rfl rfl (qc5 HT_.out (by kernel_rfl)) (by decide) (fun K hK => ?_); refine qfz Tryz.func83 (by kernel_rfl) rfl #[.int .i64 ((qae l0 qb2).f1)] (by rfl) rfl rfl qbK ?_
    with_reducible refine (qbr.calls k1 ((qae l0 qb2).f1) qfw _ A21.out).mono ?_
    rintro e w29 ⟨rfl, hb⟩; refine ⟨_, rfl, ?_⟩; replace qcr := qcr.mw hb; replace HB := ak_ (qaa qmt hb); (try clear hb); (try clear hb2); (try clear hk); (try clear hi); refine hK.out _ _ ⟨qed qcr.out, qbB qcr.out⟩ (fun hHeld => ?_); clear hK K; refine nm_ 27 ?_; refine pu_ 8 28 [9, 2] ?_; refine pu_ 9 29 [10, 1] ?_; refine pu_ 10 3 [11] ?_; refine qf4 (qeC HT_.out (by kernel_rfl)) ?_
    try go_wp2
    go_roundg k1
    case measure => have := HK1.out; omega
    case rel => exact ⟨(qbg ++ ((t105 ++ (⟨#[58]⟩ : ByteArray)) ++ qfw)), (wrap64 (qb2 + 1)), qav, qav, H', ⟨qc9⟩, ⟨qmt⟩⟩
   rw [if_pos c6] at H; have qfY : decide (0 < qb2) = true := decide_eq_true c6; clear c6; by_cases c7 : qbg.size + 1 ≤ 9223372036854775807; rotate_left
   ·rw [if_neg c7] at H; exact absurd H (by simp)
   rw [if_pos c7] at H; have qgM := eq_true c7; have qmr : decide (qbg.size + 1 ≤ 9223372036854775807) = true := decide_eq_true c7
   try have c7b2 : (9223372036854775807 < qbg.size + 1) = False := eq_false (Nat.not_lt.2 c7)
   obtain ⟨qb7, A8, H⟩ := qaw H; (try dsimp only at H); by_cases c9 : qb7.size + 1 ≤ 9223372036854775807; rotate_left
   ·rw [if_neg c9] at H; exact absurd H (by simp)
   rw [if_pos c9] at H; have qlX := eq_true c9; have c9b1 : decide (qb7.size + 1 ≤ 9223372036854775807) = true := decide_eq_true c9
   try have c9b2 : (9223372036854775807 < qb7.size + 1) = False := eq_false (Nat.not_lt.2 c9)
   obtain ⟨qcf, A10, H⟩ := qaw H; (try dsimp only at H); by_cases c11 : (qb7 ++ (⟨#[58]⟩ : ByteArray)).size + qcf.size ≤ 9223372036854775807; rotate_left
   ·rw [if_neg c11] at H; exact absurd H (by simp)
   rw [if_pos c11] at H; have qgs := eq_true c11; have qhl : decide ((qb7 ++ (⟨#[58]⟩ : ByteArray)).size + qcf.size ≤ 9223372036854775807) = true := decide_eq_true c11
   try have qrf : (9223372036854775807 < (qb7 ++ (⟨#[58]⟩ : ByteArray)).size + qcf.size) = False := eq_false (Nat.not_lt.2 c11)
   have c11b3 := qrf; simp only [ByteArray.size_append, show (⟨#[44]⟩ : ByteArray).size = 1 from rfl, show (⟨#[47]⟩ : ByteArray).size = 1 from rfl, show (⟨#[58]⟩ : ByteArray).size = 1 from rfl] at c11b3; by_cases c12 : (qbg ++ (⟨#[44]⟩ : ByteArray)).size + ((qb7 ++ (⟨#[58]⟩ : ByteArray)) ++ qcf).size ≤ 9223372036854775807; rotate_left
   ·rw [if_neg c12] at H; exact absurd H (by simp)
   rw [if_pos c12] at H; have qhm := eq_true c12; have c12b1 : decide ((qbg ++ (⟨#[44]⟩ : ByteArray)).size + ((qb7 ++ (⟨#[58]⟩ : ByteArray)) ++ qcf).size ≤ 9223372036854775807) = true := decide_eq_true c12
   try have c12b2 : (9223372036854775807 < (qbg ++ (⟨#[44]⟩ : ByteArray)).size + ((qb7 ++ (⟨#[58]⟩ : ByteArray)) ++ qcf).size) = False := eq_false (Nat.not_lt.2 c12)
   have c12b3 := c12b2; simp only [ByteArray.size_append, show (⟨#[44]⟩ : ByteArray).size = 1 from rfl, show (⟨#[47]⟩ : ByteArray).size = 1 from rfl, show (⟨#[58]⟩ : ByteArray).size = 1 from rfl] at c12b3; have H' := ak_ H; clear H; have qeE : 0 ≤ (qb2 : Int) := of_decide_eq_true qaU; have qeI : qb2 < (l0.length : Int) := of_decide_eq_true qaU; obtain ⟨qgB, qha, qbj, qcp⟩ := qdV HR0.out qb2 qeE qeI
   cases qha
   replace qbj := (HB.out.cell (World.block_lt_of_cell? w _ qbj)).trans qbj; replace qcp := (HB.out.cell (World.block_lt_of_cell? w _ qcp)).trans qcp; replace qeE := eq_true qeE; replace qeI := eq_true qeI
   try go_wp2_with (first | ((with_reducible refine qak (N := 5) rfl ?_); refine bx_ 5 rfl (cs := #[.int .i64 0, .int .i64 0]) (t := 85) qbb ?_; intro qej hg w13 hbox hb; have qcr := ak_ (hbox); have qgp := ak_ (HB.ge hg); have qgj := ak_ (HB.ge hg); replace HB := HB.mw hb; clear hb hbox hg; obtain ⟨hcz14_0, hcz14_1, hfz14_0, hfz14_1⟩ := qbG qcr.out))
   have n0_ : qag (((w13.setCell ⟨qej, 0, none⟩ (.int .i64 ((qae l0 qb2).f0))).setCell ⟨qej, 1, none⟩ (.int .i64 ((qae l0 qb2).f1))).heap[qej]? = some (.cells #[.int .i64 ((qae l0 qb2).f0), .int .i64 ((qae l0 qb2).f1)] 85 (0, 0))) := ⟨k3_⟩
   have n1_ : qag (Below w.heap.size w ((w13.setCell ⟨qej, 0, none⟩ (.int .i64 ((qae l0 qb2).f0))).setCell ⟨qej, 1, none⟩ (.int .i64 ((qae l0 qb2).f1)))) := ⟨qmt⟩
   (try clear qcr); (try clear HB)
   generalize ((w13.setCell ⟨qej, 0, none⟩ (.int .i64 ((qae l0 qb2).f0))).setCell ⟨qej, 1, none⟩ (.int .i64 ((qae l0 qb2).f1))) = w15 at n0_ n1_ ⊢
   have qcr := n0_; have HB := n1_; clear n0_ n1_; replace qcr := ak_ (qan qcr.out); replace HB := ak_ (qah HB.out); refine qeQ (n := 11) (S := fun w' => w'.cell? ⟨qej, 0, none⟩ = some (.int .i64 ((qae l0 qb2).f0)) ∧ w'.cell? ⟨qej, 1, none⟩ = some (.int .i64 ((qae l0 qb2).f1))) (ds := []) (rA_ [0, 11]) (by kernel_rfl) rfl rfl ⟨qed qcr.out, qbB qcr.out⟩ (fun hHeld => ?_); refine qdp qbm.tab9 qbm.bits9 (fun HT_ HW_ => ?_)
   generalize w15.drew = w16 at qcr HB hHeld ⊢
   refine pu_ 0 20 [1, 10] ?_; refine pu_ 1 21 [2, 9] ?_; refine pu_ 5 25 [2, 3, 1, 5] ?_; refine qip 2 22 [3, 2, 1, 5] ?_; refine qip 6 26 [3, 2, 2, 4] ?_; refine qfA (i := 3) (N := some 23) (rA_ [4, 1, 2, 4]) rfl rfl (qc5 HT_.out (by kernel_rfl)) (by decide) (fun K hK => ?_); refine qfz Tryz.func83 (by kernel_rfl) rfl #[.int .i64 ((qae l0 qb2).f0)] (by rfl) rfl rfl qbK ?_
   with_reducible refine (qbr.calls k1 ((qae l0 qb2).f0) qb7 _ A8.out).mono ?_
   rintro e w17 ⟨rfl, hb⟩; refine ⟨_, rfl, ?_⟩; replace qcr := qcr.mw hb; replace HB := ak_ (qaa qmt hb); (try clear hb); (try clear hb2); (try clear hk); (try clear hi); refine hK.out _ _ ⟨qed qcr.out, qbB qcr.out⟩ (fun hHeld => ?_); clear hK K; refine nm_ 23 ?_; refine pu_ 4 24 [7, 4] ?_; refine qfA (i := 7) (N := some 27) (rA_ [8, 3]) rfl rfl (qc5 HT_.out (by kernel_rfl)) (by decide) (fun K hK => ?_); refine qfz Tryz.func83 (by kernel_rfl) rfl #[.int .i64 ((qae l0 qb2).f1)] (by rfl) rfl rfl qbK ?_
   with_reducible refine (qbr.calls k1 ((qae l0 qb2).f1) qcf _ A10.out).mono ?_
   rintro e w18 ⟨rfl, hb⟩; refine ⟨_, rfl, ?_⟩; replace qcr := qcr.mw hb; replace HB := ak_ (qaa qmt hb); (try clear hb); (try clear hb2); (try clear hk); (try clear hi); refine hK.out _ _ ⟨qed qcr.out, qbB qcr.out⟩ (fun hHeld => ?_); clear hK K; refine nm_ 27 ?_; refine pu_ 8 28 [9, 2] ?_; refine pu_ 9 29 [10, 1] ?_; refine pu_ 10 3 [11] ?_; refine qf4 (qeC HT_.out (by kernel_rfl)) ?_
   try go_wp2
   go_roundg k1
   case measure => have := HK1.out; omega
   case rel => exact ⟨((qbg ++ (⟨#[44]⟩ : ByteArray)) ++ ((qb7 ++ (⟨#[58]⟩ : ByteArray)) ++ qcf)), (wrap64 (qb2 + 1)), qav, qav, H', ⟨qc9⟩, ⟨qmt⟩⟩
def qfa.f (qbL : Int) (qcx : Int) : Option (Bool) := (qbf.f qbL 2 60).bind fun qaI => (if qaI = true then ((qbf.f qcx 0 (wrap64 (qbL - 1))).bind fun qb7 => (some qb7)) else (some false))
theorem qfa.calls (qbL : Int) (qcx : Int) (r : Bool) (w : World) (h : qfa.f qbL qcx = some r) :
  Calls Tryz.prog 92 #[.agg #[.int .i64 qbL, .int .i64 qcx]] w fun e w' => e = .returned (.bool r) ∧ Below w.heap.size w w' := by
 have qms := Tryz.underlying85; have HB := ak_ (Below.refl w.heap.size w); have H : ((qbf.f qbL 2 60).bind fun qaI => (if qaI = true then ((qbf.f qcx 0 (wrap64 (qbL - 1))).bind fun qb7 => (some qb7)) else (some false))) = some r := h; clear h; obtain ⟨qaI, A2, H⟩ := qaw H; (try dsimp only at H); by_cases c3 : qaI = true
 ·subst c3; rw [if_pos rfl] at H; obtain ⟨qb7, A4, H⟩ := qaw H; (try dsimp only at H); obtain rfl := Option.some.inj H; go_enter Tryz.func92, Tryz.ntmps92
  go_wp2_with (first | ((with_reducible refine qak (N := 1) rfl ?_); refine bx_ 1 rfl (cs := #[.int .i64 qbL, .int .i64 qcx]) (t := 85) qbb ?_; intro qb8 hg w5 hbox hb; have qaF := ak_ (hbox); have qeJ := ak_ (HB.ge hg); have qen := ak_ (HB.ge hg); replace HB := HB.mw hb; clear hb hbox hg; obtain ⟨qj6, qj7, qj9, qka⟩ := qbG qaF.out) | (refine gl_ 5 Tryz.func93 #[.int .i64 qbL, .int .i64 2, .int .i64 60] rfl qbK ?_; (with_reducible refine (qbf.calls qbL 2 60 true _ A2.out).mono ?_); rintro e w' ⟨rfl, ⟨nd, rfl⟩⟩; refine ⟨_, rfl, ?_⟩) | (go_at_call 93; (with_reducible refine (qbf.calls qcx 0 (wrap64 (qbL - 1)) qb7 _ A4.out).mono ?_); rintro e w' ⟨rfl, ⟨nd, rfl⟩⟩))
  go_ret
  exact ⟨qce, qdt⟩
 replace c3 := Bool.eq_false_iff.mpr c3; subst c3; rw [if_neg (show ¬ (false = true) by decide)] at H; obtain rfl := Option.some.inj H; go_enter Tryz.func92, Tryz.ntmps92
 go_wp2_with (first | ((with_reducible refine qak (N := 1) rfl ?_); refine bx_ 1 rfl (cs := #[.int .i64 qbL, .int .i64 qcx]) (t := 85) qbb ?_; intro qb8 hg w7 hbox hb; have qaF := ak_ (hbox); have qeJ := ak_ (HB.ge hg); have qen := ak_ (HB.ge hg); replace HB := HB.mw hb; clear hb hbox hg; obtain ⟨qm6, qm7, qna, qnb⟩ := qbG qaF.out) | (refine gl_ 5 Tryz.func93 #[.int .i64 qbL, .int .i64 2, .int .i64 60] rfl qbK ?_; (with_reducible refine (qbf.calls qbL 2 60 false _ A2.out).mono ?_); rintro e w' ⟨rfl, ⟨nd, rfl⟩⟩; refine ⟨_, rfl, ?_⟩))
 go_ret
 exact ⟨qce, qdt⟩
def qaO.l0 : Nat → List (qac) → Int → Int → Option (Bool)
 | 0, _, _, _ => none
 | k + 1, x8, x9, x10 => if x10 < x9 then (if 0 ≤ x10 then (if x10 < (x8.length : Int) then ((qfa.f ((qae x8 x10).f0) ((qae x8 x10).f1)).bind fun qb7 => (if qb7 = true then (qaO.l0 k x8 x9 (wrap64 (x10 + 1))) else (some false))) else (none)) else (none)) else (some true)
def qaO.f (k : Nat) (l0 : List (qac)) : Option (Bool) := if (l0.length : Int) > 12 then (some false) else (qaO.l0 k l0 (l0.length : Int) 0)
theorem qaO.calls (k : Nat) (A0 : Option Addr) (c0 : Nat) (l0 : List (qac)) (r : Bool) (w : World) (hr0 : Kd.C qaN w A0 l0.length l0) (hc0 : l0.length ≤ c0) (h : qaO.f k l0 = some r) :
  Calls Tryz.prog 60 #[.slice A0 l0.length c0] w fun e w' => e = .returned (.bool r) ∧ Below w.heap.size w w' := by
 have qms := Tryz.underlying85; have HR0 := ak_ hr0; have HC0 := ak_ hc0; clear hr0 hc0; have HB := ak_ (Below.refl w.heap.size w); have H : (if (l0.length : Int) > 12 then (some false) else (qaO.l0 k l0 (l0.length : Int) 0)) = some r := h; clear h; by_cases c2 : (l0.length : Int) > 12
 ·rw [if_pos c2] at H; have qfe : decide (12 < (l0.length : Int)) = true := decide_eq_true c2; have qmJ : decide (12 < l0.length) = true := decide_eq_true (by omega); clear c2; obtain rfl := Option.some.inj H; go_enter Tryz.func60, Tryz.ntmps60; go_wp2
  go_ret
  exact ⟨qce, qam⟩
 rw [if_neg c2] at H; have qfe : decide (12 < (l0.length : Int)) = false := decide_eq_false c2; have qmJ : decide (12 < l0.length) = false := decide_eq_false (by omega); clear c2; have H' := ak_ H; clear H; go_enter Tryz.func60, Tryz.ntmps60; go_wp2
 go_loopg [10] k (fun kq v10 w' => ∃ (qca : Int), v10 = .int .i64 qca ∧ qag (qaO.l0 kq l0 (l0.length : Int) qca = some r) ∧ qag (kq ≤ k) ∧ qag (Below w.heap.size w w'))
 case atStart => exact ⟨(0), qav, H', ⟨Nat.le_refl _⟩, ⟨qam⟩⟩
 case round =>
  clear H'; (try clear c2); (try clear qfe); (try clear qmJ); obtain ⟨qca, rfl, HA, HK1, HB⟩ := hrel
  cases gk with
  | zero => exact absurd HA.out (by simp [qaO.l0])
  | succ k1 =>
   have H := HA.out; clear HA; simp only [qaO.l0] at H; by_cases c3 : qca < (l0.length : Int); rotate_left
   ·rw [if_neg c3] at H; have qff : decide (qca < (l0.length : Int)) = false := decide_eq_false c3; clear c3; obtain rfl := Option.some.inj H; go_wp2
    go_ret
    exact ⟨qce, qam⟩
   rw [if_pos c3] at H; have qff : decide (qca < (l0.length : Int)) = true := decide_eq_true c3; clear c3; by_cases c4 : 0 ≤ qca; rotate_left
   ·rw [if_neg c4] at H; exact absurd H (by simp)
   rw [if_pos c4] at H; have qfx : decide (0 ≤ qca) = true := decide_eq_true c4; clear c4; by_cases c5 : qca < (l0.length : Int); rotate_left
   ·rw [if_neg c5] at H; exact absurd H (by simp)
   rw [if_pos c5] at H; have qgH : decide (qca < (l0.length : Int)) = true := decide_eq_true c5; clear c5; obtain ⟨qb7, A6, H⟩ := qaw H; (try dsimp only at H); by_cases c7 : qb7 = true
   ·subst c7; rw [if_pos rfl] at H; have H' := ak_ H; clear H; have qeE : 0 ≤ (qca : Int) := of_decide_eq_true qaU; have qeI : qca < (l0.length : Int) := of_decide_eq_true qaU; obtain ⟨qgB, qha, qbj, qcp⟩ := qdV HR0.out qca qeE qeI
    cases qha
    replace qbj := (HB.out.cell (World.block_lt_of_cell? w _ qbj)).trans qbj; replace qcp := (HB.out.cell (World.block_lt_of_cell? w _ qcp)).trans qcp; replace qeE := eq_true qeE; replace qeI := eq_true qeI
    go_wp2_with (first | ((with_reducible refine qak (N := 4) rfl ?_); refine bx_ 4 rfl (cs := #[.int .i64 0, .int .i64 0]) (t := 85) qbb ?_; intro qej hg w8 hbox hb; have qcr := ak_ (hbox); have qgp := ak_ (HB.ge hg); have qgj := ak_ (HB.ge hg); replace HB := HB.mw hb; clear hb hbox hg; obtain ⟨qhq, qhr, qhs, qht⟩ := qbG qcr.out) | (refine gl_ 15 Tryz.func92 #[.agg #[.int .i64 ((qae l0 qca).f0), .int .i64 ((qae l0 qca).f1)]] rfl qbK ?_; (with_reducible refine (qfa.calls ((qae l0 qca).f0) ((qae l0 qca).f1) true _ A6.out).mono ?_); rintro e w10 ⟨rfl, hb⟩; refine ⟨_, rfl, ?_⟩; replace qcr := ak_ (qao (g := qej) (o := .cells #[.int .i64 ((qae l0 qca).f0), .int .i64 ((qae l0 qca).f1)] 85 (0, 0)) k2_ hb); replace HB := ak_ (qaa qmt hb); (try clear hb)))
    go_roundg k1
    case measure => have := HK1.out; omega
    case rel => exact ⟨(wrap64 (qca + 1)), qav, H', ⟨qc9⟩, ⟨qmt⟩⟩
   replace c7 := Bool.eq_false_iff.mpr c7; subst c7; rw [if_neg (show ¬ (false = true) by decide)] at H; obtain rfl := Option.some.inj H; have qeE : 0 ≤ (qca : Int) := of_decide_eq_true qaU; have qeI : qca < (l0.length : Int) := of_decide_eq_true qaU; obtain ⟨qgB, qha, qbj, qcp⟩ := qdV HR0.out qca qeE qeI
   cases qha
   replace qbj := (HB.out.cell (World.block_lt_of_cell? w _ qbj)).trans qbj; replace qcp := (HB.out.cell (World.block_lt_of_cell? w _ qcp)).trans qcp; replace qeE := eq_true qeE; replace qeI := eq_true qeI
   go_wp2_with (first | ((with_reducible refine qak (N := 4) rfl ?_); refine bx_ 4 rfl (cs := #[.int .i64 0, .int .i64 0]) (t := 85) qbb ?_; intro qej hg w11 hbox hb; have qcr := ak_ (hbox); have qgp := ak_ (HB.ge hg); have qgj := ak_ (HB.ge hg); replace HB := HB.mw hb; clear hb hbox hg; obtain ⟨qoo, qop, qou, qov⟩ := qbG qcr.out) | (refine gl_ 15 Tryz.func92 #[.agg #[.int .i64 ((qae l0 qca).f0), .int .i64 ((qae l0 qca).f1)]] rfl qbK ?_; (with_reducible refine (qfa.calls ((qae l0 qca).f0) ((qae l0 qca).f1) false _ A6.out).mono ?_); rintro e w13 ⟨rfl, hb⟩; refine ⟨_, rfl, ?_⟩; replace qcr := ak_ (qao (g := qej) (o := .cells #[.int .i64 ((qae l0 qca).f0), .int .i64 ((qae l0 qca).f1)] 85 (0, 0)) k2_ hb); replace HB := ak_ (qaa qmt hb); (try clear hb)))
   go_ret
   exact ⟨qce, qmt⟩
mutual
def qaH.l0 : Nat → ByteArray → List (qac) → Int → Int → Int → Option ((List (qac)) × Bool)
 | 0, _, _, _, _, _ => none
 | k + 1, x0, x4, x5, x6, x7 => if x7 ≤ (x0.size : Int) then (if x7 = (x0.size : Int) then (qaH.j1 k x0 x4 x5 x6 x7 true) else (if 0 ≤ x7 then (if x7 < (x0.size : Int) then (qaH.j1 k x0 x4 x5 x6 x7 ((bt x0 x7) == 44)) else (none)) else (none))) else ((qaO.f k x4).bind fun qas => (if qas = true then ((qbm.f k x4).bind fun qaI => (some (x4, (qaI.toList == x0.toList)))) else (some (x4, false))))
def qaH.j1 : Nat → ByteArray → List (qac) → Int → Int → Int → Bool → Option ((List (qac)) × Bool)
 | 0, _, _, _, _, _, _ => none
 | k + 1, x0, x4, x5, x6, x7, x19 => if x19 = true then (if x4.length < 8796093022208 then (qaH.l0 k x0 (x4 ++ [(⟨x6, x5⟩ : qac)]) 0 0 (wrap64 (x7 + 1))) else (none)) else (if 0 ≤ x7 then (if x7 < (x0.size : Int) then (if (bt x0 x7) = 58 then (qaH.l0 k x0 x4 0 x5 (wrap64 (x7 + 1))) else (if (bt x0 x7) ≥ 48 then (if (bt x0 x7) ≤ 57 then ((qfd.f 1000 (wrap64 ((wrap64 (10 * x5)) + (((bt x0 x7) - 48) % 256)))).bind fun qfw => (qaH.l0 k x0 x4 qfw x6 (wrap64 (x7 + 1)))) else (qaH.l0 k x0 x4 x5 x6 (wrap64 (x7 + 1)))) else (qaH.l0 k x0 x4 x5 x6 (wrap64 (x7 + 1))))) else (none)) else (none))
end
def qaH.f (k : Nat) (a0 : ByteArray) : Option ((List (qac)) × Bool) := if a0.toList = ([45] : List UInt8) then (some (([] : List (qac)), true)) else (if (a0.size : Int) > 72 then (some (([] : List (qac)), false)) else (qaH.l0 k a0 ([] : List (qac)) 0 0 0))
theorem qaH.calls (k : Nat) (a0 : ByteArray) (r1 : List (qac)) (r2 : Bool) (w : World) (h : qaH.f k a0 = some (r1, r2)) :
  Calls Tryz.prog 151 #[.string a0] w fun e w' => ∃ v0_ : Value, e = .returned (.tuple #[v0_, .bool r2]) ∧ Kd.R qaN 85 w' w.heap.size (fun _ => True) v0_ r1 ∧ Below w.heap.size w w' := by
 have qms := Tryz.underlying85; have HB := ak_ (Below.refl w.heap.size w); have H : (if a0.toList = ([45] : List UInt8) then (some (([] : List (qac)), true)) else (if (a0.size : Int) > 72 then (some (([] : List (qac)), false)) else (qaH.l0 k a0 ([] : List (qac)) 0 0 0))) = some (r1, r2) := h; clear h; by_cases c2 : a0.toList = ([45] : List UInt8)
 ·rw [if_pos c2] at H; have qfe : (a0.toList == ([45] : List UInt8)) = true := beq_iff_eq.mpr c2; have qmJ : (a0.toList != ([45] : List UInt8)) = false := bne_eq_false_iff_eq.mpr c2; clear c2; obtain ⟨rfl, rfl⟩ := qdI H; go_enter Tryz.func151, Tryz.ntmps151; go_wp2
  go_ret2
  exact ⟨_, qce, qg4, qam⟩
 rw [if_neg c2] at H; have qfe : (a0.toList == ([45] : List UInt8)) = false := beq_eq_false_iff_ne.mpr c2; have qmJ : (a0.toList != ([45] : List UInt8)) = true := bne_iff_ne.mpr c2; by_cases c3 : (a0.size : Int) > 72
 ·rw [if_pos c3] at H; have qff : decide (72 < (a0.size : Int)) = true := decide_eq_true c3; have qlV : decide (72 < a0.size) = true := decide_eq_true (by omega); clear c3; obtain ⟨rfl, rfl⟩ := qdI H; go_enter Tryz.func151, Tryz.ntmps151; go_wp2
  go_ret2
  exact ⟨_, qce, qg4, qam⟩
 rw [if_neg c3] at H; have qff : decide (72 < (a0.size : Int)) = false := decide_eq_false c3; have qlV : decide (72 < a0.size) = false := decide_eq_false (by omega); clear c3; have H' := ak_ H; clear H; go_enter Tryz.func151, Tryz.ntmps151; go_wp2
 go_loopg [4, 5, 6, 7] k (fun kq v4 v5 v6 v7 w' => ∃ (qcs : List (qac)) (qbP : Int) (qcU : Int) (qcZ : Int), v5 = .int .i64 qbP ∧ v6 = .int .i64 qcU ∧ v7 = .int .i64 qcZ ∧ qag (qaH.l0 kq a0 qcs qbP qcU qcZ = some (r1, r2)) ∧ qag (kq ≤ k) ∧ qag (Kd.R qaN 85 w' w.heap.size (fun _ => True) v4 qcs) ∧ qag (Below w.heap.size w w'))
 case atStart => exact ⟨(([] : List (qac))), (0), (0), (0), qav, qav, qav, H', ⟨Nat.le_refl _⟩, ⟨qg4⟩, ⟨qam⟩⟩
 case round =>
  clear H'; (try clear c2); (try clear qfe); (try clear qmJ); (try clear c3); (try clear qff); (try clear qlV); obtain ⟨qcs, qbP, qcU, qcZ, rfl, rfl, rfl, HA, HK1, qdn, HB⟩ := hrel
  cases gk with
  | zero => exact absurd HA.out (by simp [qaH.l0])
  | succ k1 =>
   have H := HA.out; clear HA; simp only [qaH.l0] at H; by_cases c4 : qcZ ≤ (a0.size : Int); rotate_left
   ·rw [if_neg c4] at H; have qfx : decide (qcZ ≤ (a0.size : Int)) = false := decide_eq_false c4; clear c4; obtain ⟨qas, A23, H⟩ := qaw H; (try dsimp only at H); by_cases c24 : qas = true
    ·subst c24; rw [if_pos rfl] at H; obtain ⟨qaI, A25, H⟩ := qaw H; (try dsimp only at H); obtain ⟨rfl, rfl⟩ := qdI H; obtain ⟨Ao26, co26, eo26⟩ := Kd.qaJ qdn.out; subst eo26
     go_wp2_with (first | (refine gl_ 64 Tryz.func60 #[.slice Ao26 qcs.length co26] rfl qbK ?_; (with_reducible refine (qaO.calls k1 _ _ qcs true _ ?qay ?qaz A23.out).mono ?_); (case qay => exact k42_); (case qaz => exact (Kd.R_reads' qdn.out).2.1); rintro e w27 ⟨rfl, hb⟩; refine ⟨_, rfl, ?_⟩; replace qdn := qdn.mw hb; replace HB := HB.mw hb; (try clear hb)) | (go_at_call 207; (with_reducible refine (qbm.calls k1 _ _ qcs qaI _ ?qay ?qaz A25.out).mono ?_); (case qay => exact k42_); (case qaz => exact (Kd.R_reads' qdn.out).2.1); rintro e w28 ⟨rfl, hb⟩; replace qdn := qdn.mw hb; replace HB := HB.mw hb; (try clear hb)))
     go_ret2
     exact ⟨_, qce, by (with_reducible repeat (first | apply Kd.qaq | apply Kd.qar | apply Kd.qaC)); exact qdn.out, qam⟩
    replace c24 := Bool.eq_false_iff.mpr c24; subst c24; rw [if_neg (show ¬ (false = true) by decide)] at H; obtain ⟨rfl, rfl⟩ := qdI H; obtain ⟨Ao29, co29, eo29⟩ := Kd.qaJ qdn.out; subst eo29
    go_wp2_with (first | (refine gl_ 64 Tryz.func60 #[.slice Ao29 qcs.length co29] rfl qbK ?_; (with_reducible refine (qaO.calls k1 _ _ qcs false _ ?qay ?qaz A23.out).mono ?_); (case qay => exact k42_); (case qaz => exact (Kd.R_reads' qdn.out).2.1); rintro e w30 ⟨rfl, hb⟩; refine ⟨_, rfl, ?_⟩; replace qdn := qdn.mw hb; replace HB := HB.mw hb; (try clear hb)))
    go_ret2
    exact ⟨_, qce, by (with_reducible repeat (first | apply Kd.qaq | apply Kd.qar | apply Kd.qaC)); exact qdn.out, qam⟩
   rw [if_pos c4] at H; have qfx : decide (qcZ ≤ (a0.size : Int)) = true := decide_eq_true c4; clear c4; have HC5 := ak_ H; clear H
   go_upto_region 10 with (fail)
   go_cut [19] (fun v19 wc => ∃ (kq : Nat) (x19_4 : Bool), v19 = .bool x19_4 ∧ qag (qaH.j1 kq a0 qcs qbP qcU qcZ x19_4 = some (r1, r2)) ∧ qag (kq ≤ k1) ∧ qag (Kd.R qaN 85 wc w.heap.size (fun _ => True) u4 qcs) ∧ qag (Below w.heap.size w wc))
   case first =>
    have H := HC5.out; clear HC5; by_cases c6 : qcZ = (a0.size : Int)
    ·rw [if_pos c6] at H; have qfY : (qcZ == (a0.size : Int)) = true := beq_iff_eq.mpr c6; have qmK : (qcZ != (a0.size : Int)) = false := bne_eq_false_iff_eq.mpr c6; clear c6; (first | rw [qfY] | rw [qmK] | (simp only [qcF, qcO]; rw [qfY]) | skip); have H' := ak_ H; clear H; go_wp2; go_meet
     case rel => exact ⟨_, (true), qav, H', ⟨by have := HK1.out; first | omega | exact Nat.le_refl _⟩, ⟨qjI⟩, ⟨qam⟩⟩
    rw [if_neg c6] at H; have qfY : (qcZ == (a0.size : Int)) = false := beq_eq_false_iff_ne.mpr c6; have qmK : (qcZ != (a0.size : Int)) = true := bne_iff_ne.mpr c6; (first | rw [qfY] | rw [qmK] | (simp only [qcF, qcO]; rw [qfY]) | skip); by_cases c7 : 0 ≤ qcZ; rotate_left
    ·rw [if_neg c7] at H; exact absurd H (by simp)
    rw [if_pos c7] at H; have qgM : decide (0 ≤ qcZ) = true := decide_eq_true c7; clear c7; by_cases c8 : qcZ < (a0.size : Int); rotate_left
    ·rw [if_neg c8] at H; exact absurd H (by simp)
    rw [if_pos c8] at H; have qnK : decide (qcZ < (a0.size : Int)) = true := decide_eq_true c8; clear c8; have H' := ak_ H; clear H; have p9 : 0 ≤ (qcZ : Int) := of_decide_eq_true qaU; have q9 : qcZ < (a0.size : Int) := of_decide_eq_true qaU; have hx9 := qel a0 qcZ; replace p9 := eq_true p9; replace q9 := eq_true q9; go_wp2; go_meet
    case rel => exact ⟨_, (((bt a0 qcZ) == 44)), qav, H', ⟨by have := HK1.out; first | omega | exact Nat.le_refl _⟩, ⟨qjI⟩, ⟨qam⟩⟩
   case rest =>
    clear HC5; (try clear c2); (try clear qfe); (try clear qmJ); (try clear c3); (try clear qff); (try clear qlV); (try clear c4); (try clear qfx); obtain ⟨kq, x19_4, rfl, HA, HJ4, qdn, HB⟩ := hcut
    cases kq with
    | zero => exact absurd HA.out (by simp [qaH.j1])
    | succ kj4 =>
     have H := HA.out; clear HA; simp only [qaH.j1] at H; by_cases c10 : x19_4 = true
     ·subst c10; rw [if_pos rfl] at H; by_cases c11 : qcs.length < 8796093022208; rotate_left
      ·rw [if_neg c11] at H; exact absurd H (by simp)
      rw [if_pos c11] at H; have qnT := ak_ c11; clear c11
      obtain ⟨qlI, hy_⟩ : ∃ y_ : List (qac), y_ = (qcs ++ [(⟨qcU, qbP⟩ : qac)]) := ⟨_, rfl⟩
      replace H : (qaH.l0 kj4 a0 qlI 0 0 (wrap64 (qcZ + 1))) = some (r1, r2) := qe6; have qlL := ak_ hy_; clear hy_; have H' := ak_ H; clear H
      go_wp2_with (first | ((with_reducible refine qa3 (b := .append) (xs := #[.tmp 30, .tmp 34]) rfl ?_); at_builtin; refine Kd.qc8 qaN (w0 := w) w.heap.size rfl (.tmp 30) (.tmp 34) 26 85 (.agg #[(.int .i64 0), (.int .i64 0)]) 16 rfl Tryz.underlying26 qfQ rfl (by decide) (by omega) u4 qcs (⟨qcU, qbP⟩ : qac) [.int .i64 qcU, .int .i64 qbP] (fun _ => True) (fun _ => False) rfl rfl ?aP (fun _ hk => hk.elim) ?aF ?aO ?aB ?aS ?aL ?_; (case aP => exact qdo _ _ _ (⟨qcU, qbP⟩ : qac)); (case aB => exact qam); (case aF => exact (fun _ _ => trivial)); (case aO => exact qjI); (case aS => exact (qab qam)); (case aL => have := qnT.out; omega); intro qsS w12 ho hb hg hat; rw [← qlL.out] at ho; replace HB := ak_ (hb); have qeH := ak_ (ho); clear qdn; clear ho hb hg hat))
      go_roundg kj4
      case measure => have := HK1.out; have := HJ4.out; omega
      case rel => exact ⟨(qlI), (0), (0), (wrap64 (qcZ + 1)), qav, qav, qav, H', ⟨by have := HK1.out; have := HJ4.out; omega⟩, ⟨by apply_rules only [qeH.out, Kd.qaq, Kd.qar, Kd.qaC]⟩, ⟨qam⟩⟩
     replace c10 := Bool.eq_false_iff.mpr c10; subst c10; rw [if_neg (show ¬ (false = true) by decide)] at H; by_cases c13 : 0 ≤ qcZ; rotate_left
     ·rw [if_neg c13] at H; exact absurd H (by simp)
     rw [if_pos c13] at H; have qlU : decide (0 ≤ qcZ) = true := decide_eq_true c13; clear c13; by_cases c14 : qcZ < (a0.size : Int); rotate_left
     ·rw [if_neg c14] at H; exact absurd H (by simp)
     rw [if_pos c14] at H; have qn9 : decide (qcZ < (a0.size : Int)) = true := decide_eq_true c14; clear c14; by_cases c16 : (bt a0 qcZ) = 58
     ·rw [if_pos c16] at H; have c16b0 : ((bt a0 qcZ) == 58) = true := beq_iff_eq.mpr c16; have c16b1 : ((bt a0 qcZ) != 58) = false := bne_eq_false_iff_eq.mpr c16; clear c16; have H' := ak_ H; clear H; have p15 : 0 ≤ (qcZ : Int) := of_decide_eq_true qaU; have q15 : qcZ < (a0.size : Int) := of_decide_eq_true qaU; have hx15 := qel a0 qcZ; replace p15 := eq_true p15; replace q15 := eq_true q15; go_wp2
      go_roundg kj4
      case measure => have := HK1.out; have := HJ4.out; omega
      case rel => exact ⟨(qcs), (0), (qbP), (wrap64 (qcZ + 1)), qav, qav, qav, H', ⟨by have := HK1.out; have := HJ4.out; omega⟩, ⟨qjI⟩, ⟨qam⟩⟩
     rw [if_neg c16] at H; have c16b0 : ((bt a0 qcZ) == 58) = false := beq_eq_false_iff_ne.mpr c16; have c16b1 : ((bt a0 qcZ) != 58) = true := bne_iff_ne.mpr c16; by_cases c18 : (bt a0 qcZ) ≥ 48; rotate_left
     ·rw [if_neg c18] at H; have qqc : decide (48 ≤ (bt a0 qcZ)) = false := decide_eq_false c18; clear c18; have H' := ak_ H; clear H; have p15 : 0 ≤ (qcZ : Int) := of_decide_eq_true qaU; have q15 : qcZ < (a0.size : Int) := of_decide_eq_true qaU; have hx15 := qel a0 qcZ; replace p15 := eq_true p15; replace q15 := eq_true q15; have p17 : 0 ≤ (qcZ : Int) := of_decide_eq_true qaU; have q17 : qcZ < (a0.size : Int) := of_decide_eq_true qaU; have hx17 := qel a0 qcZ; replace p17 := eq_true p17; replace q17 := eq_true q17; go_wp2
      go_roundg kj4
      case measure => have := HK1.out; have := HJ4.out; omega
      case rel => exact ⟨(qcs), (qbP), (qcU), (wrap64 (qcZ + 1)), qav, qav, qav, H', ⟨by have := HK1.out; have := HJ4.out; omega⟩, ⟨qjI⟩, ⟨qam⟩⟩
     rw [if_pos c18] at H; have qqc : decide (48 ≤ (bt a0 qcZ)) = true := decide_eq_true c18; clear c18; by_cases c20 : (bt a0 qcZ) ≤ 57; rotate_left
     ·rw [if_neg c20] at H; have c20b0 : decide ((bt a0 qcZ) ≤ 57) = false := decide_eq_false c20; clear c20; have H' := ak_ H; clear H; have p15 : 0 ≤ (qcZ : Int) := of_decide_eq_true qaU; have q15 : qcZ < (a0.size : Int) := of_decide_eq_true qaU; have hx15 := qel a0 qcZ; replace p15 := eq_true p15; replace q15 := eq_true q15; have p17 : 0 ≤ (qcZ : Int) := of_decide_eq_true qaU; have q17 : qcZ < (a0.size : Int) := of_decide_eq_true qaU; have hx17 := qel a0 qcZ; replace p17 := eq_true p17; replace q17 := eq_true q17; have p19 : 0 ≤ (qcZ : Int) := of_decide_eq_true qaU; have q19 : qcZ < (a0.size : Int) := of_decide_eq_true qaU; have hx19 := qel a0 qcZ; replace p19 := eq_true p19; replace q19 := eq_true q19; go_wp2
      go_roundg kj4
      case measure => have := HK1.out; have := HJ4.out; omega
      case rel => exact ⟨(qcs), (qbP), (qcU), (wrap64 (qcZ + 1)), qav, qav, qav, H', ⟨by have := HK1.out; have := HJ4.out; omega⟩, ⟨qjI⟩, ⟨qam⟩⟩
     rw [if_pos c20] at H; have c20b0 : decide ((bt a0 qcZ) ≤ 57) = true := decide_eq_true c20; clear c20; obtain ⟨qfw, A22, H⟩ := qaw H; (try dsimp only at H); have H' := ak_ H; clear H; have p15 : 0 ≤ (qcZ : Int) := of_decide_eq_true qaU; have q15 : qcZ < (a0.size : Int) := of_decide_eq_true qaU; have hx15 := qel a0 qcZ; replace p15 := eq_true p15; replace q15 := eq_true q15; have p17 : 0 ≤ (qcZ : Int) := of_decide_eq_true qaU; have q17 : qcZ < (a0.size : Int) := of_decide_eq_true qaU; have hx17 := qel a0 qcZ; replace p17 := eq_true p17; replace q17 := eq_true q17; have p19 : 0 ≤ (qcZ : Int) := of_decide_eq_true qaU; have q19 : qcZ < (a0.size : Int) := of_decide_eq_true qaU; have hx19 := qel a0 qcZ; replace p19 := eq_true p19; replace q19 := eq_true q19; have p21 : 0 ≤ (qcZ : Int) := of_decide_eq_true qaU; have q21 : qcZ < (a0.size : Int) := of_decide_eq_true qaU; have hx21 := qel a0 qcZ; replace p21 := eq_true p21; replace q21 := eq_true q21
     go_wp2_with (first | (refine gl_ 61 Tryz.func206 #[.int .i64 1000, .int .i64 (wrap64 ((wrap64 (10 * qbP)) + (((bt a0 qcZ) - 48) % 256)))] rfl qbK ?_; (with_reducible refine (qfd.calls 1000 (wrap64 ((wrap64 (10 * qbP)) + (((bt a0 qcZ) - 48) % 256))) qfw _ A22.out).mono ?_); rintro e w' ⟨rfl, ⟨nd, rfl⟩⟩; refine ⟨_, rfl, ?_⟩))
     go_roundg kj4
     case measure => have := HK1.out; have := HJ4.out; omega
     case rel => exact ⟨(qcs), (qfw), (qcU), (wrap64 (qcZ + 1)), qav, qav, qav, H', ⟨by have := HK1.out; have := HJ4.out; omega⟩, ⟨qjI⟩, ⟨qam⟩⟩
def qby.f (k : Nat) (a0 : ByteArray) : Option ((List (qac)) × Bool) := (qaH.f k a0).bind fun qc6 => (if qc6.2 = true then (some (qc6.1, true)) else (some (([] : List (qac)), false)))
theorem qby.calls (k : Nat) (a0 : ByteArray) (r1 : List (qac)) (r2 : Bool) (w : World) (h : qby.f k a0 = some (r1, r2)) :
  Calls Tryz.prog 96 #[.string a0] w fun e w' => ∃ v0_ : Value, e = .returned (.tuple #[v0_, .bool r2]) ∧ Kd.R qaN 85 w' w.heap.size (fun _ => True) v0_ r1 ∧ Below w.heap.size w w' := by
 have HB := ak_ (Below.refl w.heap.size w); have H : ((qaH.f k a0).bind fun qc6 => (if qc6.2 = true then (some (qc6.1, true)) else (some (([] : List (qac)), false)))) = some (r1, r2) := h; clear h; obtain ⟨⟨qas, qaI⟩, A2, H⟩ := qaw H; (try dsimp only at H); by_cases c3 : qaI = true
 ·subst c3; rw [if_pos rfl] at H; obtain ⟨rfl, rfl⟩ := qdI H; go_enter Tryz.func96, Tryz.ntmps96
  go_wp2_with (first | (refine gl_ 8 Tryz.func151 #[.string a0] rfl qbK ?_; (with_reducible refine (qaH.calls k a0 qas true _ A2.out).mono ?_); rintro e w4 ⟨qhg, rfl, ho0, hb⟩; refine ⟨_, rfl, ?_⟩; have qbW := ak_ (Kd.qau ho0 (qab qam)); replace HB := HB.mw hb; (try clear hb ho0)))
  go_ret2
  exact ⟨_, qce, k63_, qam⟩
 replace c3 := Bool.eq_false_iff.mpr c3; subst c3; rw [if_neg (show ¬ (false = true) by decide)] at H; obtain ⟨rfl, rfl⟩ := qdI H; go_enter Tryz.func96, Tryz.ntmps96
 go_wp2_with (first | (refine gl_ 8 Tryz.func151 #[.string a0] rfl qbK ?_; (with_reducible refine (qaH.calls k a0 qas false _ A2.out).mono ?_); rintro e w5 ⟨qhg, rfl, ho0, hb⟩; refine ⟨_, rfl, ?_⟩; have qbW := ak_ (Kd.qau ho0 (qab qam)); replace HB := HB.mw hb; (try clear hb ho0)))
 go_ret2
 exact ⟨_, qce, qg4, qam⟩
theorem qmP (g n c : Nat) (hn : 0 < n) (hc : n ≤ c) : ∃ A2 : Addr, (∀ W : World, (Instr.slice 43 (.slice (some ⟨g, 0, none⟩) n c) (some (.int .i64 1)) none none).run Tryz.prog W = .ok (.slice (some A2) (n - 1) (c - 1)) W) ∧ (1 < n → A2 = ⟨g, 1, none⟩) := by
  obtain ⟨i0_, qnL, _, hsz_, _⟩ := info_parts ql7; have h := qjE (P := Tryz.prog) 43 9 .i64 Tryz.underlying43 qnL 1 hsz_ (some ⟨g, 0, none⟩) n c 1 (by omega) (by omega); by_cases hc1 : c = 1
  ·exact ⟨⟨g, 0, none⟩, fun W => by rw [h W, if_pos (by omega)]; rfl, fun h_ => by omega⟩
  exact ⟨⟨g, 1, none⟩, fun W => by rw [h W, if_neg (by omega)]; rfl, fun _ => rfl⟩
def qho (k : Nat) (c : Cmd) (t : List ByteArray) : Option (Option (Cmd × List qac × ByteArray × Int)) := if t.length = c.kind.length then (match c.kind, t with
  | [], _ => some (some (c, [], ⟨#[]⟩, 0))
  | 110 :: _, y :: _ => (qaV.f k y).bind fun n => if n ≥ 0 then some (some (c, [], ⟨#[]⟩, n)) else some none
  | 114 :: _, y :: _ => (qby.f k y).bind fun q => if q.2 = true then some (some (c, q.1, ⟨#[]⟩, 0)) else some none
  | _, y :: _ => some (some (c, [], y, 0))
  | _, [] => none) else some none
def qgg.f (k : Nat) (s : ByteArray) : Option (Option (Cmd × List qac × ByteArray × Int)) := (qbi.f k s 32).bind fun ws => if ws.length ≤ 1048577 then (match ws with
  | [] => none
  | x :: t => match qhn x with
    | none => some none
    | some c => qho k c t) else none
theorem qhp (k : Nat) (A0 : Option Addr) (c0 : Nat) (rs : List qac) (mo : Int) (s : ByteArray) (r : Option (Cmd × List qac × ByteArray × Int)) (w : World) (h : qgg.f k s = some r) :
    Calls Tryz.prog 62 #[.agg #[.slice A0 rs.length c0, .int .i64 mo], .string s] w fun e w' => ∃ (x : ByteArray) (A1 : Option Addr) (n1 c1 : Nat) (tx : ByteArray) (n : Int) (b : Bool), e = .returned (.tuple #[.string x, .agg #[.slice A0 rs.length c0, .int .i64 mo, .slice A1 n1 c1, .string tx, .int .i64 n], .bool b]) ∧ ((r = none ∧ b = false) ∨ (∃ c lr, r = some (c, lr, tx, n) ∧ b = true ∧ x = c.word ∧ n1 = lr.length ∧ Kd.R qaN 85 w' w.heap.size (fun _ => True) (.slice A1 lr.length c1) lr)) ∧ Below w.heap.size w w' := by
  have hu := Tryz.underlying81; have hu2 := Tryz.underlying28; have HB := ak_ (Below.refl w.heap.size w); unfold qgg.f at h; obtain ⟨ws, A1, h⟩ := qaw h; by_cases hwm : ws.length ≤ 1048577; rotate_left
  · rw [if_neg hwm] at h
    exact absurd h (by simp)
  rw [if_pos hwm] at h
  cases hw0 : ws with
  | nil => rw [hw0] at h; exact absurd h (by simp)
  | cons x0 t =>
    rw [hw0] at h; dsimp only at h
    have hwr_ : wrap64 ((ws.length : Int) - 1) = (ws.length : Int) - 1 := by unfold wrap64; omega
    have hwi_ : IntKind.i64.wrap ((ws.length : Int) - 1) = (ws.length : Int) - 1 := by rw [qcF]; exact hwr_
    have HWP := ak_ (show 0 < ws.length from by rw [hw0]; simp)
    have hlt0 : (0 : Int) < (ws.length : Int) := by have := HWP.out; omega
    have HX0 := ak_ (show ws[0]? = some x0 from by rw [hw0]; rfl)
    have hwl : ws.length = t.length + 1 := by rw [hw0]; rfl
    have HWL := ak_ (show ws.length - 1 = t.length from by omega); have HXT := ak_ (show ∀ y, t = [y] → ws[1]? = some y from fun y hy => by rw [hw0, hy]; rfl)
    obtain ⟨sh, hsh, hshc⟩ : ∃ sh, qeP.f x0 = some sh ∧ ((qhn x0 = none ∧ sh = ⟨#[63]⟩ ∧ r = none) ∨ ∃ c, qhn x0 = some c ∧ sh = ⟨c.kind.toArray⟩ ∧ qho k c t = some r) := by
      unfold qeP.f
      cases hc : qhn x0 with
      | none => rw [hc] at h; exact ⟨_, rfl, .inl ⟨rfl, rfl, (Option.some.inj h).symm⟩⟩
      | some c => rw [hc] at h; exact ⟨_, rfl, .inr ⟨c, rfl, rfl, h⟩⟩
    have HSH := ak_ hsh
    have hszk : ∀ c : Cmd, (⟨c.kind.toArray⟩ : ByteArray).size = c.kind.length := fun c => by simp [ByteArray.size]
    clear h hsh hw0 hwm; by_cases hle : sh.size = t.length; rotate_left
    ·have hlb : ((sh.size : Int) != wrap64 ((ws.length : Int) - 1)) = true := by rw [hwr_]; exact bne_iff_ne.2 (by omega)
     have hlb2 : ((sh.size : Int) != (ws.length : Int) - 1) = true := bne_iff_ne.2 (by omega)
     have hlc : ((sh.size : Int) == wrap64 ((ws.length : Int) - 1)) = false := by rw [hwr_]; exact beq_eq_false_iff_ne.2 (by omega)
     have HRN := ak_ (show r = none from by
       rcases hshc with ⟨-, -, h_⟩ | ⟨c, -, e_, h_⟩
       ·exact h_
       unfold qho at h_; rw [if_neg (fun e2_ => hle (by rw [e_, hszk, e2_]))] at h_
       exact (Option.some.inj h_).symm)
     clear hle hshc hwr_ hwi_ hwl; go_enter Tryz.func62, Tryz.ntmps62
     go_wp2_with (first | ((with_reducible refine qak (N := 2) rfl ?_); (try (refine qbH (by rfl) ?_; dsimp only)); refine qdH ?hg (N := 2) ?hd (cs := #[.slice A0 rs.length c0, .int .i64 mo]) (t := 28) ?hr ?_; (case hd => rfl); (case hg => rfl); (case hr => first | (go_simp; done) | (go_simp; rfl)); intro g2 hg w2 hbox hb; have B2 := ak_ hbox; replace HB := ak_ (qaa (by apply_rules only [HB.out, qai, qaf, qah]) hb); obtain ⟨qpA, qpq⟩ := qcv B2.out; have qpB := qbB B2.out; have qpr := qad B2.out 1; clear hb hbox hg) | ((with_reducible refine qak (N := 5) rfl ?_); (try (refine qbH (by rfl) ?_; dsimp only)); refine qdH ?hg (N := 5) ?hd (cs := #[(.slice none 0 0), (.int .i64 0), (.slice none 0 0), (.string (⟨#[]⟩ : ByteArray)), (.int .i64 0)]) (t := 81) ?hr ?_; (case hd => rfl); (case hg => rfl); (case hr => first | (go_simp; done) | (go_simp; rfl)); intro g5 hg w5 hbox hb; have B5 := ak_ hbox; have G5 := ak_ (show w.heap.size ≤ g5 from by rw [hg]; exact qab (by apply_rules only [HB.out, qai, qaf, qah])); replace B2 := B2.mw hb; replace HB := ak_ (qaa (by apply_rules only [HB.out, qai, qaf, qah]) hb); obtain ⟨haw5_0, faw5_0⟩ := qcv B2.out; have haw5_1 := qbB B2.out; have faw5_1 := qad B2.out 1; clear hb hbox hg) | ((with_reducible refine qak (N := 7) rfl ?_); (try (refine qbH (by rfl) ?_; dsimp only)); refine qdH ?hg (N := 7) ?hd (cs := #[(.slice none 0 0), (.int .i64 0), (.slice none 0 0), (.string (⟨#[]⟩ : ByteArray)), (.int .i64 0)]) (t := 81) ?hr ?_; (case hd => rfl); (case hg => rfl); (case hr => first | (go_simp; done) | (go_simp; rfl)); intro g7 hg w7 hbox hb; have B7 := ak_ hbox; have G7 := ak_ (show w.heap.size ≤ g7 from by rw [hg]; exact qab (by apply_rules only [HB.out, qai, qaf, qah])); have NE := ak_ (show g5 ≠ g7 from by rw [hg]; exact Nat.ne_of_lt (qdT (by apply_rules only [B5.out, qal, qan, qaj]))); replace B5 := B5.mw hb; replace HB := ak_ (qaa (by apply_rules only [HB.out, qai, qaf, qah]) hb); obtain ⟨qpC, qps⟩ := qcv B7.out; have qpD := qbB B7.out; have qpt := qad B7.out 1; have qpE := qfl B7.out; have qpu := qad B7.out 2; have qpF := qft B7.out; have qpv := qad B7.out 3; have qpG := qfu B7.out; have qpw := qad B7.out 4; clear hb hbox hg) | ((with_reducible refine qdD (f := 39) rfl ?_); (try (refine qbH (by rfl) ?_; dsimp only)); refine qgD (some 16) rfl rfl Tryz.func39 (by kernel_rfl) rfl #[.string s, .int .u8 32] rfl (by (try simp only [List.map_toArray, List.map_cons, List.map_nil]); first | done | rfl) ?_; (refine (qbi.calls k s 32 ws _ A1.out).mono ?_); rintro e w16 ⟨vw, rfl, how, hb⟩; refine ⟨_, rfl, ?_⟩; have hW := qaa (w := w) (by with_reducible repeat (first | exact HB.out | refine qap ?_ G7.out | apply qai | apply qaf | apply qah)) hb; have HW := ak_ (Kd.qau how (qab (w := w) (by with_reducible repeat (first | exact HB.out | refine qap ?_ G7.out | apply qai | apply qaf | apply qah)))); have B7_ := ak_ (show w16.heap[g7]? = some (.cells #[(.slice A0 rs.length c0), (.int .i64 mo), (.slice none 0 0), (.string (⟨#[]⟩ : ByteArray)), (.int .i64 0)] 81 (0, 0)) from qao (by apply ho_; (with_reducible repeat (first | exact B7.out | refine qal ?_ _ | refine qan ?_ | refine qaj ?_ _ | apply qeB)); rfl) hb); have B5_ := ak_ (show w16.heap[g5]? = some (.cells #[(.slice none 0 0), (.int .i64 0), (.slice none 0 0), (.string (⟨#[]⟩ : ByteArray)), (.int .i64 0)] 81 (0, 0)) from qao (by (with_reducible repeat (first | refine qal ?_ _ | refine qan ?_ | refine qaj ?_ _ | refine qcY ?_ (by exact NE.out) _)); exact B5.out) hb); clear B7 B5 B2 HB; have B7 := B7_; have B5 := B5_; have HB := ak_ hW; clear B7_ B5_ hW hb how; obtain ⟨gw, cw, ew, -⟩ := Kd.qeX HW.out HWP.out; subst ew; obtain ⟨A2, hcut_, hA2_⟩ := qmP gw ws.length cw HWP.out (Kd.R_reads' HW.out).2.1; rw [HWL.out] at hcut_; have HA2 := ak_ hA2_; clear hA2_; obtain ⟨hbw16_0, fbw16_0⟩ := qcv B7.out; have hbw16_1 := qbB B7.out; have fbw16_1 := qad B7.out 1; have hbw16_2 := qfl B7.out; have fbw16_2 := qad B7.out 2; have hbw16_3 := qft B7.out; have fbw16_3 := qad B7.out 3; have hbw16_4 := qfu B7.out; have fbw16_4 := qad B7.out 4; obtain ⟨hzw16_0, fzw16_0⟩ := qcv B5.out; have hzw16_1 := qbB B5.out; have fzw16_1 := qad B5.out 1; have hzw16_2 := qfl B5.out; have fzw16_2 := qad B5.out 2; have hzw16_3 := qft B5.out; have fzw16_3 := qad B5.out 3; have hzw16_4 := qfu B5.out; have fzw16_4 := qad B5.out 4; have hsw16_0 : w16.cell? ⟨gw, 0, none⟩ = some (.string x0) := qcP HW.out 0 x0 HX0.out) | ((with_reducible refine qdD (f := 94) rfl ?_); (try (refine qbH (by rfl) ?_; dsimp only)); refine qgD (some 20) rfl rfl Tryz.func94 (by kernel_rfl) rfl #[.string x0] rfl (by (try simp only [List.map_toArray, List.map_cons, List.map_nil]); first | done | rfl) ?_; (refine (qeP.calls x0 sh _ HSH.out).mono ?_); rintro e w20 ⟨rfl, hb⟩; refine ⟨_, rfl, ?_⟩; replace HW := HW.mw hb; replace B7 := B7.mw hb; replace B5 := B5.mw hb; replace HB := ak_ (qaa (by apply_rules only [HB.out, qai, qaf, qah]) hb); obtain ⟨hbw20_0, fbw20_0⟩ := qcv B7.out; have hbw20_1 := qbB B7.out; have fbw20_1 := qad B7.out 1; have hbw20_2 := qfl B7.out; have fbw20_2 := qad B7.out 2; have hbw20_3 := qft B7.out; have fbw20_3 := qad B7.out 3; have hbw20_4 := qfu B7.out; have fbw20_4 := qad B7.out 4; obtain ⟨hzw20_0, fzw20_0⟩ := qcv B5.out; have hzw20_1 := qbB B5.out; have fzw20_1 := qad B5.out 1; have hzw20_2 := qfl B5.out; have fzw20_2 := qad B5.out 2; have hzw20_3 := qft B5.out; have fzw20_3 := qad B5.out 3; have hzw20_4 := qfu B5.out; have fzw20_4 := qad B5.out 4; have hsw20_0 : w20.cell? ⟨gw, 0, none⟩ = some (.string x0) := qcP HW.out 0 x0 HX0.out; clear hb))
     go_region; all_goals (go_wp2; refine bodyPost_ret (qb5 (rs := [.tmp 4, .cell 5 81, .tmp 6]) rfl (by simp) (.tmp (.cell g5 81 #[(.slice A0 rs.length c0), (.int .i64 mo), (.slice none 0 0), (.string (⟨#[]⟩ : ByteArray)), (.int .i64 0)] (0, 0) _ rfl (by apply ho_; (with_reducible repeat (first | exact B5.out | refine qal ?_ _ | refine qan ?_ | refine qaj ?_ _ | apply qeB)); rfl) Tryz.underlying81 rfl (by kernel_rfl) (.tmp .nil)))) rfl ?_; exact ⟨_, _, _, _, _, _, _, rfl, .inl ⟨HRN.out, rfl⟩, (by with_reducible repeat (first | exact HB.out | refine qap ?_ G5.out | refine qap ?_ G7.out | apply qai | apply qaf | apply qah))⟩)
    have hlb : ((sh.size : Int) != wrap64 ((ws.length : Int) - 1)) = false := by rw [hwr_]; exact bne_eq_false_iff_eq.2 (by omega)
    have hlb2 : ((sh.size : Int) != (ws.length : Int) - 1) = false := bne_eq_false_iff_eq.2 (by omega); have hlc : ((sh.size : Int) == (ws.length : Int) - 1) = true := beq_iff_eq.2 (by omega); have HSC := ak_ hshc; have HLE := ak_ hle; clear hle hshc hwl hwr_ hwi_; go_enter Tryz.func62, Tryz.ntmps62
    go_wp2_with (first | ((with_reducible refine qak (N := 2) rfl ?_); (try (refine qbH (by rfl) ?_; dsimp only)); refine qdH ?hg (N := 2) ?hd (cs := #[.slice A0 rs.length c0, .int .i64 mo]) (t := 28) ?hr ?_; (case hd => rfl); (case hg => rfl); (case hr => first | (go_simp; done) | (go_simp; rfl)); intro g2 hg w2 hbox hb; have B2 := ak_ hbox; replace HB := ak_ (qaa (by apply_rules only [HB.out, qai, qaf, qah]) hb); obtain ⟨qpA, qpq⟩ := qcv B2.out; have qpB := qbB B2.out; have qpr := qad B2.out 1; clear hb hbox hg) | ((with_reducible refine qak (N := 5) rfl ?_); (try (refine qbH (by rfl) ?_; dsimp only)); refine qdH ?hg (N := 5) ?hd (cs := #[(.slice none 0 0), (.int .i64 0), (.slice none 0 0), (.string (⟨#[]⟩ : ByteArray)), (.int .i64 0)]) (t := 81) ?hr ?_; (case hd => rfl); (case hg => rfl); (case hr => first | (go_simp; done) | (go_simp; rfl)); intro g5 hg w5 hbox hb; have B5 := ak_ hbox; have G5 := ak_ (show w.heap.size ≤ g5 from by rw [hg]; exact qab (by apply_rules only [HB.out, qai, qaf, qah])); replace B2 := B2.mw hb; replace HB := ak_ (qaa (by apply_rules only [HB.out, qai, qaf, qah]) hb); obtain ⟨haw5_0, faw5_0⟩ := qcv B2.out; have haw5_1 := qbB B2.out; have faw5_1 := qad B2.out 1; clear hb hbox hg) | ((with_reducible refine qak (N := 7) rfl ?_); (try (refine qbH (by rfl) ?_; dsimp only)); refine qdH ?hg (N := 7) ?hd (cs := #[(.slice none 0 0), (.int .i64 0), (.slice none 0 0), (.string (⟨#[]⟩ : ByteArray)), (.int .i64 0)]) (t := 81) ?hr ?_; (case hd => rfl); (case hg => rfl); (case hr => first | (go_simp; done) | (go_simp; rfl)); intro g7 hg w7 hbox hb; have B7 := ak_ hbox; have G7 := ak_ (show w.heap.size ≤ g7 from by rw [hg]; exact qab (by apply_rules only [HB.out, qai, qaf, qah])); have NE := ak_ (show g5 ≠ g7 from by rw [hg]; exact Nat.ne_of_lt (qdT (by apply_rules only [B5.out, qal, qan, qaj]))); replace B5 := B5.mw hb; replace HB := ak_ (qaa (by apply_rules only [HB.out, qai, qaf, qah]) hb); obtain ⟨qpC, qps⟩ := qcv B7.out; have qpD := qbB B7.out; have qpt := qad B7.out 1; have qpE := qfl B7.out; have qpu := qad B7.out 2; have qpF := qft B7.out; have qpv := qad B7.out 3; have qpG := qfu B7.out; have qpw := qad B7.out 4; clear hb hbox hg) | ((with_reducible refine qdD (f := 39) rfl ?_); (try (refine qbH (by rfl) ?_; dsimp only)); refine qgD (some 16) rfl rfl Tryz.func39 (by kernel_rfl) rfl #[.string s, .int .u8 32] rfl (by (try simp only [List.map_toArray, List.map_cons, List.map_nil]); first | done | rfl) ?_; (refine (qbi.calls k s 32 ws _ A1.out).mono ?_); rintro e w16 ⟨vw, rfl, how, hb⟩; refine ⟨_, rfl, ?_⟩; have hW := qaa (w := w) (by with_reducible repeat (first | exact HB.out | refine qap ?_ G7.out | apply qai | apply qaf | apply qah)) hb; have HW := ak_ (Kd.qau how (qab (w := w) (by with_reducible repeat (first | exact HB.out | refine qap ?_ G7.out | apply qai | apply qaf | apply qah)))); have B7_ := ak_ (show w16.heap[g7]? = some (.cells #[(.slice A0 rs.length c0), (.int .i64 mo), (.slice none 0 0), (.string (⟨#[]⟩ : ByteArray)), (.int .i64 0)] 81 (0, 0)) from qao (by apply ho_; (with_reducible repeat (first | exact B7.out | refine qal ?_ _ | refine qan ?_ | refine qaj ?_ _ | apply qeB)); rfl) hb); have B5_ := ak_ (show w16.heap[g5]? = some (.cells #[(.slice none 0 0), (.int .i64 0), (.slice none 0 0), (.string (⟨#[]⟩ : ByteArray)), (.int .i64 0)] 81 (0, 0)) from qao (by (with_reducible repeat (first | refine qal ?_ _ | refine qan ?_ | refine qaj ?_ _ | refine qcY ?_ (by exact NE.out) _)); exact B5.out) hb); clear B7 B5 B2 HB; have B7 := B7_; have B5 := B5_; have HB := ak_ hW; clear B7_ B5_ hW hb how; obtain ⟨gw, cw, ew, -⟩ := Kd.qeX HW.out HWP.out; subst ew; obtain ⟨A2, hcut_, hA2_⟩ := qmP gw ws.length cw HWP.out (Kd.R_reads' HW.out).2.1; rw [HWL.out] at hcut_; have HA2 := ak_ hA2_; clear hA2_; obtain ⟨hbw16_0, fbw16_0⟩ := qcv B7.out; have hbw16_1 := qbB B7.out; have fbw16_1 := qad B7.out 1; have hbw16_2 := qfl B7.out; have fbw16_2 := qad B7.out 2; have hbw16_3 := qft B7.out; have fbw16_3 := qad B7.out 3; have hbw16_4 := qfu B7.out; have fbw16_4 := qad B7.out 4; obtain ⟨hzw16_0, fzw16_0⟩ := qcv B5.out; have hzw16_1 := qbB B5.out; have fzw16_1 := qad B5.out 1; have hzw16_2 := qfl B5.out; have fzw16_2 := qad B5.out 2; have hzw16_3 := qft B5.out; have fzw16_3 := qad B5.out 3; have hzw16_4 := qfu B5.out; have fzw16_4 := qad B5.out 4; have hsw16_0 : w16.cell? ⟨gw, 0, none⟩ = some (.string x0) := qcP HW.out 0 x0 HX0.out) | ((with_reducible refine qdD (f := 94) rfl ?_); (try (refine qbH (by rfl) ?_; dsimp only)); refine qgD (some 20) rfl rfl Tryz.func94 (by kernel_rfl) rfl #[.string x0] rfl (by (try simp only [List.map_toArray, List.map_cons, List.map_nil]); first | done | rfl) ?_; (refine (qeP.calls x0 sh _ HSH.out).mono ?_); rintro e w20 ⟨rfl, hb⟩; refine ⟨_, rfl, ?_⟩; replace HW := HW.mw hb; replace B7 := B7.mw hb; replace B5 := B5.mw hb; replace HB := ak_ (qaa (by apply_rules only [HB.out, qai, qaf, qah]) hb); obtain ⟨hbw20_0, fbw20_0⟩ := qcv B7.out; have hbw20_1 := qbB B7.out; have fbw20_1 := qad B7.out 1; have hbw20_2 := qfl B7.out; have fbw20_2 := qad B7.out 2; have hbw20_3 := qft B7.out; have fbw20_3 := qad B7.out 3; have hbw20_4 := qfu B7.out; have fbw20_4 := qad B7.out 4; obtain ⟨hzw20_0, fzw20_0⟩ := qcv B5.out; have hzw20_1 := qbB B5.out; have fzw20_1 := qad B5.out 1; have hzw20_2 := qfl B5.out; have fzw20_2 := qad B5.out 2; have hzw20_3 := qft B5.out; have fzw20_3 := qad B5.out 3; have hzw20_4 := qfu B5.out; have fzw20_4 := qad B5.out 4; have hsw20_0 : w20.cell? ⟨gw, 0, none⟩ = some (.string x0) := qcP HW.out 0 x0 HX0.out; clear hb))
    go_loopg [31] 2 (fun kq v31 w' => ∃ (i : Int) (A1_ : Option Addr) (c1 : Nat) (lr : List qac) (tx : ByteArray) (n : Int), v31 = .int .i64 i ∧ qag ((i = 0 ∧ lr = [] ∧ tx = ⟨#[]⟩ ∧ n = 0) ∨ (i = 1 ∧ t.length = 1 ∧ ∃ c, qhn x0 = some c ∧ r = some (c, lr, tx, n))) ∧ qag (2 - i.toNat ≤ kq) ∧ qag (Kd.R qaN 85 w' w.heap.size (fun _ => True) (.slice A1_ lr.length c1) lr) ∧ qag (Kd.R Kd.string 9 w' w.heap.size (fun _ => True) (.slice (some ⟨gw, 0, none⟩) ws.length cw) ws) ∧ qag (w'.heap[g7]? = some (.cells #[(.slice A0 rs.length c0), (.int .i64 mo), (.slice A1_ lr.length c1), (.string tx), (.int .i64 n)] 81 (0, 0))) ∧ qag (w'.heap[g5]? = some (.cells #[(.slice none 0 0), (.int .i64 0), (.slice none 0 0), (.string (⟨#[]⟩ : ByteArray)), (.int .i64 0)] 81 (0, 0))) ∧ qag (Below w.heap.size w w'))
    case atStart => exact ⟨0, none, 0, [], ⟨#[]⟩, 0, rfl, ⟨.inl ⟨rfl, rfl, rfl, rfl⟩⟩, ⟨by decide⟩, ⟨Kd.qfO _ _ _ _ _⟩, HW, B7, B5, HB⟩
    case round =>
      clear HW B7 B5 HB; obtain ⟨i, A1_, c1, lr, tx, n, rfl, HI, HK1, HL, HW, B7, B5, HB⟩ := hrel; obtain ⟨hbwr_0, fbwr_0⟩ := qcv B7.out; have hbwr_1 := qbB B7.out; have fbwr_1 := qad B7.out 1; have hbwr_2 := qfl B7.out; have fbwr_2 := qad B7.out 2; have hbwr_3 := qft B7.out; have fbwr_3 := qad B7.out 3; have hbwr_4 := qfu B7.out; have fbwr_4 := qad B7.out 4; obtain ⟨hzwr_0, fzwr_0⟩ := qcv B5.out; have hzwr_1 := qbB B5.out; have fzwr_1 := qad B5.out 1; have hzwr_2 := qfl B5.out; have fzwr_2 := qad B5.out 2; have hzwr_3 := qft B5.out; have fzwr_3 := qad B5.out 3; have hzwr_4 := qfu B5.out; have fzwr_4 := qad B5.out 4; have hswr_0 : wr.cell? ⟨gw, 0, none⟩ = some (.string x0) := qcP HW.out 0 x0 HX0.out; by_cases hit : i < (t.length : Int); rotate_left
      ·have hlt : decide (i < (t.length : Int)) = false := decide_eq_false hit
       obtain ⟨c, HCM, HRV⟩ : ∃ c, qag (qhn x0 = some c) ∧ qag (r = some (c, lr, tx, n)) := by
         rcases HI.out with ⟨rfl, hlr, htx, hn⟩ | ⟨rfl, ht1, c, hcm, hr⟩
         ·have ht : t.length = 0 := by omega
          rcases HSC.out with ⟨-, e_, -⟩ | ⟨c, h1_, e_, h2_⟩
          ·have h3_ := HLE.out; rw [e_, ht] at h3_; exact absurd h3_ (by decide)
          have h3_ := HLE.out; rw [e_, hszk, ht] at h3_; refine ⟨c, ⟨h1_⟩, ⟨?_⟩⟩; unfold qho at h2_; rw [if_pos (by rw [ht, h3_]), List.length_eq_zero_iff.1 h3_] at h2_; rw [hlr, htx, hn]; exact (Option.some.inj h2_).symm
         exact ⟨c, ⟨hcm⟩, ⟨hr⟩⟩
       clear hit; have HRT_ := ak_ (Kd.qcH HL.out B5.out (by decide)); clear fbwr_0 fbwr_1 fbwr_2 fbwr_3 fbwr_4 HI HSC HLE HA2 HXT HX0 HWL; go_wp2; clear hcut_
       go_region
       all_goals (go_wp2; refine bodyPost_ret (qb5 (rs := [.tmp 4, .cell 5 81, .tmp 6]) rfl (by simp) (.tmp (.cell g5 81 #[(.slice A0 rs.length c0), (.int .i64 mo), (.slice A1_ lr.length c1), (.string tx), (.int .i64 n)] (0, 0) _ rfl (by apply ho_; (with_reducible repeat (first | exact B5.out | refine qal ?_ _ | refine qan ?_ | refine qaj ?_ _ | apply qeB)); rfl) Tryz.underlying81 rfl (by kernel_rfl) (.tmp .nil)))) rfl ?_; exact ⟨_, _, _, _, _, _, _, rfl, .inr ⟨c, lr, HRV.out, rfl, qhG HCM.out, rfl, (Kd.qa8 (ok := fun k_ => True ∧ k_ ≠ g5) (by with_reducible repeat (first | exact HRT_.out | apply Kd.qaq | apply Kd.qar | apply Kd.qaC | refine Kd.qc7 ?_ (fun _ hk => hk.2) _)) (fun _ _ => trivial))⟩, (by with_reducible repeat (first | exact HB.out | refine qap ?_ G5.out | refine qap ?_ G7.out | apply qai | apply qaf | apply qah))⟩)
      obtain ⟨rfl, hlr, htx, hn⟩ : i = 0 ∧ lr = [] ∧ tx = ⟨#[]⟩ ∧ n = 0 := by
        rcases HI.out with h_ | ⟨rfl, ht1, -⟩
        ·exact h_
        omega
      have ht : ¬ t.length = 0 := by omega
      clear hit; have hne57 := NE.out
      have hne75 : ¬ g7 = g5 := fun e_ => NE.out e_.symm
      have hs1_ : sh.size = 1 ∨ sh.size = 0 := by
        rcases HSC.out with ⟨-, e_, -⟩ | ⟨c, h1_, e_, h2_⟩
        ·exact .inl (by rw [e_]; rfl)
        rcases Cmd.kinds c with h_ | h_ | h_ | h_ <;> rw [e_, hszk, h_] <;> simp
      have ht1 : t.length = 1 := by have := HLE.out; omega
      obtain ⟨y, hy⟩ := List.length_eq_one_iff.1 ht1; have HX1 := ak_ (HXT.out y hy); obtain rfl := HA2.out (by have := HWL.out; omega); have hlt : decide ((0 : Int) < (t.length : Int)) = true := decide_eq_true (by omega); have hlu : decide (0 < t.length) = true := decide_eq_true (by omega)
      have hlv : (0 : Int) < (t.length : Int) := by omega
      have hswr_1 : wr.cell? ⟨gw, 1, none⟩ = some (.string y) := qcP HW.out 1 y HX1.out; have HT1 := ak_ ht1
      rcases HSC.out with ⟨-, rfl, hr⟩ | ⟨c, hcm, e_, h2_⟩
      ·have HRN := ak_ hr; clear hs1_ ht hlr htx hn HSC HLE HI hr hy ht1; go_wp2
       go_region; all_goals (go_wp2; refine bodyPost_ret (qb5 (rs := [.tmp 4, .cell 5 81, .tmp 6]) rfl (by simp) (.tmp (.cell g5 81 #[(.slice A0 rs.length c0), (.int .i64 mo), (.slice A1_ lr.length c1), (.string tx), (.int .i64 n)] (0, 0) _ rfl (by apply ho_; (with_reducible repeat (first | exact B5.out | refine qal ?_ _ | refine qan ?_ | refine qaj ?_ _ | apply qeB | apply qcY (hp := NE.out))); rfl) Tryz.underlying81 rfl (by kernel_rfl) (.tmp .nil)))) rfl ?_; exact ⟨_, _, _, _, _, _, _, rfl, .inl ⟨HRN.out, rfl⟩, (by with_reducible repeat (first | exact HB.out | refine qap ?_ G5.out | refine qap ?_ G7.out | apply qai | apply qaf | apply qah))⟩)
      have HCM := ak_ hcm; have hkl := HLE.out; rw [e_, hszk, ht1] at hkl; unfold qho at h2_; rw [if_pos (by rw [ht1, hkl]), hy] at h2_
      rcases Cmd.kinds c with hk | hk | hk | hk
      ·rw [hk] at hkl; exact absurd hkl (by decide)
      ·rw [hk] at h2_ e_; obtain rfl : sh = ⟨#[110]⟩ := e_; replace h2_ : ((qaV.f k y).bind fun n => if n ≥ 0 then some (some (c, [], ⟨#[]⟩, n)) else some none) = some r := h2_; obtain ⟨m, AR, h3_⟩ := qaw h2_; by_cases hm : m ≥ 0
       ·rw [if_pos hm] at h3_; have HRV := ak_ (show r = some (c, lr, tx, m) from by rw [hlr, htx]; exact (Option.some.inj h3_).symm); have hmb : decide (0 ≤ m) = true := decide_eq_true hm; clear hs1_ ht hlr htx hn HSC HLE HI hy ht1 hcm h2_ h3_ hk hkl hm
        go_wp2_with (first | ((with_reducible refine qdD (f := 95) rfl ?_); (try (refine qbH (by rfl) ?_; dsimp only)); refine qgD (some 42) rfl rfl Tryz.func95 (by kernel_rfl) rfl #[.string y] rfl (by (try simp only [List.map_toArray, List.map_cons, List.map_nil]); first | done | rfl) ?_; (refine ((qaV.calls k y m _ AR.out)).mono ?_); rintro e w42 ⟨rfl, hd_⟩; refine ⟨_, rfl, ?_⟩; have hb := hd_.below; clear hd_; replace HL := HL.mw hb; replace HW := HW.mw hb; replace B7 := B7.mw hb; replace B5 := B5.mw hb; replace HB := ak_ (qaa (by apply_rules only [HB.out, qai, qaf, qah]) hb); obtain ⟨hbw42_0, fbw42_0⟩ := qcv B7.out; have hbw42_1 := qbB B7.out; have fbw42_1 := qad B7.out 1; have hbw42_2 := qfl B7.out; have fbw42_2 := qad B7.out 2; have hbw42_3 := qft B7.out; have fbw42_3 := qad B7.out 3; have hbw42_4 := qfu B7.out; have fbw42_4 := qad B7.out 4; obtain ⟨hzw42_0, fzw42_0⟩ := qcv B5.out; have hzw42_1 := qbB B5.out; have fzw42_1 := qad B5.out 1; have hzw42_2 := qfl B5.out; have fzw42_2 := qad B5.out 2; have hzw42_3 := qft B5.out; have fzw42_3 := qad B5.out 3; have hzw42_4 := qfu B5.out; have fzw42_4 := qad B5.out 4; have hsw42_0 : w42.cell? ⟨gw, 0, none⟩ = some (.string x0) := qcP HW.out 0 x0 HX0.out; have hsw42_1 : w42.cell? ⟨gw, 1, none⟩ = some (.string y) := qcP HW.out 1 y HX1.out; clear hb))
        go_roundg 1
        case measure => have := HK1.out; omega
        case rel => exact ⟨1, A1_, c1, lr, tx, m, rfl, ⟨.inr ⟨rfl, HT1.out, c, HCM.out, HRV.out⟩⟩, ⟨by decide⟩, ⟨(by (with_reducible repeat (first | apply Kd.qaq | apply Kd.qar | apply Kd.qaC)); exact Kd.qgJ (by apply_rules only [HL.out, Kd.qaq, Kd.qar, Kd.qaC]) (by apply_rules only [B7.out, qal, qan, qaj]) (by decide) 4 _)⟩, ⟨(by (with_reducible repeat (first | apply Kd.qaq | apply Kd.qar | apply Kd.qaC)); exact Kd.qgJ (by apply_rules only [HW.out, Kd.qaq, Kd.qar, Kd.qaC]) (by apply_rules only [B7.out, qal, qan, qaj]) (by decide) 4 _)⟩, ⟨(by (with_reducible repeat (first | refine qal ?_ _ | refine qan ?_ | refine qaj ?_ _)); refine qbp (cs := #[(.slice A0 rs.length c0), (.int .i64 mo), (.slice A1_ lr.length c1), (.string tx), (.int .i64 n)]) (cs' := #[(.slice A0 rs.length c0), (.int .i64 mo), (.slice A1_ lr.length c1), (.string tx), (.int .i64 m)]) ?_ 4 _ rfl; (with_reducible repeat (first | refine qal ?_ _ | refine qan ?_ | refine qaj ?_ _)); exact B7.out)⟩, ⟨(by (with_reducible repeat (first | refine qal ?_ _ | refine qan ?_ | refine qaj ?_ _ | refine qcY ?_ (by exact NE.out) _)); exact B5.out)⟩, ⟨(by with_reducible repeat (first | exact HB.out | refine qap ?_ G7.out | apply qai | apply qaf | apply qah))⟩⟩
       rw [if_neg hm] at h3_; have HRN := ak_ (show r = none from (Option.some.inj h3_).symm); have hmb : decide (0 ≤ m) = false := decide_eq_false hm; clear hs1_ ht hlr htx hn HSC HLE HI hy ht1 hcm h2_ h3_ hk hkl hm
       go_wp2_with (first | ((with_reducible refine qdD (f := 95) rfl ?_); (try (refine qbH (by rfl) ?_; dsimp only)); refine qgD (some 42) rfl rfl Tryz.func95 (by kernel_rfl) rfl #[.string y] rfl (by (try simp only [List.map_toArray, List.map_cons, List.map_nil]); first | done | rfl) ?_; (refine ((qaV.calls k y m _ AR.out)).mono ?_); rintro e w42 ⟨rfl, hd_⟩; refine ⟨_, rfl, ?_⟩; have hb := hd_.below; clear hd_; replace HL := HL.mw hb; replace HW := HW.mw hb; replace B7 := B7.mw hb; replace B5 := B5.mw hb; replace HB := ak_ (qaa (by apply_rules only [HB.out, qai, qaf, qah]) hb); obtain ⟨hbw42_0, fbw42_0⟩ := qcv B7.out; have hbw42_1 := qbB B7.out; have fbw42_1 := qad B7.out 1; have hbw42_2 := qfl B7.out; have fbw42_2 := qad B7.out 2; have hbw42_3 := qft B7.out; have fbw42_3 := qad B7.out 3; have hbw42_4 := qfu B7.out; have fbw42_4 := qad B7.out 4; obtain ⟨hzw42_0, fzw42_0⟩ := qcv B5.out; have hzw42_1 := qbB B5.out; have fzw42_1 := qad B5.out 1; have hzw42_2 := qfl B5.out; have fzw42_2 := qad B5.out 2; have hzw42_3 := qft B5.out; have fzw42_3 := qad B5.out 3; have hzw42_4 := qfu B5.out; have fzw42_4 := qad B5.out 4; have hsw42_0 : w42.cell? ⟨gw, 0, none⟩ = some (.string x0) := qcP HW.out 0 x0 HX0.out; have hsw42_1 : w42.cell? ⟨gw, 1, none⟩ = some (.string y) := qcP HW.out 1 y HX1.out; clear hb))
       go_region; all_goals (go_wp2; refine bodyPost_ret (qb5 (rs := [.tmp 4, .cell 5 81, .tmp 6]) rfl (by simp) (.tmp (.cell g5 81 #[(.slice A0 rs.length c0), (.int .i64 mo), (.slice A1_ lr.length c1), (.string tx), (.int .i64 m)] (0, 0) _ rfl (by apply ho_; (with_reducible repeat (first | exact B5.out | refine qal ?_ _ | refine qan ?_ | refine qaj ?_ _ | apply qeB | apply qcY (hp := NE.out))); rfl) Tryz.underlying81 rfl (by kernel_rfl) (.tmp .nil)))) rfl ?_; exact ⟨_, _, _, _, _, _, _, rfl, .inl ⟨HRN.out, rfl⟩, (by with_reducible repeat (first | exact HB.out | refine qap ?_ G5.out | refine qap ?_ G7.out | apply qai | apply qaf | apply qah))⟩)
      ·rw [hk] at h2_ e_; obtain rfl : sh = ⟨#[114]⟩ := e_; replace h2_ : ((qby.f k y).bind fun q => if q.2 = true then some (some (c, q.1, ⟨#[]⟩, 0)) else some none) = some r := h2_; obtain ⟨⟨lq, okq⟩, AR, h3_⟩ := qaw h2_; dsimp only at h3_
       cases okq with
       | true =>
         rw [if_pos rfl] at h3_; have HRV := ak_ (show r = some (c, lq, tx, n) from by rw [htx, hn]; exact (Option.some.inj h3_).symm); clear hs1_ ht hlr htx hn HSC HLE HI hy ht1 hcm h2_ h3_ hk hkl
         go_wp2_with (first | ((with_reducible refine qdD (f := 96) rfl ?_); (try (refine qbH (by rfl) ?_; dsimp only)); refine qgD (some 51) rfl rfl Tryz.func96 (by kernel_rfl) rfl #[.string y] rfl (by (try simp only [List.map_toArray, List.map_cons, List.map_nil]); first | done | rfl) ?_; (refine (qby.calls k y lq true _ AR.out).mono ?_); rintro e w51 ⟨vq, rfl, hoq, hb⟩; refine ⟨_, rfl, ?_⟩; have HQ := ak_ (Kd.qau hoq (qab (by apply_rules only [HB.out, qai, qaf, qah]))); obtain ⟨Aq, cq, eq_⟩ := Kd.qaJ HQ.out; subst eq_; clear hoq; replace HL := HL.mw hb; replace HW := HW.mw hb; replace B7 := B7.mw hb; replace B5 := B5.mw hb; replace HB := ak_ (qaa (by apply_rules only [HB.out, qai, qaf, qah]) hb); obtain ⟨hbw51_0, fbw51_0⟩ := qcv B7.out; have hbw51_1 := qbB B7.out; have fbw51_1 := qad B7.out 1; have hbw51_2 := qfl B7.out; have fbw51_2 := qad B7.out 2; have hbw51_3 := qft B7.out; have fbw51_3 := qad B7.out 3; have hbw51_4 := qfu B7.out; have fbw51_4 := qad B7.out 4; obtain ⟨hzw51_0, fzw51_0⟩ := qcv B5.out; have hzw51_1 := qbB B5.out; have fzw51_1 := qad B5.out 1; have hzw51_2 := qfl B5.out; have fzw51_2 := qad B5.out 2; have hzw51_3 := qft B5.out; have fzw51_3 := qad B5.out 3; have hzw51_4 := qfu B5.out; have fzw51_4 := qad B5.out 4; have hsw51_0 : w51.cell? ⟨gw, 0, none⟩ = some (.string x0) := qcP HW.out 0 x0 HX0.out; have hsw51_1 : w51.cell? ⟨gw, 1, none⟩ = some (.string y) := qcP HW.out 1 y HX1.out; clear hb))
         go_roundg 1
         case measure => have := HK1.out; omega
         case rel => exact ⟨1, Aq, cq, lq, tx, n, rfl, ⟨.inr ⟨rfl, HT1.out, c, HCM.out, HRV.out⟩⟩, ⟨by decide⟩, ⟨(by (with_reducible repeat (first | apply Kd.qaq | apply Kd.qar | apply Kd.qaC)); exact Kd.qgJ (by apply_rules only [HQ.out, Kd.qaq, Kd.qar, Kd.qaC]) (by apply_rules only [B7.out, qal, qan, qaj]) (by decide) 2 _)⟩, ⟨(by (with_reducible repeat (first | apply Kd.qaq | apply Kd.qar | apply Kd.qaC)); exact Kd.qgJ (by apply_rules only [HW.out, Kd.qaq, Kd.qar, Kd.qaC]) (by apply_rules only [B7.out, qal, qan, qaj]) (by decide) 2 _)⟩, ⟨(by (with_reducible repeat (first | refine qal ?_ _ | refine qan ?_ | refine qaj ?_ _)); refine qbp (cs := #[(.slice A0 rs.length c0), (.int .i64 mo), (.slice A1_ lr.length c1), (.string tx), (.int .i64 n)]) (cs' := #[(.slice A0 rs.length c0), (.int .i64 mo), (.slice Aq lq.length cq), (.string tx), (.int .i64 n)]) ?_ 2 _ rfl; (with_reducible repeat (first | refine qal ?_ _ | refine qan ?_ | refine qaj ?_ _)); exact B7.out)⟩, ⟨(by (with_reducible repeat (first | refine qal ?_ _ | refine qan ?_ | refine qaj ?_ _ | refine qcY ?_ (by exact NE.out) _)); exact B5.out)⟩, ⟨(by with_reducible repeat (first | exact HB.out | refine qap ?_ G7.out | apply qai | apply qaf | apply qah))⟩⟩
       | false =>
         rw [if_neg (by decide)] at h3_; have HRN := ak_ (show r = none from (Option.some.inj h3_).symm); clear hs1_ ht hlr htx hn HSC HLE HI hy ht1 hcm h2_ h3_ hk hkl
         go_wp2_with (first | ((with_reducible refine qdD (f := 96) rfl ?_); (try (refine qbH (by rfl) ?_; dsimp only)); refine qgD (some 51) rfl rfl Tryz.func96 (by kernel_rfl) rfl #[.string y] rfl (by (try simp only [List.map_toArray, List.map_cons, List.map_nil]); first | done | rfl) ?_; (refine (qby.calls k y lq false _ AR.out).mono ?_); rintro e w51 ⟨vq, rfl, hoq, hb⟩; refine ⟨_, rfl, ?_⟩; have HQ := ak_ (Kd.qau hoq (qab (by apply_rules only [HB.out, qai, qaf, qah]))); obtain ⟨Aq, cq, eq_⟩ := Kd.qaJ HQ.out; subst eq_; clear hoq; replace HL := HL.mw hb; replace HW := HW.mw hb; replace B7 := B7.mw hb; replace B5 := B5.mw hb; replace HB := ak_ (qaa (by apply_rules only [HB.out, qai, qaf, qah]) hb); obtain ⟨hbw51_0, fbw51_0⟩ := qcv B7.out; have hbw51_1 := qbB B7.out; have fbw51_1 := qad B7.out 1; have hbw51_2 := qfl B7.out; have fbw51_2 := qad B7.out 2; have hbw51_3 := qft B7.out; have fbw51_3 := qad B7.out 3; have hbw51_4 := qfu B7.out; have fbw51_4 := qad B7.out 4; obtain ⟨hzw51_0, fzw51_0⟩ := qcv B5.out; have hzw51_1 := qbB B5.out; have fzw51_1 := qad B5.out 1; have hzw51_2 := qfl B5.out; have fzw51_2 := qad B5.out 2; have hzw51_3 := qft B5.out; have fzw51_3 := qad B5.out 3; have hzw51_4 := qfu B5.out; have fzw51_4 := qad B5.out 4; have hsw51_0 : w51.cell? ⟨gw, 0, none⟩ = some (.string x0) := qcP HW.out 0 x0 HX0.out; have hsw51_1 : w51.cell? ⟨gw, 1, none⟩ = some (.string y) := qcP HW.out 1 y HX1.out; clear hb))
         go_region; all_goals (go_wp2; refine bodyPost_ret (qb5 (rs := [.tmp 4, .cell 5 81, .tmp 6]) rfl (by simp) (.tmp (.cell g5 81 #[(.slice A0 rs.length c0), (.int .i64 mo), (.slice Aq lq.length cq), (.string tx), (.int .i64 n)] (0, 0) _ rfl (by apply ho_; (with_reducible repeat (first | exact B5.out | refine qal ?_ _ | refine qan ?_ | refine qaj ?_ _ | apply qeB | apply qcY (hp := NE.out))); rfl) Tryz.underlying81 rfl (by kernel_rfl) (.tmp .nil)))) rfl ?_; exact ⟨_, _, _, _, _, _, _, rfl, .inl ⟨HRN.out, rfl⟩, (by with_reducible repeat (first | exact HB.out | refine qap ?_ G5.out | refine qap ?_ G7.out | apply qai | apply qaf | apply qah))⟩)
      rw [hk] at h2_ e_; obtain rfl : sh = ⟨#[115]⟩ := e_; have HRV := ak_ (show r = some (c, lr, y, n) from by rw [hlr, hn]; exact (Option.some.inj h2_).symm); clear hs1_ ht hlr htx hn HSC HLE HI hy ht1 hcm h2_ hk hkl; go_wp2
      go_roundg 1
      case measure => have := HK1.out; omega
      case rel => exact ⟨1, A1_, c1, lr, y, n, rfl, ⟨.inr ⟨rfl, HT1.out, c, HCM.out, HRV.out⟩⟩, ⟨by decide⟩, ⟨(by (with_reducible repeat (first | apply Kd.qaq | apply Kd.qar | apply Kd.qaC)); exact Kd.qgJ (by apply_rules only [HL.out, Kd.qaq, Kd.qar, Kd.qaC]) (by apply_rules only [B7.out, qal, qan, qaj]) (by decide) 3 _)⟩, ⟨(by (with_reducible repeat (first | apply Kd.qaq | apply Kd.qar | apply Kd.qaC)); exact Kd.qgJ (by apply_rules only [HW.out, Kd.qaq, Kd.qar, Kd.qaC]) (by apply_rules only [B7.out, qal, qan, qaj]) (by decide) 3 _)⟩, ⟨(by (with_reducible repeat (first | refine qal ?_ _ | refine qan ?_ | refine qaj ?_ _)); refine qbp (cs := #[(.slice A0 rs.length c0), (.int .i64 mo), (.slice A1_ lr.length c1), (.string tx), (.int .i64 n)]) (cs' := #[(.slice A0 rs.length c0), (.int .i64 mo), (.slice A1_ lr.length c1), (.string y), (.int .i64 n)]) ?_ 3 _ rfl; (with_reducible repeat (first | refine qal ?_ _ | refine qan ?_ | refine qaj ?_ _)); exact B7.out)⟩, ⟨(by (with_reducible repeat (first | refine qal ?_ _ | refine qan ?_ | refine qaj ?_ _ | refine qcY ?_ (by exact NE.out) _)); exact B5.out)⟩, ⟨(by with_reducible repeat (first | exact HB.out | refine qap ?_ G7.out | apply qai | apply qaf | apply qah))⟩⟩
def qet.f (a0 : Int) : Option (Bool) := (qbf.f a0 (-600) 600).bind fun qas => (some qas)
theorem qet.calls (a0 : Int) (r : Bool) (w : World) (h : qet.f a0 = some r) :
  Calls Tryz.prog 153 #[.int .i64 a0] w fun e w' => e = .returned (.bool r) ∧ qcX w w' := by
 have H : ((qbf.f a0 (-600) 600).bind fun qas => (some qas)) = some r := h; clear h; obtain ⟨qas, A2, H⟩ := qaw H; (try dsimp only at H); obtain rfl := Option.some.inj H; go_enter Tryz.func153, Tryz.ntmps153
 go_wp2_with (first | (refine gl_ 4 Tryz.func93 #[.int .i64 a0, .int .i64 (-600), .int .i64 600] rfl qbK ?_; (with_reducible refine (qbf.calls a0 (-600) 600 qas _ A2.out).mono ?_); rintro e w' ⟨rfl, ⟨nd, rfl⟩⟩; refine ⟨_, rfl, ?_⟩))
 go_ret
 exact ⟨qav, qc2⟩
def qcw.f (a0 : Int) (a1 : Int) : Option (Int) := if a1 = 0 then (none) else (some (Int.tmod (wrap64 ((Int.tmod a0 a1) + a1)) a1))
theorem qcw.calls (a0 : Int) (a1 : Int) (r : Int) (w : World) (h : qcw.f a0 a1 = some r) :
  Calls Tryz.prog 154 #[.int .i64 a0, .int .i64 a1] w fun e w' => e = .returned (.int .i64 r) ∧ qcX w w' := by
 have H : (if a1 = 0 then (none) else (some (Int.tmod (wrap64 ((Int.tmod a0 a1) + a1)) a1))) = some r := h; clear h; by_cases c3 : a1 = 0
 ·rw [if_pos c3] at H; exact absurd H (by simp)
 rw [if_neg c3] at H; have qff : (a1 == 0) = false := beq_eq_false_iff_ne.mpr c3; have qlV : (a1 != 0) = true := bne_iff_ne.mpr c3; obtain rfl := Option.some.inj H; go_enter Tryz.func154, Tryz.ntmps154; go_wp2
 go_ret
 exact ⟨qav, qc2⟩
end
end Go.Proofs.YtjeoabbnalamcaaGreatDoor.P
