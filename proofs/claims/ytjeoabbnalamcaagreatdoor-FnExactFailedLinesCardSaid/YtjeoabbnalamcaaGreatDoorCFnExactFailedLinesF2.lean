/- What functions of the program answer. Proved in this text: its theorems. Conditions: as each theorem states them. -/
import Derived.Test.YtjeoabbnalamcaaGreatDoorCFnExactFailedLinesP
import Derived.Test.YtjeoabbnalamcaaGreatDoorCFnExactFailedLinesF0
import Derived.Test.YtjeoabbnalamcaaGreatDoorCFnExactFailedLinesF1
namespace Go.Proofs.YtjeoabbnalamcaaGreatDoor.P
open Go.RowKit Go.Proofs.YtjeoabbnalamcaaGreatDoorW.qa0 Go.Proofs.YtjeoabbnalamcaaGreatDoorW.PrintLast Go.Proofs.YtjeoabbnalamcaaGreatDoorW.PrintMore
set_option linter.unusedVariables false
set_option linter.unusedSimpArgs false
set_option maxHeartbeats 8000000
set_option maxRecDepth 100000
section
attribute [local go_sem] qg2 qg4 qij qik qgg qgh qg3 qg5
def qdM.f (k : Nat) (l0 : List (qac)) : Option (List Int × Bool) := (qbQ.f k l0).bind fun qcR => (if qcR.2.2 = true then (some (qcR.2.1, true)) else (some (([] : List Int), false)))
theorem qdM.calls (k : Nat) (A0 : Option Addr) (c0 : Nat) (l0 : List (qac)) (r1 : List Int) (r2 : Bool) (w : World) (hr0 : Kd.C qaL w A0 l0.length l0) (hc0 : l0.length ≤ c0) (h : qdM.f k l0 = some (r1, r2)) :
  Calls Tryz.prog 141 #[.slice A0 l0.length c0] w fun e w' => ∃ v0_ : Value, e = .returned (.tuple #[v0_, .bool r2]) ∧ Kd.R (Kd.int .i64) 3 w' w.heap.size (fun _ => True) v0_ r1 ∧ Below w.heap.size w w' := by
 have hu169 := Tryz.underlying169; have HR0 := ak_ hr0; have HC0 := ak_ hc0; clear hr0 hc0; have HB := br_ w; have H : ((qbQ.f k l0).bind fun qcR => (if qcR.2.2 = true then (some (qcR.2.1, true)) else (some (([] : List Int), false)))) = some (r1, r2) := h; clear h; obtain ⟨⟨qat, qaR, t105⟩, A2, H⟩ := qay H; (try dsimp only at H); by_cases c3 : t105 = true
 ·subst c3; rw [if_pos rfl] at H; obtain ⟨rfl, rfl⟩ := qdF H; go_enter Tryz.func141, Tryz.ntmps141
  go_wp2_with (first | (refine gl_ 8 Tryz.func187 #[.slice A0 l0.length c0] rfl qbK ?_; (with_reducible refine (qbQ.calls k _ _ l0 qat qaR true _ ?qaA ?qaB A2.out).mono ?_); (case qaA => exact qfN); (case qaB => exact qb5); rintro e w4 ⟨qhm, rfl, ho0, hb⟩; refine ⟨_, rfl, ?_⟩; have qb1 := ak_ (Kd.qax ho0 (qab qan)); replace HB := HB.mw hb; (try clear hb ho0)) | ((with_reducible refine qal (N := 4) rfl ?_); refine bx_ 4 rfl (cs := #[.int .i64 0, .slice none 0 0]) (t := 169) qbe ?_; intro qeW hg w5 hbox hb; replace qb1 := qb1.mw hb; have qek := ak_ (hbox); have qn4 := ak_ (HB.ge hg); have qmT := ak_ (HB.ge hg); replace HB := HB.mw hb; clear hb hbox hg; obtain ⟨qkg, qkh, qkm, qkn⟩ := qbG qek.out; obtain ⟨Ao7, co7, eo7⟩ := Kd.qaI qb1.out; subst eo7))
  go_ret2
  exact ⟨_, qcf, by (with_reducible repeat (first | apply Kd.qap | apply Kd.qaq | apply Kd.qaw)); exact Kd.qa9 (Kd.qcV (p := ⟨qeW, 1, none⟩) (Kd.qcV (p := ⟨qeW, 0, none⟩) (Kd.qcw qb1.out qek.out (by decide)) (fun _ hk => hk.2) (.int .i64 qat)) (fun _ hk => hk.2) (.slice Ao7 qaR.length co7)) (fun _ hk => trivial), qoZ⟩
 replace c3 := Bool.eq_false_iff.mpr c3; subst c3; rw [if_neg ff_] at H; obtain ⟨rfl, rfl⟩ := qdF H; go_enter Tryz.func141, Tryz.ntmps141
 go_wp2_with (first | (refine gl_ 8 Tryz.func187 #[.slice A0 l0.length c0] rfl qbK ?_; (with_reducible refine (qbQ.calls k _ _ l0 qat qaR false _ ?qaA ?qaB A2.out).mono ?_); (case qaA => exact qfN); (case qaB => exact qb5); rintro e w8 ⟨qhm, rfl, ho0, hb⟩; refine ⟨_, rfl, ?_⟩; have qb1 := ak_ (Kd.qax ho0 (qab qan)); replace HB := HB.mw hb; (try clear hb ho0)) | ((with_reducible refine qal (N := 4) rfl ?_); refine bx_ 4 rfl (cs := #[.int .i64 0, .slice none 0 0]) (t := 169) qbe ?_; intro qeW hg w9 hbox hb; replace qb1 := qb1.mw hb; have qek := ak_ (hbox); have qn4 := ak_ (HB.ge hg); have qmT := ak_ (HB.ge hg); replace HB := HB.mw hb; clear hb hbox hg; obtain ⟨qoB, qoC, qoI, qoJ⟩ := qbG qek.out; obtain ⟨Ao11, co11, eo11⟩ := Kd.qaI qb1.out; subst eo11))
 go_ret2
 exact ⟨_, qcf, qgN, qoZ⟩
def qaM.l0 : Nat → List Int → List Int → Int → Int → Int → List Int → Option (List Int)
 | 0, _, _, _, _, _, _ => none
 | k + 1, x3, x8, x9, x10, qpu, qjh => if x10 < x9 then (if 0 ≤ x10 then (if x10 < (x8.length : Int) then (if (wrap64 (x10 + 1)) < (qjh.length : Int) then (if 0 ≤ (wrap64 (x10 + 1)) then (if x3.length < 17592186044416 then (qaM.l0 k (x3 ++ [wrap64 ((rd qjh (wrap64 (x10 + 1))) - (rd x8 x10))]) x8 x9 (wrap64 (x10 + 1)) qpu qjh) else (none)) else (none)) else (if 0 < (qjh.length : Int) then (if x3.length < 17592186044416 then (qaM.l0 k (x3 ++ [wrap64 ((wrap64 ((rd qjh 0) + qpu)) - (rd x8 x10))]) x8 x9 (wrap64 (x10 + 1)) qpu qjh) else (none)) else (none))) else (none)) else (none)) else (some x3)
def qaM.f (k : Nat) (qbP : Int) (qfz : List Int) : Option (List Int) := qaM.l0 k (([] : List Int)) qfz (qfz.length : Int) 0 qbP qfz
def qaM.T7 : Bool × List (List Nat × List Nat) := (true, [([], []), ([], []), ([1], [1]), ([2], [2]), ([3], [3]), ([], []), ([5], [5]), ([4, 6], [4, 6]), ([], []), ([7, 8], [7, 8]), ([9], [9]), ([0, 10], [0, 10]), ([11, 11, 0, 1, 2, 3, 4, 5, 6, 7, 8, 9, 10, 11], [0, 11])])
def qaM.B7 : List Nat := [0, 0, 2, 6, 14, 0, 32, 126, 0, 510, 1022, 2047, 4095]
theorem qaM.tab7 : qhS .any (opsOf Tryz.f201 7) = qaM.T7 := by kernel_rfl
theorem qaM.ql8 : qeU qaM.T7.2 qaM.B7 = true := by kernel_rfl
theorem qaM.calls (k : Nat) (qbP : Int) (A0_1 : Option Addr) (c0_1 : Nat) (qfz : List Int) (r : List Int) (w : World) (hr0_1 : Kd.C (Kd.int .i64) w A0_1 qfz.length qfz) (hc0_1 : qfz.length ≤ c0_1) (h : qaM.f k qbP qfz = some r) :
  Calls Tryz.prog 201 #[.agg #[.int .i64 qbP, .slice A0_1 qfz.length c0_1]] w fun e w' => ∃ v0_ : Value, e = .returned (v0_) ∧ Kd.R (Kd.int .i64) 3 w' w.heap.size (fun _ => True) v0_ r ∧ Below w.heap.size w w' := by
 have hu169 := Tryz.underlying169; have HR0_1 := ak_ hr0_1; have HC0_1 := ak_ hc0_1; clear hr0_1 hc0_1; have HB := br_ w; have H : (qaM.l0 k (([] : List Int)) qfz (qfz.length : Int) 0 qbP qfz) = some r := h; clear h
 obtain ⟨qiR, hy_⟩ : ∃ y_ : List Int, y_ = (([] : List Int)) := ⟨_, rfl⟩
 replace H : (qaM.l0 k qiR qfz (qfz.length : Int) 0 qbP qfz) = some r := qe1; have qgP := ak_ hy_; clear hy_; have H' := ak_ H; clear H; go_enter Tryz.func201, Tryz.ntmps201
 go_wp2_with (first | ((with_reducible refine qal (N := 1) rfl ?_); refine bx_ 1 rfl (cs := #[.int .i64 qbP, .slice A0_1 qfz.length c0_1]) (t := 169) qbe ?_; intro qb6 hg w2 hbox hb; have qaG := ak_ (hbox); have qeO := ak_ (HB.ge hg); have qem := ak_ (HB.ge hg); replace HB := HB.mw hb; clear hb hbox hg) | ((with_reducible refine qal (N := 6) rfl ?_); refine li_ (Kd.int .i64) 3 6 rfl (xs := ([] : List Int)) qbe ?_; intro qhm w3 ho4 hb; (first | rw [← qgP.out] at ho4 | (simp only [Int.reduceToNat] at ho4; rw [← qgP.out] at ho4)); have qb1 := ak_ (Kd.qax ho4 (qab qds)); replace qaG := qaG.mw hb; replace HB := ak_ (qaa qds hb); clear hb ho4; obtain ⟨qsb, qsc, qsj, qsk⟩ := qbG qaG.out))
 go_loopg [3, 10] k (fun kq v3 v10 w' => ∃ (qbx : List Int) (qcQ : Int), v10 = .int .i64 qcQ ∧ qag (qaM.l0 kq qbx qfz (qfz.length : Int) qcQ qbP qfz = some r) ∧ qag (kq ≤ k) ∧ qag (Kd.R (Kd.int .i64) 3 w' w.heap.size (fun _ => True) v3 qbx) ∧ qag (w'.heap[qb6]? = some (.cells #[.int .i64 qbP, (.slice A0_1 qfz.length c0_1)] 169 (0, 0))) ∧ qag (Below w.heap.size w w'))
 case atStart => exact ⟨(qiR), (0), qav, H', ⟨Nat.le_refl _⟩, ⟨qra⟩, ⟨qmO⟩, ⟨qds⟩⟩
 case round =>
  clear H'; (try clear qsb); (try clear qsc); (try clear qsj); (try clear qsk); obtain ⟨qbx, qcQ, rfl, HA, HK1, qdq, qaG, HB⟩ := hrel
  cases gk with
  | zero => exact absurd HA.out (by simp [qaM.l0])
  | succ k1 =>
   have H := HA.out; clear HA; simp only [qaM.l0] at H; by_cases c6 : qcQ < (qfz.length : Int); rotate_left
   ·rw [if_neg c6] at H; have qgk := decide_eq_false c6; clear c6; obtain rfl := sj_ H; go_wp2
    go_ret
    exact ⟨_, qcf, k64_, qds⟩
   rw [if_pos c6] at H; have qgk := decide_eq_true c6; clear c6; obtain ⟨c7, H⟩ := qck H; have qgU := decide_eq_true c7; clear c7; obtain ⟨c8, H⟩ := qck H; have qm4 := decide_eq_true c8; clear c8; by_cases c9 : (wrap64 (qcQ + 1)) < (qfz.length : Int)
   ·rw [if_pos c9] at H; have qln := decide_eq_true c9; clear c9
    obtain ⟨qjE, qjD⟩ : ∃ j_ : Int, (wrap64 (qcQ + 1)) = j_ := ⟨_, rfl⟩
    replace H : (if 0 ≤ (qjE) then (if qbx.length < 17592186044416 then (qaM.l0 k1 (qbx ++ [wrap64 ((rd qfz (qjE)) - (rd qfz qcQ))]) qfz (qfz.length : Int) qjE qbP qfz) else (none)) else (none)) = some r := by first | (rw [qjD] at H; exact H) | (simp only [qjD] at H ⊢; exact H)
    (try rw [qjD] at qln); have hji10w : (IntKind.i64.wrap (qcQ + 1)) = qjE := (qd7 _).trans qjD; obtain ⟨c11, H⟩ := qck H; have qfQ := decide_eq_true c11; clear c11; obtain ⟨c12, H⟩ := qck H; have LMc12 := ak_ c12; clear c12
    obtain ⟨qfM, hy_⟩ : ∃ y_ : List Int, y_ = (qbx ++ [wrap64 ((rd qfz (qjE)) - (rd qfz qcQ))]) := ⟨_, rfl⟩
    replace H : (qaM.l0 k1 qfM qfz (qfz.length : Int) qjE qbP qfz) = some r := qe1; have qjA := ak_ hy_; clear hy_; have H' := ak_ H; clear H; have qhD : 0 ≤ (qcQ : Int) := of_decide_eq_true qaO; have qhE : qcQ < (qfz.length : Int) := of_decide_eq_true qaO; obtain ⟨qec, qnf, qcS⟩ := Kd.qdO HR0_1.out qcQ qhD qhE
    cases qnf
    replace qcS := (HB.out.cell (World.block_lt_of_cell? w _ qcS)).trans qcS; replace qhD := eq_true qhD; replace qhE := eq_true qhE; obtain ⟨qmh, qmi, qmj, qmk⟩ := qbG qaG.out; have qfI : 0 ≤ ((qjE) : Int) := of_decide_eq_true qaO; have qfK : (qjE) < (qfz.length : Int) := of_decide_eq_true qaO; obtain ⟨qgS, qjC, qcr⟩ := Kd.qdO HR0_1.out (qjE) qfI qfK
    obtain rfl : qec = qgS := (by injection qjC)
    replace qcr := (HB.out.cell (World.block_lt_of_cell? w _ qcr)).trans qcr; replace qfI := eq_true qfI; replace qfK := eq_true qfK
    go_wp2_with (first | ((with_reducible refine qa2 (b := .append) (xs := #[.tmp 21, .tmp 30]) rfl ?_); at_builtin; refine Kd.qcH (Kd.int .i64) (w0 := w) w.heap.size rfl (.tmp 21) (.tmp 30) 48 3 (.int .i64 0) 8 rfl Tryz.underlying48 info3 rfl (by decide) (by omega) u3 qbx (wrap64 ((rd qfz (qjE)) - (rd qfz qcQ))) [.int .i64 (wrap64 ((rd qfz (qjE)) - (rd qfz qcQ)))] (fun _ => True) (fun _ => False) rfl rfl ?aP (fun _ hk => hk.elim) ?aF ?aO ?aB ?aS ?aL ?_; (case aP => exact rfl); (case aB => exact qds); (case aF => exact (fun _ _ => trivial)); (case aO => exact qhX); (case aS => exact (qab qds)); (case aL => have := LMc12.out; omega); intro v108 w14 ho hb hg hat; rw [← qjA.out] at ho; replace qaG := ak_ (qdH (g := qb6) (o := .cells #[.int .i64 qbP, .slice (some qec) qfz.length c0_1] 169 (0, 0)) qmO hg (Kd.qpw qdq.out qaG.out (by decide))); replace HB := ak_ (hb); have qiT := ak_ (ho); clear qdq; clear ho hb hg hat))
    go_roundg k1
    case measure => have := HK1.out; omega
    case rel => exact ⟨(qfM), (qjE), (by first | rfl | (simp; done) | (simp only [← qjD] <;> (first | rfl | simp)) | (simp [*]; done)), H', ⟨qcW⟩, ⟨by apply_rules only [qiT.out, Kd.qap, Kd.qaq, Kd.qaw]⟩, ⟨qmO⟩, ⟨qds⟩⟩
   rw [if_neg c9] at H; have qln := decide_eq_false c9; clear c9; obtain ⟨c15, H⟩ := qck H; have qm2 := decide_eq_true c15; have qop : decide (0 < qfz.length) = true := decide_eq_true (by omega); clear c15; obtain ⟨c16, H⟩ := qck H; have LMc16 := ak_ c16; clear c16
   obtain ⟨qhZ, hy_⟩ : ∃ y_ : List Int, y_ = (qbx ++ [wrap64 ((wrap64 ((rd qfz 0) + qbP)) - (rd qfz qcQ))]) := ⟨_, rfl⟩
   replace H : (qaM.l0 k1 qhZ qfz (qfz.length : Int) (wrap64 (qcQ + 1)) qbP qfz) = some r := qe1; have qqp := ak_ hy_; clear hy_; have H' := ak_ H; clear H; have qhD : 0 ≤ (qcQ : Int) := of_decide_eq_true qaO; have qhE : qcQ < (qfz.length : Int) := of_decide_eq_true qaO; obtain ⟨qec, qnf, qcS⟩ := Kd.qdO HR0_1.out qcQ qhD qhE
   cases qnf
   replace qcS := (HB.out.cell (World.block_lt_of_cell? w _ qcS)).trans qcS; replace qhD := eq_true qhD; replace qhE := eq_true qhE; obtain ⟨hcz17_0, hcz17_1, hfz17_0, hfz17_1⟩ := qbG qaG.out
   try go_wp2
   replace qdq := ak_ (Kd.qaw qdq.out); replace qaG := ak_ (qam qaG.out); replace HB := ak_ (qah HB.out)
   have qmu : 0 ≤ (0 : Int) := (by omega)
   have qmw : 0 < (qfz.length : Int) := of_decide_eq_true qaO; obtain ⟨qqt, e110, qfn⟩ := Kd.qdO HR0_1.out 0 qmu qmw; have qge := qfn; (try rw [show ((0 : Int)).toNat = 0 from rfl] at qge); (try rw [show 0 * 1 = 0 from rfl] at qge); (try rw [Addr.add_zero'] at qge)
   obtain rfl : qec = qqt := (by injection e110)
   have qi110 : (0 < qfz.length) = True := eq_true (by omega); (try rw [show ((0 : Int)).toNat = 0 from rfl] at qfn); (try rw [Addr.add_zero'] at qfn); replace qfn := (HB.out.cell (World.block_lt_of_cell? w _ qfn)).trans qfn; replace qmu := eq_true qmu; replace qmw := eq_true qmw; refine qe6 (n := 13) (S := fun w' => w'.cell? ⟨qb6, 0, none⟩ = some (.int .i64 qbP) ∧ w'.cell? ⟨qb6, 1, none⟩ = some (.slice (some qec) qfz.length c0_1) ∧ w'.cell? qec = some (.int .i64 (rd qfz 0))) (ds := []) (rA_ [0, 13]) (by kernel_rfl) rfl rfl ⟨qed qaG.out, qbC qaG.out, ((HB.out.cell (World.block_lt_of_cell? w _ qge)).trans qge)⟩ (fun hHeld => ?_); refine qdn qaM.tab7 qaM.ql8 (fun HT_ HW_ => ?_)
   generalize wr.drew = w18 at qdq qaG HB qfn hHeld ⊢
   refine pu_ 0 32 [1, 12] ?_; refine pu_ 1 33 [2, 11] ?_; refine pu_ 5 37 [2, 3, 1, 7] ?_; refine pu_ 8 40 [2, 3, 1, 2, 1, 4] ?_; refine ta3_ 2 34 [3, 2, 1, 2, 1, 4] ?_; refine pu_ 3 35 [4, 1, 1, 2, 1, 4] ?_; refine ta3_ 4 36 [6, 2, 1, 4] ?_; refine ta3_ 6 38 [7, 1, 1, 4] ?_; refine pu_ 7 39 [9, 4] ?_; refine pu_ 9 41 [10, 3] ?_; refine qfH (i := 10) (N := some 42) (rA_ [11, 2]) rfl rfl (qc4 HT_.out (by kernel_rfl)) (by decide) (fun K hK => ?_); refine qiL (w1 := ?_) (v := ?_) (by rfl) rfl ?_ ?_; rotate_left 2
   ·go_simp; constructor
    ·rfl
    rfl
   refine hK.out _ _ ⟨(qba (qaj qaG.out _) 0).trans rfl, (qba (qaj qaG.out _) 1).trans rfl, (World.cell?_alloc_lt _ _ _ (World.block_lt_of_cell? _ _ (((HB.out.cell (World.block_lt_of_cell? w _ qge)).trans qge)))).trans (((HB.out.cell (World.block_lt_of_cell? w _ qge)).trans qge))⟩ (fun hHeld => ?_); clear hK K; refine nm_ 42 ?_; refine qfH (i := 11) (N := some 43) (rA_ [12, 1]) rfl rfl (qc4 HT_.out (by kernel_rfl)) (by decide) (fun K hK => ?_); refine Kd.qeV (Kd.int .i64) (w0 := w) w.heap.size (by rfl) (.tmp 32) (.tmp 42) 48 3 (.int .i64 0) 8 rfl Tryz.underlying48 info3 rfl (by decide) (by omega) u3 qbx (wrap64 ((wrap64 ((rd qfz 0) + qbP)) - (rd qfz qcQ))) [.int .i64 (wrap64 ((wrap64 ((rd qfz 0) + qbP)) - (rd qfz qcQ)))] (fun _ => True) (fun _ => False) rfl rfl ?aP (fun _ hk => hk.elim) ?aF ?aO ?aB ?aS ?aL ?_
   (case aP => exact rfl)
   (case aB => exact qds)
   (case aF => exact (fun _ _ => trivial))
   (case aO => exact qhX)
   (case aS => exact (qab qds))
   (case aL => have := LMc16.out; omega)
   intro v112 w19 ho hb hg hat; rw [← qqp.out] at ho; replace qaG := ak_ (qdH (g := qb6) (o := .cells #[.int .i64 qbP, .slice (some qec) qfz.length c0_1] 169 (0, 0)) qmO hg (Kd.qpw qdq.out qaG.out (by decide))); replace HB := ak_ (hb); have qrh := ak_ (ho); clear qdq; clear ho hb hg hat; refine hK.out _ _ ⟨qed qaG.out, qbC qaG.out, ((HB.out.cell (World.block_lt_of_cell? w _ qge)).trans qge)⟩ (fun hHeld => ?_); clear hK K; refine nm_ 43 ?_; refine pu_ 12 3 [13] ?_; refine qgu (qeC HT_.out (by kernel_rfl)) ?_
   try go_wp2
   go_roundg k1
   case measure => have := HK1.out; omega
   case rel => exact ⟨(qhZ), (wrap64 (qcQ + 1)), qav, H', ⟨qcW⟩, ⟨by apply_rules only [qrh.out, Kd.qap, Kd.qaq, Kd.qaw]⟩, ⟨qmO⟩, ⟨qds⟩⟩
def qd2.f (k : Nat) (l0 : List (qac)) : Option (List Int × Bool) := (qbQ.f k l0).bind fun qcR => (if qcR.2.2 = true then ((qaM.f k qcR.1 qcR.2.1).bind fun t107 => (some (t107, true))) else (some (([] : List Int), false)))
theorem qd2.calls (k : Nat) (A0 : Option Addr) (c0 : Nat) (l0 : List (qac)) (r1 : List Int) (r2 : Bool) (w : World) (hr0 : Kd.C qaL w A0 l0.length l0) (hc0 : l0.length ≤ c0) (h : qd2.f k l0 = some (r1, r2)) :
  Calls Tryz.prog 142 #[.slice A0 l0.length c0] w fun e w' => ∃ v0_ : Value, e = .returned (.tuple #[v0_, .bool r2]) ∧ Kd.R (Kd.int .i64) 3 w' w.heap.size (fun _ => True) v0_ r1 ∧ Below w.heap.size w w' := by
 have hu169 := Tryz.underlying169; have HR0 := ak_ hr0; have HC0 := ak_ hc0; clear hr0 hc0; have HB := br_ w; have H : ((qbQ.f k l0).bind fun qcR => (if qcR.2.2 = true then ((qaM.f k qcR.1 qcR.2.1).bind fun t107 => (some (t107, true))) else (some (([] : List Int), false)))) = some (r1, r2) := h; clear h; obtain ⟨⟨qat, qaR, t105⟩, A2, H⟩ := qay H; (try dsimp only at H); by_cases c3 : t105 = true
 ·subst c3; rw [if_pos rfl] at H; obtain ⟨t107, A4, H⟩ := qay H; (try dsimp only at H); obtain ⟨rfl, rfl⟩ := qdF H; go_enter Tryz.func142, Tryz.ntmps142
  go_wp2_with (first | (refine gl_ 8 Tryz.func187 #[.slice A0 l0.length c0] rfl qbK ?_; (with_reducible refine (qbQ.calls k _ _ l0 qat qaR true _ ?qaA ?qaB A2.out).mono ?_); (case qaA => exact qfN); (case qaB => exact qb5); rintro e w5 ⟨qhm, rfl, ho0, hb⟩; refine ⟨_, rfl, ?_⟩; have qb1 := ak_ (Kd.qax ho0 (qab qan)); replace HB := HB.mw hb; (try clear hb ho0)) | ((with_reducible refine qal (N := 4) rfl ?_); refine bx_ 4 rfl (cs := #[.int .i64 0, .slice none 0 0]) (t := 169) qbe ?_; intro qeW hg w6 hbox hb; replace qb1 := qb1.mw hb; have qek := ak_ (hbox); have qn4 := ak_ (HB.ge hg); have qmT := ak_ (HB.ge hg); replace HB := HB.mw hb; clear hb hbox hg; obtain ⟨qki, qkj, qko, qkp⟩ := qbG qek.out; obtain ⟨Ao8, co8, eo8⟩ := Kd.qaI qb1.out; subst eo8) | (refine gl_ 14 Tryz.func201 #[.agg #[.int .i64 qat, .slice Ao8 qaR.length co8]] rfl qbK ?_; (with_reducible refine (qaM.calls k qat _ _ qaR t107 _ ?qaA ?qaB A4.out).mono ?_); (case qaA => refine (Kd.qao (e := 3) (base := w.heap.size) (ok := fun k_ => True) (n := qaR.length) (c := co8) ?_).2.2; exact k20_); (case qaB => exact (Kd.qao qb1.out).2.1); rintro e w9 ⟨v108, rfl, ho0, hb⟩; refine ⟨_, rfl, ?_⟩; have qiT := ak_ (Kd.qax (Kd.qh1 ho0 (Kd.qjI k20_)) (qab qoZ)); replace qb1 := ak_ (Kd.qfB k20_ (Kd.qfj ho0) hb); replace qek := ak_ (qar (g := qeW) (o := .cells #[.int .i64 qat, .slice Ao8 qaR.length co8] 169 (0, 0)) k6_ hb); replace HB := ak_ (qaa qoZ hb); (try clear hb ho0)))
  go_ret2
  exact ⟨_, qcf, by (with_reducible repeat (first | apply Kd.qap | apply Kd.qaq | apply Kd.qaw)); exact Kd.qa9 qiT.out (fun _ hk => trivial), qoZ⟩
 replace c3 := Bool.eq_false_iff.mpr c3; subst c3; rw [if_neg ff_] at H; obtain ⟨rfl, rfl⟩ := qdF H; go_enter Tryz.func142, Tryz.ntmps142
 go_wp2_with (first | (refine gl_ 8 Tryz.func187 #[.slice A0 l0.length c0] rfl qbK ?_; (with_reducible refine (qbQ.calls k _ _ l0 qat qaR false _ ?qaA ?qaB A2.out).mono ?_); (case qaA => exact qfN); (case qaB => exact qb5); rintro e w10 ⟨qhm, rfl, ho0, hb⟩; refine ⟨_, rfl, ?_⟩; have qb1 := ak_ (Kd.qax ho0 (qab qan)); replace HB := HB.mw hb; (try clear hb ho0)) | ((with_reducible refine qal (N := 4) rfl ?_); refine bx_ 4 rfl (cs := #[.int .i64 0, .slice none 0 0]) (t := 169) qbe ?_; intro qeW hg w11 hbox hb; replace qb1 := qb1.mw hb; have qek := ak_ (hbox); have qn4 := ak_ (HB.ge hg); have qmT := ak_ (HB.ge hg); replace HB := HB.mw hb; clear hb hbox hg; obtain ⟨qoD, qoE, qoK, qoL⟩ := qbG qek.out; obtain ⟨Ao13, co13, eo13⟩ := Kd.qaI qb1.out; subst eo13))
 go_ret2
 exact ⟨_, qcf, qgN, qoZ⟩
def qf1.f (k : Nat) (rs : List qac) (mo : Int) (c : Cmd) : Option (List qac × Int × ByteArray) := match c with
  | .cMirror => (qaT.f k rs).bind fun q => (qe8 k rs q.1 q.2).bind fun p => some (p.1, mo, p.2)
  | .cTidy => (qa7.f k rs).bind fun q => (qe8 k rs q.1 q.2).bind fun p => some (p.1, mo, p.2)
  | .cShow => (qaF.f k rs).bind fun s => some (rs, mo, s)
  | .cCount => (qaC.f k rs 1 mo).bind fun l => (qbm.f (l.length : Int)).bind fun s => some (rs, mo, s)
  | .cPeriod => (qb8.f k rs).bind fun q => (qbm.f q.1).bind fun s => (qbV.f s q.2).bind fun z => some (rs, mo, z)
  | .cLeft => (qaC.f k rs 1 mo).bind fun l => (qbp.f k l).bind fun s => (qbV.f s true).bind fun z => some (rs, mo, z)
  | .cSpokes => (qdM.f k rs).bind fun q => (qbp.f k q.1).bind fun s => (qbV.f s q.2).bind fun z => some (rs, mo, z)
  | .cSteps => (qd2.f k rs).bind fun q => (qbp.f k q.1).bind fun s => (qbV.f s q.2).bind fun z => some (rs, mo, z)
  | _ => none
theorem qpd (k base g : Nat) (rs : List qac) (mo : Int) (c : Cmd) (rs' : List qac) (mo' : Int) (txt : ByteArray) (w : World) (hbase : base ≤ w.heap.size) (hD : qfD w base g rs mo) (hl : rs.length < 8796093022208) (hG : qbb w) (h : qf1.f k rs mo c = some (rs', mo', txt)) :
    Calls Tryz.prog 77 #[.pointer (some ⟨g, 0, none⟩), .string c.word] w fun e w' => e = .returned (.string txt) ∧ qfD w' base g rs' mo' ∧ qcv w w' g := by
  obtain ⟨A0, c0, hC, hO⟩ := hD; have HCw := ak_ hC; have HOw := ak_ hO; have HC := ak_ hC; have HO := ak_ hO; have HG := ak_ hG; have HBS := ak_ hbase; have HB := br_ w; have HLn := ak_ hl; have SM := ak_ (show ∀ w' : World, Below w.heap.size w w' → qfD w' base g rs mo ∧ qcv w w' g from fun w' h_ => ⟨⟨A0, c0, qar HCw.out h_, Kd.qbv HOw.out h_⟩, qcv.qbS h_ g⟩); obtain ⟨qqH, qqI, qqB, qqC⟩ := qbG HC.out; clear hC hO hG hbase hl; unfold qf1.f at h
  match c, h with
  | .cMirror, h =>
    simp only [Cmd.word, Cmd.bytes]; dsimp only at h; obtain ⟨⟨xs, ok⟩, A1, h⟩ := qay h; (try dsimp only at h); obtain ⟨⟨rs1, qje⟩, A2, h⟩ := qay h; (try dsimp only at h); obtain ⟨rfl, rfl, rfl⟩ := qfJ h; go_enter Tryz.func77, Tryz.ntmps77
    go_wp2_with (first | ((with_reducible refine qal (N := 9) rfl ?_); refine li_ (Kd.int .i64) 3 9 rfl (xs := ([] : List Int)) qbe ?_; intro vl9 wl ho hb; have HV := ak_ (Kd.qax ho (qab qan)); replace HB := HB.mw hb; clear hb ho; clear HV; clear HC HO; have HC := ak_ (qar HCw.out HB.out); have HO := ak_ (Kd.qbv HOw.out HB.out); obtain ⟨qjn, qjo, qjl, qjm⟩ := qbG HC.out) | (refine gl_ 26 Tryz.func137 #[.slice A0 rs.length c0] rfl qbZ ?_; (refine (qaT.calls k _ _ rs xs ok _ qjp (Kd.qao HO.out).2.1 A1.out).mono ?_); rintro e w2 ⟨vx, rfl, hox, hb⟩; refine ⟨_, rfl, ?_⟩; have HX := ak_ (Kd.qax hox (Nat.le_trans HBS.out (qab qan))); clear hox; obtain ⟨Ax, cx, ex⟩ := Kd.qaI HX.out; subst ex; replace HB := ak_ (qaa qan hb); clear hb) | (refine gl_ 29 Tryz.func71 #[.pointer (some ⟨g, 0, none⟩), .slice Ax xs.length cx, .bool ok] rfl qbZ ?_; (refine (qeQ k base g Ax cx xs ok rs mo rs1 qje _ (SM.out _ qan).1 qmP A2.out).mono ?_); rintro e w9 ⟨rfl, hD, hk⟩; refine ⟨_, rfl, ?_⟩; have HD := ak_ hD; have HKb := ak_ (qcv.trans (qcv.qbS qan g) hk); clear hD hk))
    go_ret
    exact ⟨rfl, HD.out, HKb.out⟩
  | .cTidy, h =>
    simp only [Cmd.word, Cmd.bytes]; dsimp only at h; obtain ⟨⟨xs, ok⟩, A1, h⟩ := qay h; (try dsimp only at h); obtain ⟨⟨rs1, qje⟩, A2, h⟩ := qay h; (try dsimp only at h); obtain ⟨rfl, rfl, rfl⟩ := qfJ h; go_enter Tryz.func77, Tryz.ntmps77
    go_wp2_with (first | ((with_reducible refine qal (N := 9) rfl ?_); refine li_ (Kd.int .i64) 3 9 rfl (xs := ([] : List Int)) qbe ?_; intro vl9 wl ho hb; have HV := ak_ (Kd.qax ho (qab qan)); replace HB := HB.mw hb; clear hb ho; clear HV; clear HC HO; have HC := ak_ (qar HCw.out HB.out); have HO := ak_ (Kd.qbv HOw.out HB.out); obtain ⟨qjn, qjo, qjl, qjm⟩ := qbG HC.out) | (refine gl_ 37 Tryz.func138 #[.slice A0 rs.length c0] rfl qbZ ?_; (refine (qa7.calls k _ _ rs xs ok _ qjp (Kd.qao HO.out).2.1 A1.out).mono ?_); rintro e w2 ⟨vx, rfl, hox, hb⟩; refine ⟨_, rfl, ?_⟩; have HX := ak_ (Kd.qax hox (Nat.le_trans HBS.out (qab qan))); clear hox; obtain ⟨Ax, cx, ex⟩ := Kd.qaI HX.out; subst ex; replace HB := ak_ (qaa qan hb); clear hb) | (refine gl_ 40 Tryz.func71 #[.pointer (some ⟨g, 0, none⟩), .slice Ax xs.length cx, .bool ok] rfl qbZ ?_; (refine (qeQ k base g Ax cx xs ok rs mo rs1 qje _ (SM.out _ qan).1 qmP A2.out).mono ?_); rintro e w9 ⟨rfl, hD, hk⟩; refine ⟨_, rfl, ?_⟩; have HD := ak_ hD; have HKb := ak_ (qcv.trans (qcv.qbS qan g) hk); clear hD hk))
    go_ret
    exact ⟨rfl, HD.out, HKb.out⟩
  | .cShow, h =>
    simp only [Cmd.word, Cmd.bytes]; dsimp only at h; obtain ⟨s, A1, h⟩ := qay h; (try dsimp only at h); obtain ⟨rfl, rfl, rfl⟩ := qfJ h; go_enter Tryz.func77, Tryz.ntmps77
    go_wp2_with (first | ((with_reducible refine qal (N := 9) rfl ?_); refine li_ (Kd.int .i64) 3 9 rfl (xs := ([] : List Int)) qbe ?_; intro vl9 wl ho hb; have HV := ak_ (Kd.qax ho (qab qan)); replace HB := HB.mw hb; clear hb ho; clear HV; clear HC HO; have HC := ak_ (qar HCw.out HB.out); have HO := ak_ (Kd.qbv HOw.out HB.out); obtain ⟨qjn, qjo, qjl, qjm⟩ := qbG HC.out) | (refine gl_ 47 Tryz.func54 #[.slice A0 rs.length c0] rfl qbZ ?_; (refine (qaF.calls k _ _ rs s _ qjp (Kd.qao HO.out).2.1 A1.out).mono ?_); rintro e w3 ⟨rfl, hb⟩; refine ⟨_, rfl, ?_⟩; replace HB := ak_ (qaa qan hb); clear hb))
    go_ret
    exact ⟨rfl, SM.out _ qan⟩
  | .cCount, h =>
    simp only [Cmd.word, Cmd.bytes]; dsimp only at h; obtain ⟨xs, A1, h⟩ := qay h; (try dsimp only at h); obtain ⟨s, A2, h⟩ := qay h; (try dsimp only at h); obtain ⟨rfl, rfl, rfl⟩ := qfJ h; go_enter Tryz.func77, Tryz.ntmps77
    go_wp2_with (first | ((with_reducible refine qal (N := 9) rfl ?_); refine li_ (Kd.int .i64) 3 9 rfl (xs := ([] : List Int)) qbe ?_; intro vl9 wl ho hb; have HV := ak_ (Kd.qax ho (qab qan)); replace HB := HB.mw hb; clear hb ho; clear HV; clear HC HO; have HC := ak_ (qar HCw.out HB.out); have HO := ak_ (Kd.qbv HOw.out HB.out); obtain ⟨qjn, qjo, qjl, qjm⟩ := qbG HC.out))
    go_still_tail 8, (by kernel_rfl)
    go_wp2_with (first | (refine gl_ 58 Tryz.func139 #[.slice A0 rs.length c0, .int .i64 1, .int .i64 mo] rfl qbZ ?_; (refine (qaC.calls k _ _ rs 1 mo xs _ qjp (Kd.qao HO.out).2.1 A1.out).mono ?_); rintro e w2 ⟨vx, rfl, hox, hb⟩; refine ⟨_, rfl, ?_⟩; have HX := ak_ (Kd.qax hox (Nat.le_trans HBS.out (qab qan))); clear hox; obtain ⟨Ax, cx, ex⟩ := Kd.qaI HX.out; subst ex; replace HB := ak_ (qaa qan hb); clear hb) | (refine gl_ 60 Tryz.func87 #[.int .i64 (xs.length : Int)] rfl qbZ ?_; (refine (qbm.calls (xs.length : Int) s _ A2.out (qbb.below HG.out qan)).mono ?_); rintro e w5 ⟨rfl, hb⟩; refine ⟨_, rfl, ?_⟩; replace HB := ak_ (qaa qan hb); clear hb))
    go_ret
    exact ⟨rfl, SM.out _ qan⟩
  | .cPeriod, h =>
    simp only [Cmd.word, Cmd.bytes]; dsimp only at h; obtain ⟨⟨v, ok⟩, A1, h⟩ := qay h; (try dsimp only at h); obtain ⟨s, A2, h⟩ := qay h; (try dsimp only at h); obtain ⟨z, A3, h⟩ := qay h; (try dsimp only at h); obtain ⟨rfl, rfl, rfl⟩ := qfJ h; go_enter Tryz.func77, Tryz.ntmps77
    go_wp2_with (first | ((with_reducible refine qal (N := 9) rfl ?_); refine li_ (Kd.int .i64) 3 9 rfl (xs := ([] : List Int)) qbe ?_; intro vl9 wl ho hb; have HV := ak_ (Kd.qax ho (qab qan)); replace HB := HB.mw hb; clear hb ho; clear HV; clear HC HO; have HC := ak_ (qar HCw.out HB.out); have HO := ak_ (Kd.qbv HOw.out HB.out); obtain ⟨qjn, qjo, qjl, qjm⟩ := qbG HC.out) | (refine gl_ 68 Tryz.func140 #[.slice A0 rs.length c0] rfl qbZ ?_; (refine (qb8.calls k _ _ rs v ok _ qjp (Kd.qao HO.out).2.1 A1.out).mono ?_); rintro e w2 ⟨rfl, hb⟩; refine ⟨_, rfl, ?_⟩; replace HB := ak_ (qaa qan hb); clear hb) | (refine gl_ 72 Tryz.func87 #[.int .i64 v] rfl qbZ ?_; (refine (qbm.calls v s _ A2.out (qbb.below HG.out qan)).mono ?_); rintro e w5 ⟨rfl, hb⟩; refine ⟨_, rfl, ?_⟩; replace HB := ak_ (qaa qan hb); clear hb) | (refine gl_ 74 Tryz.func76 #[.string s, .bool ok] rfl qbZ ?_; (refine ((qbV.calls s ok z _ A3.out)).mono ?_); rintro e w8 ⟨rfl, hd_⟩; refine ⟨_, rfl, ?_⟩; have hb := hd_.below; clear hd_; replace HB := ak_ (qaa qan hb); clear hb))
    go_ret
    exact ⟨rfl, SM.out _ qan⟩
  | .cLeft, h =>
    simp only [Cmd.word, Cmd.bytes]; dsimp only at h; obtain ⟨xs, A1, h⟩ := qay h; (try dsimp only at h); obtain ⟨s, A2, h⟩ := qay h; (try dsimp only at h); obtain ⟨z, A3, h⟩ := qay h; (try dsimp only at h); obtain ⟨rfl, rfl, rfl⟩ := qfJ h; go_enter Tryz.func77, Tryz.ntmps77
    go_wp2_with (first | ((with_reducible refine qal (N := 9) rfl ?_); refine li_ (Kd.int .i64) 3 9 rfl (xs := ([] : List Int)) qbe ?_; intro vl9 wl ho hb; have HV := ak_ (Kd.qax ho (qab qan)); replace HB := HB.mw hb; clear hb ho; clear HV; clear HC HO; have HC := ak_ (qar HCw.out HB.out); have HO := ak_ (Kd.qbv HOw.out HB.out); obtain ⟨qjn, qjo, qjl, qjm⟩ := qbG HC.out))
    go_still_tail 8, (by kernel_rfl)
    go_wp2_with (first | (refine gl_ 85 Tryz.func139 #[.slice A0 rs.length c0, .int .i64 1, .int .i64 mo] rfl qbZ ?_; (refine (qaC.calls k _ _ rs 1 mo xs _ qjp (Kd.qao HO.out).2.1 A1.out).mono ?_); rintro e w2 ⟨vx, rfl, hox, hb⟩; refine ⟨_, rfl, ?_⟩; have HX := ak_ (Kd.qax hox (Nat.le_trans HBS.out (qab qan))); clear hox; obtain ⟨Ax, cx, ex⟩ := Kd.qaI HX.out; subst ex; replace HB := ak_ (qaa qan hb); clear hb) | (refine gl_ 97 Tryz.func131 #[.slice Ax xs.length cx] rfl qbZ ?_; (refine (qbp.calls k _ _ xs s _ qqM (Kd.qao HX.out).2.1 A2.out (qbb.below HG.out qan)).mono ?_); rintro e w5 ⟨rfl, hb⟩; refine ⟨_, rfl, ?_⟩; replace HB := ak_ (qaa qan hb); clear hb) | (refine gl_ 99 Tryz.func76 #[.string s, .bool true] rfl qbZ ?_; (refine ((qbV.calls s true z _ A3.out)).mono ?_); rintro e w8 ⟨rfl, hd_⟩; refine ⟨_, rfl, ?_⟩; have hb := hd_.below; clear hd_; replace HB := ak_ (qaa qan hb); clear hb))
    go_ret
    exact ⟨rfl, SM.out _ qan⟩
  | .cSpokes, h =>
    simp only [Cmd.word, Cmd.bytes]; dsimp only at h; obtain ⟨⟨xs, ok⟩, A1, h⟩ := qay h; (try dsimp only at h); obtain ⟨s, A2, h⟩ := qay h; (try dsimp only at h); obtain ⟨z, A3, h⟩ := qay h; (try dsimp only at h); obtain ⟨rfl, rfl, rfl⟩ := qfJ h; go_enter Tryz.func77, Tryz.ntmps77
    go_wp2_with (first | ((with_reducible refine qal (N := 9) rfl ?_); refine li_ (Kd.int .i64) 3 9 rfl (xs := ([] : List Int)) qbe ?_; intro vl9 wl ho hb; have HV := ak_ (Kd.qax ho (qab qan)); replace HB := HB.mw hb; clear hb ho; clear HV; clear HC HO; have HC := ak_ (qar HCw.out HB.out); have HO := ak_ (Kd.qbv HOw.out HB.out); obtain ⟨qjn, qjo, qjl, qjm⟩ := qbG HC.out) | (refine gl_ 93 Tryz.func141 #[.slice A0 rs.length c0] rfl qbZ ?_; (refine (qdM.calls k _ _ rs xs ok _ qjp (Kd.qao HO.out).2.1 A1.out).mono ?_); rintro e w2 ⟨vx, rfl, hox, hb⟩; refine ⟨_, rfl, ?_⟩; have HX := ak_ (Kd.qax hox (Nat.le_trans HBS.out (qab qan))); clear hox; obtain ⟨Ax, cx, ex⟩ := Kd.qaI HX.out; subst ex; replace HB := ak_ (qaa qan hb); clear hb) | (refine gl_ 97 Tryz.func131 #[.slice Ax xs.length cx] rfl qbZ ?_; (refine (qbp.calls k _ _ xs s _ qqM (Kd.qao HX.out).2.1 A2.out (qbb.below HG.out qan)).mono ?_); rintro e w5 ⟨rfl, hb⟩; refine ⟨_, rfl, ?_⟩; replace HB := ak_ (qaa qan hb); clear hb) | (refine gl_ 99 Tryz.func76 #[.string s, .bool ok] rfl qbZ ?_; (refine ((qbV.calls s ok z _ A3.out)).mono ?_); rintro e w8 ⟨rfl, hd_⟩; refine ⟨_, rfl, ?_⟩; have hb := hd_.below; clear hd_; replace HB := ak_ (qaa qan hb); clear hb))
    go_ret
    exact ⟨rfl, SM.out _ qan⟩
  | .cSteps, h =>
    simp only [Cmd.word, Cmd.bytes]; dsimp only at h; obtain ⟨⟨xs, ok⟩, A1, h⟩ := qay h; (try dsimp only at h); obtain ⟨s, A2, h⟩ := qay h; (try dsimp only at h); obtain ⟨z, A3, h⟩ := qay h; (try dsimp only at h); obtain ⟨rfl, rfl, rfl⟩ := qfJ h; go_enter Tryz.func77, Tryz.ntmps77
    go_wp2_with (first | ((with_reducible refine qal (N := 9) rfl ?_); refine li_ (Kd.int .i64) 3 9 rfl (xs := ([] : List Int)) qbe ?_; intro vl9 wl ho hb; have HV := ak_ (Kd.qax ho (qab qan)); replace HB := HB.mw hb; clear hb ho; clear HV; clear HC HO; have HC := ak_ (qar HCw.out HB.out); have HO := ak_ (Kd.qbv HOw.out HB.out); obtain ⟨qjn, qjo, qjl, qjm⟩ := qbG HC.out) | (refine gl_ 16 Tryz.func142 #[.slice A0 rs.length c0] rfl qbZ ?_; (refine (qd2.calls k _ _ rs xs ok _ qjp (Kd.qao HO.out).2.1 A1.out).mono ?_); rintro e w2 ⟨vx, rfl, hox, hb⟩; refine ⟨_, rfl, ?_⟩; have HX := ak_ (Kd.qax hox (Nat.le_trans HBS.out (qab qan))); clear hox; obtain ⟨Ax, cx, ex⟩ := Kd.qaI HX.out; subst ex; replace HB := ak_ (qaa qan hb); clear hb) | (refine gl_ 97 Tryz.func131 #[.slice Ax xs.length cx] rfl qbZ ?_; (refine (qbp.calls k _ _ xs s _ qqM (Kd.qao HX.out).2.1 A2.out (qbb.below HG.out qan)).mono ?_); rintro e w5 ⟨rfl, hb⟩; refine ⟨_, rfl, ?_⟩; replace HB := ak_ (qaa qan hb); clear hb) | (refine gl_ 99 Tryz.func76 #[.string s, .bool ok] rfl qbZ ?_; (refine ((qbV.calls s ok z _ A3.out)).mono ?_); rintro e w8 ⟨rfl, hd_⟩; refine ⟨_, rfl, ?_⟩; have hb := hd_.below; clear hd_; replace HB := ak_ (qaa qan hb); clear hb))
    go_ret
    exact ⟨rfl, SM.out _ qan⟩
theorem qcP {w : World} {base g n c : Nat} {ok : Nat → Prop} {ws : List ByteArray} (h : Kd.R Kd.string 9 w base ok (.slice (some ⟨g, 0, none⟩) n c) ws) (i : Nat) (x : ByteArray) (hx : ws[i]? = some x) : w.cell? ⟨g, i, none⟩ = some (.string x) := by
  have hi := (List.getElem?_eq_some_iff.1 hx).1; have h2 := Kd.qao h; obtain ⟨ad, e, hc⟩ := Kd.qeu h2.2.2 (i : Int) (by omega) (by omega)
  cases e
  rw [Int.toNat_natCast, add_plain] at hc; rw [hc, qeJ, List.getD, Int.toNat_natCast, hx]; rfl
theorem Cmd.kinds (c : Cmd) : c.kind = [] ∨ c.kind = [110] ∨ c.kind = [114] ∨ c.kind = [115] := by cases c <;> simp [Cmd.kind]
theorem Cmd.rule {c : Cmd} (h : c.kind = [114]) : c = .cRules ∨ c = .cAdd := by cases c <;> simp_all [Cmd.kind]
def qfo.f (k : Nat) (rs : List qac) (mo : Int) (s : ByteArray) : Option (List qac × Int × ByteArray) := if s.size ≤ 1048576 ∧ rs.length < 8796093022208 then (match qgz 32 s with
  | [] => none
  | x :: t => match qht x with
    | none => some (rs, mo, (⟨#[119, 104, 97, 116]⟩ : ByteArray))
    | some c => if t.length = c.kind.length then (match c.kind, t with
        | [], _ => qf1.f k rs mo c
        | 110 :: _, y :: _ => (match numOf y with | none => some (rs, mo, (⟨#[119, 104, 97, 116]⟩ : ByteArray)) | some n => qcj.f k rs mo c n)
        | 114 :: _, y :: _ => (qaW.f k y).bind fun q => if q.2 = true then ((if c.bytes = [97, 100, 100] then (if rs.length + q.1.length < 8796093022208 then some (rs ++ q.1) else none) else some q.1).bind fun xs => (qe8 k rs xs true).bind fun p => some (p.1, mo, p.2)) else some (rs, mo, (⟨#[119, 104, 97, 116]⟩ : ByteArray))
        | _, y :: _ => (qb7.f y).bind fun q => if q.2.2 = true then ((qc1.f k q.1 q.2.1).bind fun u => (qaF.f k u.1).bind fun z => (qbV.f z u.2).bind fun z => some (rs, mo, z)) else some (rs, mo, (⟨#[110, 111]⟩ : ByteArray))
        | _, [] => none) else some (rs, mo, (⟨#[119, 104, 97, 116]⟩ : ByteArray))) else none
theorem qqQ (k base g : Nat) (rs : List qac) (mo : Int) (s : ByteArray) (rs' : List qac) (mo' : Int) (txt : ByteArray) (w : World) (hbase : base ≤ w.heap.size) (hD : qfD w base g rs mo) (hG : qbb w) (h : qfo.f k rs mo s = some (rs', mo', txt)) :
    Calls Tryz.prog 45 #[.pointer (some ⟨g, 0, none⟩), .string s] w fun e w' => e = .returned (.string txt) ∧ qfD w' base g rs' mo' ∧ qcv w w' g := by
  unfold qfo.f at h; by_cases hsl : s.size ≤ 1048576 ∧ rs.length < 8796093022208; rotate_left
  ·rw [if_neg hsl] at h; exact absurd h (by simp)
  rw [if_pos hsl] at h; have hl := hsl.2; have HS := ak_ hsl.1; clear hsl; obtain ⟨A0, c0, hC, hO⟩ := hD; have HCw := ak_ hC; have HOw := ak_ hO; have HC := ak_ hC; have HO := ak_ hO; have HG := ak_ hG; have HBS := ak_ hbase; have HB := br_ w; have HLn := ak_ hl; have SM := ak_ (show ∀ w' : World, Below w.heap.size w w' → qfD w' base g rs mo ∧ qcv w w' g from fun w' h_ => ⟨⟨A0, c0, qar HCw.out h_, Kd.qbv HOw.out h_⟩, qcv.qbS h_ g⟩); obtain ⟨qqH, qqI, qqB, qqC⟩ := qbG HC.out; clear hC hO hG hbase hl
  obtain ⟨ws, hws⟩ : ∃ ws, ws = qgz 32 s := ⟨_, rfl⟩
  rw [← hws] at h; have HWE := ak_ hws; have HWM := ak_ (show ∀ x ∈ ws, x.size ≤ 1048576 from fun x hx => by have := qjb _ _ s x (by rw [hws] at hx; exact hx); have := HS.out; omega); clear hws
  cases hw0 : ws with
  | nil => rw [hw0] at h; exact absurd h (by simp)
  | cons x0 t =>
    rw [hw0] at h; have HWP := ak_ (show 0 < ws.length from by rw [hw0]; simp)
    have hlt0 : (0 : Int) < (ws.length : Int) := by have := HWP.out; omega
    dsimp only at h; have HX0 := ak_ (show ws[0]? = some x0 from by rw [hw0]; rfl)
    cases hcm : qht x0 with
    | none =>
      rw [hcm] at h; dsimp only at h; have HCM := ak_ hcm; obtain ⟨rfl, rfl, rfl⟩ := qfJ h; clear hcm hw0; go_enter Tryz.func45, Tryz.ntmps45
      go_wp2_with (first | (refine gl_ 16 Tryz.func68 #[.string s, .string ⟨#[32]⟩] rfl qbZ ?_; (refine (qdd s ⟨#[32]⟩ _ (by have := HS.out; omega) rfl (qbb.below HG.out qan)).mono ?_); rintro e w1 ⟨vw, rfl, how, hb⟩; refine ⟨_, rfl, ?_⟩; have HW := ak_ (show Kd.R Kd.string 9 _ w.heap.size (fun _ => True) vw ws from qp1); obtain ⟨gw, cw, ew, -⟩ := Kd.qeZ HW.out HWP.out; subst ew; replace HB := ak_ (qaa qan hb); have qg8 : w1.cell? ⟨gw, 0, none⟩ = some (.string x0) := qcP HW.out 0 x0 HX0.out; clear hb; clear how) | (refine gl_ 21 Tryz.func69 #[.string x0] rfl qbZ ?_; (refine ((qbF.calls x0 ⟨#[]⟩ false _ (by unfold qbF.f; rw [HCM.out]))).mono ?_); rintro e w2 ⟨rfl, hb⟩; refine ⟨_, rfl, ?_⟩; replace HB := ak_ (qaa qan hb); replace HW := HW.mw hb; have qg9 : w2.cell? ⟨gw, 0, none⟩ = some (.string x0) := qcP HW.out 0 x0 HX0.out; clear hb))
      go_ret
      exact ⟨rfl, SM.out _ qan⟩
    | some c =>
      rw [hcm] at h; dsimp only at h; have HCM := ak_ hcm; have HWD := ak_ (qhM hcm); clear hcm
      have hwl : ws.length = t.length + 1 := by rw [hw0]; rfl
      by_cases htl : t.length = c.kind.length; rotate_left
      ·rw [if_neg htl] at h
       rcases Cmd.kinds c with hkd | hkd | hkd | hkd
       ·have hln : ws.length ≠ 1 := by rw [hkd] at htl; have : t.length ≠ 0 := htl; omega
        have HKD := ak_ hkd; have hlc : ((ws.length : Int) != 1) = true := bne_iff_ne.2 (by omega); have hld : ((ws.length : Int) == 1) = false := beq_eq_false_iff_ne.2 (by omega); obtain ⟨rfl, rfl, rfl⟩ := qfJ h; clear hkd hln; go_enter Tryz.func45, Tryz.ntmps45
        go_wp2_with (first | (refine gl_ 16 Tryz.func68 #[.string s, .string ⟨#[32]⟩] rfl qbZ ?_; (refine (qdd s ⟨#[32]⟩ _ (by have := HS.out; omega) rfl (qbb.below HG.out qan)).mono ?_); rintro e w1 ⟨vw, rfl, how, hb⟩; refine ⟨_, rfl, ?_⟩; have HW := ak_ (show Kd.R Kd.string 9 _ w.heap.size (fun _ => True) vw ws from qp1); obtain ⟨gw, cw, ew, -⟩ := Kd.qeZ HW.out HWP.out; subst ew; replace HB := ak_ (qaa qan hb); have qg8 : w1.cell? ⟨gw, 0, none⟩ = some (.string x0) := qcP HW.out 0 x0 HX0.out; clear hb; clear how) | (refine gl_ 21 Tryz.func69 #[.string x0] rfl qbZ ?_; (refine ((qbF.calls x0 ⟨#[]⟩ true _ qrb)).mono ?_); rintro e w2 ⟨rfl, hb⟩; refine ⟨_, rfl, ?_⟩; replace HB := ak_ (qaa qan hb); replace HW := HW.mw hb; have qg9 : w2.cell? ⟨gw, 0, none⟩ = some (.string x0) := qcP HW.out 0 x0 HX0.out; clear hb))
        go_ret
        exact ⟨rfl, SM.out _ qan⟩
       ·have hln : ws.length ≠ 2 := by rw [hkd] at htl; have : t.length ≠ 1 := htl; omega
        have HKD := ak_ hkd; have hlc : ((ws.length : Int) != 2) = true := bne_iff_ne.2 (by omega); have hld : ((ws.length : Int) == 2) = false := beq_eq_false_iff_ne.2 (by omega); obtain ⟨rfl, rfl, rfl⟩ := qfJ h; clear hkd hln; go_enter Tryz.func45, Tryz.ntmps45
        go_wp2_with (first | (refine gl_ 16 Tryz.func68 #[.string s, .string ⟨#[32]⟩] rfl qbZ ?_; (refine (qdd s ⟨#[32]⟩ _ (by have := HS.out; omega) rfl (qbb.below HG.out qan)).mono ?_); rintro e w1 ⟨vw, rfl, how, hb⟩; refine ⟨_, rfl, ?_⟩; have HW := ak_ (show Kd.R Kd.string 9 _ w.heap.size (fun _ => True) vw ws from qp1); obtain ⟨gw, cw, ew, -⟩ := Kd.qeZ HW.out HWP.out; subst ew; replace HB := ak_ (qaa qan hb); have qg8 : w1.cell? ⟨gw, 0, none⟩ = some (.string x0) := qcP HW.out 0 x0 HX0.out; clear hb; clear how) | (refine gl_ 21 Tryz.func69 #[.string x0] rfl qbZ ?_; (refine ((qbF.calls x0 ⟨#[110]⟩ true _ qrb)).mono ?_); rintro e w2 ⟨rfl, hb⟩; refine ⟨_, rfl, ?_⟩; replace HB := ak_ (qaa qan hb); replace HW := HW.mw hb; have qg9 : w2.cell? ⟨gw, 0, none⟩ = some (.string x0) := qcP HW.out 0 x0 HX0.out; clear hb))
        go_ret
        exact ⟨rfl, SM.out _ qan⟩
       ·have hln : ws.length ≠ 2 := by rw [hkd] at htl; have : t.length ≠ 1 := htl; omega
        have HKD := ak_ hkd; have hlc : ((ws.length : Int) != 2) = true := bne_iff_ne.2 (by omega); have hld : ((ws.length : Int) == 2) = false := beq_eq_false_iff_ne.2 (by omega); obtain ⟨rfl, rfl, rfl⟩ := qfJ h; clear hkd hln; go_enter Tryz.func45, Tryz.ntmps45
        go_wp2_with (first | (refine gl_ 16 Tryz.func68 #[.string s, .string ⟨#[32]⟩] rfl qbZ ?_; (refine (qdd s ⟨#[32]⟩ _ (by have := HS.out; omega) rfl (qbb.below HG.out qan)).mono ?_); rintro e w1 ⟨vw, rfl, how, hb⟩; refine ⟨_, rfl, ?_⟩; have HW := ak_ (show Kd.R Kd.string 9 _ w.heap.size (fun _ => True) vw ws from qp1); obtain ⟨gw, cw, ew, -⟩ := Kd.qeZ HW.out HWP.out; subst ew; replace HB := ak_ (qaa qan hb); have qg8 : w1.cell? ⟨gw, 0, none⟩ = some (.string x0) := qcP HW.out 0 x0 HX0.out; clear hb; clear how) | (refine gl_ 21 Tryz.func69 #[.string x0] rfl qbZ ?_; (refine ((qbF.calls x0 ⟨#[114]⟩ true _ qrb)).mono ?_); rintro e w2 ⟨rfl, hb⟩; refine ⟨_, rfl, ?_⟩; replace HB := ak_ (qaa qan hb); replace HW := HW.mw hb; have qg9 : w2.cell? ⟨gw, 0, none⟩ = some (.string x0) := qcP HW.out 0 x0 HX0.out; clear hb))
        go_ret
        exact ⟨rfl, SM.out _ qan⟩
       have hln : ws.length ≠ 2 := by rw [hkd] at htl; have : t.length ≠ 1 := htl; omega
       have HKD := ak_ hkd; have hlc : ((ws.length : Int) != 2) = true := bne_iff_ne.2 (by omega); have hld : ((ws.length : Int) == 2) = false := beq_eq_false_iff_ne.2 (by omega); obtain ⟨rfl, rfl, rfl⟩ := qfJ h; clear hkd hln; go_enter Tryz.func45, Tryz.ntmps45
       go_wp2_with (first | (refine gl_ 16 Tryz.func68 #[.string s, .string ⟨#[32]⟩] rfl qbZ ?_; (refine (qdd s ⟨#[32]⟩ _ (by have := HS.out; omega) rfl (qbb.below HG.out qan)).mono ?_); rintro e w1 ⟨vw, rfl, how, hb⟩; refine ⟨_, rfl, ?_⟩; have HW := ak_ (show Kd.R Kd.string 9 _ w.heap.size (fun _ => True) vw ws from qp1); obtain ⟨gw, cw, ew, -⟩ := Kd.qeZ HW.out HWP.out; subst ew; replace HB := ak_ (qaa qan hb); have qg8 : w1.cell? ⟨gw, 0, none⟩ = some (.string x0) := qcP HW.out 0 x0 HX0.out; clear hb; clear how) | (refine gl_ 21 Tryz.func69 #[.string x0] rfl qbZ ?_; (refine ((qbF.calls x0 ⟨#[115]⟩ true _ qrb)).mono ?_); rintro e w2 ⟨rfl, hb⟩; refine ⟨_, rfl, ?_⟩; replace HB := ak_ (qaa qan hb); replace HW := HW.mw hb; have qg9 : w2.cell? ⟨gw, 0, none⟩ = some (.string x0) := qcP HW.out 0 x0 HX0.out; clear hb))
       go_ret
       exact ⟨rfl, SM.out _ qan⟩
      rw [if_pos htl] at h
      rcases Cmd.kinds c with hkd | hkd | hkd | hkd
      ·rw [hkd] at h htl; obtain rfl := List.length_eq_zero_iff.1 htl; have HF := ak_ (show qf1.f k rs mo c = some (rs', mo', txt) from h); have HKD := ak_ hkd
       have hln : ws.length = 1 := by rw [hw0]; rfl
       have hlc : ((ws.length : Int) != 1) = false := bne_eq_false_iff_eq.2 (by omega); have hld : ((ws.length : Int) == 1) = true := beq_iff_eq.2 (by omega); clear hkd htl h hw0 hwl hln; go_enter Tryz.func45, Tryz.ntmps45
       go_wp2_with (first | (refine gl_ 16 Tryz.func68 #[.string s, .string ⟨#[32]⟩] rfl qbZ ?_; (refine (qdd s ⟨#[32]⟩ _ (by have := HS.out; omega) rfl (qbb.below HG.out qan)).mono ?_); rintro e w1 ⟨vw, rfl, how, hb⟩; refine ⟨_, rfl, ?_⟩; have HW := ak_ (show Kd.R Kd.string 9 _ w.heap.size (fun _ => True) vw ws from qp1); obtain ⟨gw, cw, ew, -⟩ := Kd.qeZ HW.out HWP.out; subst ew; replace HB := ak_ (qaa qan hb); have qg8 : w1.cell? ⟨gw, 0, none⟩ = some (.string x0) := qcP HW.out 0 x0 HX0.out; clear hb; clear how) | (refine gl_ 21 Tryz.func69 #[.string x0] rfl qbZ ?_; (refine ((qbF.calls x0 ⟨#[]⟩ true _ qrb)).mono ?_); rintro e w2 ⟨rfl, hb⟩; refine ⟨_, rfl, ?_⟩; replace HB := ak_ (qaa qan hb); replace HW := HW.mw hb; have qg9 : w2.cell? ⟨gw, 0, none⟩ = some (.string x0) := qcP HW.out 0 x0 HX0.out; clear hb) | (refine gl_ 102 Tryz.func77 #[.pointer (some ⟨g, 0, none⟩), .string x0] rfl qbZ ?_; (refine ((show Calls _ _ _ _ _ from by rw [HWD.out]; exact qpd k base g rs mo c rs' mo' txt _ (Nat.le_trans HBS.out (qab qan)) (SM.out _ qan).1 HLn.out (qbb.below HG.out qan) HF.out)).mono ?_); rintro e w9 ⟨rfl, hD, hk⟩; refine ⟨_, rfl, ?_⟩; have HD := ak_ hD; have HKb := ak_ (qcv.trans (qcv.qbS qan g) hk); clear hD hk))
       go_ret
       exact ⟨rfl, HD.out, HKb.out⟩
      ·rw [hkd] at h htl; obtain ⟨x1, rfl⟩ := List.length_eq_one_iff.1 htl; have HX1 := ak_ (show ws[1]? = some x1 from by rw [hw0]; rfl); have HKD := ak_ hkd
       have hln : ws.length = 2 := by rw [hw0]; rfl
       have hlc : ((ws.length : Int) != 2) = false := bne_eq_false_iff_eq.2 (by omega); have hld : ((ws.length : Int) == 2) = true := beq_iff_eq.2 (by omega)
       have hlt1 : (1 : Int) < (ws.length : Int) := by omega
       have HS1 := ak_ (HWM.out x1 (by rw [hw0]; simp)); clear hkd htl hw0 hwl hln
       cases hno : numOf x1 with
       | none =>
         have H : (match numOf x1 with | none => some (rs, mo, (⟨#[119, 104, 97, 116]⟩ : ByteArray)) | some n => qcj.f k rs mo c n) = some (rs', mo', txt) := h; rw [hno] at H; dsimp only at H; obtain ⟨rfl, rfl, rfl⟩ := qfJ H; have HNO := ak_ hno; clear hno h; go_enter Tryz.func45, Tryz.ntmps45
         go_wp2_with (first | (refine gl_ 16 Tryz.func68 #[.string s, .string ⟨#[32]⟩] rfl qbZ ?_; (refine (qdd s ⟨#[32]⟩ _ (by have := HS.out; omega) rfl (qbb.below HG.out qan)).mono ?_); rintro e w1 ⟨vw, rfl, how, hb⟩; refine ⟨_, rfl, ?_⟩; have HW := ak_ (show Kd.R Kd.string 9 _ w.heap.size (fun _ => True) vw ws from qp1); obtain ⟨gw, cw, ew, -⟩ := Kd.qeZ HW.out HWP.out; subst ew; replace HB := ak_ (qaa qan hb); have qg8 : w1.cell? ⟨gw, 0, none⟩ = some (.string x0) := qcP HW.out 0 x0 HX0.out; have qlz : w1.cell? ⟨gw, 1, none⟩ = some (.string x1) := qcP HW.out 1 x1 HX1.out; clear hb; clear how) | (refine gl_ 21 Tryz.func69 #[.string x0] rfl qbZ ?_; (refine ((qbF.calls x0 ⟨#[110]⟩ true _ qrb)).mono ?_); rintro e w2 ⟨rfl, hb⟩; refine ⟨_, rfl, ?_⟩; replace HB := ak_ (qaa qan hb); replace HW := HW.mw hb; have qg9 : w2.cell? ⟨gw, 0, none⟩ = some (.string x0) := qcP HW.out 0 x0 HX0.out; have qlA : w2.cell? ⟨gw, 1, none⟩ = some (.string x1) := qcP HW.out 1 x1 HX1.out; clear hb) | (refine gl_ 67 Tryz.func72 #[.string x1] rfl qbZ ?_; (refine (qh5 x1 _ (by have := HS1.out; omega) (qbb.below HG.out qan)).mono ?_); rintro e w3 ⟨nn, bb, rfl, hcs, hb⟩; refine ⟨_, rfl, ?_⟩; obtain rfl : bb = false := (by rcases hcs with ⟨-, h2_⟩ | ⟨h1_, -⟩; (rw [HNO.out] at h2_; exact absurd h2_ (by simp)); exact h1_); clear hcs; replace HB := ak_ (qaa qan hb); replace HW := HW.mw hb; have qpY : w3.cell? ⟨gw, 0, none⟩ = some (.string x0) := qcP HW.out 0 x0 HX0.out; have qpZ : w3.cell? ⟨gw, 1, none⟩ = some (.string x1) := qcP HW.out 1 x1 HX1.out; clear hb))
         go_ret
         exact ⟨rfl, SM.out _ qan⟩
       | some n =>
         have H : (match numOf x1 with | none => some (rs, mo, (⟨#[119, 104, 97, 116]⟩ : ByteArray)) | some n => qcj.f k rs mo c n) = some (rs', mo', txt) := h; rw [hno] at H; have HF := ak_ (show qcj.f k rs mo c n = some (rs', mo', txt) from H); have HNO := ak_ hno; clear hno h H; go_enter Tryz.func45, Tryz.ntmps45
         go_wp2_with (first | (refine gl_ 16 Tryz.func68 #[.string s, .string ⟨#[32]⟩] rfl qbZ ?_; (refine (qdd s ⟨#[32]⟩ _ (by have := HS.out; omega) rfl (qbb.below HG.out qan)).mono ?_); rintro e w1 ⟨vw, rfl, how, hb⟩; refine ⟨_, rfl, ?_⟩; have HW := ak_ (show Kd.R Kd.string 9 _ w.heap.size (fun _ => True) vw ws from qp1); obtain ⟨gw, cw, ew, -⟩ := Kd.qeZ HW.out HWP.out; subst ew; replace HB := ak_ (qaa qan hb); have qg8 : w1.cell? ⟨gw, 0, none⟩ = some (.string x0) := qcP HW.out 0 x0 HX0.out; have qlz : w1.cell? ⟨gw, 1, none⟩ = some (.string x1) := qcP HW.out 1 x1 HX1.out; clear hb; clear how) | (refine gl_ 21 Tryz.func69 #[.string x0] rfl qbZ ?_; (refine ((qbF.calls x0 ⟨#[110]⟩ true _ qrb)).mono ?_); rintro e w2 ⟨rfl, hb⟩; refine ⟨_, rfl, ?_⟩; replace HB := ak_ (qaa qan hb); replace HW := HW.mw hb; have qg9 : w2.cell? ⟨gw, 0, none⟩ = some (.string x0) := qcP HW.out 0 x0 HX0.out; have qlA : w2.cell? ⟨gw, 1, none⟩ = some (.string x1) := qcP HW.out 1 x1 HX1.out; clear hb) | (refine gl_ 67 Tryz.func72 #[.string x1] rfl qbZ ?_; (refine (qh5 x1 _ (by have := HS1.out; omega) (qbb.below HG.out qan)).mono ?_); rintro e w3 ⟨nn, bb, rfl, hcs, hb⟩; refine ⟨_, rfl, ?_⟩; obtain ⟨rfl, rfl⟩ : n = nn ∧ bb = true := (by rcases hcs with ⟨h1_, h2_⟩ | ⟨-, h2_⟩; (rw [HNO.out] at h2_; exact ⟨Option.some.inj h2_, h1_⟩); (rw [HNO.out] at h2_; exact absurd h2_ (by simp))); clear hcs; replace HB := ak_ (qaa qan hb); replace HW := HW.mw hb; have qpY : w3.cell? ⟨gw, 0, none⟩ = some (.string x0) := qcP HW.out 0 x0 HX0.out; have qpZ : w3.cell? ⟨gw, 1, none⟩ = some (.string x1) := qcP HW.out 1 x1 HX1.out; clear hb) | (refine gl_ 77 Tryz.func73 #[.pointer (some ⟨g, 0, none⟩), .string x0, .int .i64 n] rfl qbZ ?_; (refine ((show Calls _ _ _ _ _ from by rw [HWD.out]; exact qlb k base g rs mo c n rs' mo' txt _ (Nat.le_trans HBS.out (qab qan)) (SM.out _ qan).1 HLn.out (qbb.below HG.out qan) HF.out)).mono ?_); rintro e w9 ⟨rfl, hD, hk⟩; refine ⟨_, rfl, ?_⟩; have HD := ak_ hD; have HKb := ak_ (qcv.trans (qcv.qbS qan g) hk); clear hD hk))
         go_ret
         exact ⟨rfl, HD.out, HKb.out⟩
      ·rw [hkd] at h htl; obtain ⟨x1, rfl⟩ := List.length_eq_one_iff.1 htl; have HX1 := ak_ (show ws[1]? = some x1 from by rw [hw0]; rfl); have HKD := ak_ hkd
       have hln : ws.length = 2 := by rw [hw0]; rfl
       have hlc : ((ws.length : Int) != 2) = false := bne_eq_false_iff_eq.2 (by omega); have hld : ((ws.length : Int) == 2) = true := beq_iff_eq.2 (by omega)
       have hlt1 : (1 : Int) < (ws.length : Int) := by omega
       have HS1 := ak_ (HWM.out x1 (by rw [hw0]; simp)); replace h : ((qaW.f k x1).bind fun q => if q.2 = true then ((if c.bytes = [97, 100, 100] then (if rs.length + q.1.length < 8796093022208 then some (rs ++ q.1) else none) else some q.1).bind fun xs => (qe8 k rs xs true).bind fun p => some (p.1, mo, p.2)) else some (rs, mo, (⟨#[119, 104, 97, 116]⟩ : ByteArray))) = some (rs', mo', txt) := h; obtain ⟨⟨xs, ok⟩, A1, h⟩ := qay h; dsimp only at h
       cases ok with
       | false =>
         rw [if_neg (by decide)] at h; obtain ⟨rfl, rfl, rfl⟩ := qfJ h; clear hkd htl hw0 hwl hln; go_enter Tryz.func45, Tryz.ntmps45
         go_wp2_with (first | (refine gl_ 16 Tryz.func68 #[.string s, .string ⟨#[32]⟩] rfl qbZ ?_; (refine (qdd s ⟨#[32]⟩ _ (by have := HS.out; omega) rfl (qbb.below HG.out qan)).mono ?_); rintro e w1 ⟨vw, rfl, how, hb⟩; refine ⟨_, rfl, ?_⟩; have HW := ak_ (show Kd.R Kd.string 9 _ w.heap.size (fun _ => True) vw ws from qp1); obtain ⟨gw, cw, ew, -⟩ := Kd.qeZ HW.out HWP.out; subst ew; replace HB := ak_ (qaa qan hb); have qg8 : w1.cell? ⟨gw, 0, none⟩ = some (.string x0) := qcP HW.out 0 x0 HX0.out; have qlz : w1.cell? ⟨gw, 1, none⟩ = some (.string x1) := qcP HW.out 1 x1 HX1.out; clear hb; clear how) | (refine gl_ 21 Tryz.func69 #[.string x0] rfl qbZ ?_; (refine ((qbF.calls x0 ⟨#[114]⟩ true _ qrb)).mono ?_); rintro e w2 ⟨rfl, hb⟩; refine ⟨_, rfl, ?_⟩; replace HB := ak_ (qaa qan hb); replace HW := HW.mw hb; have qg9 : w2.cell? ⟨gw, 0, none⟩ = some (.string x0) := qcP HW.out 0 x0 HX0.out; have qlA : w2.cell? ⟨gw, 1, none⟩ = some (.string x1) := qcP HW.out 1 x1 HX1.out; clear hb) | (refine gl_ 41 Tryz.func70 #[.string x1] rfl qbZ ?_; (refine (qaW.calls k x1 xs false _ A1.out (qbb.below HG.out qan)).mono ?_); rintro e w3 ⟨vx, rfl, hox, hb⟩; refine ⟨_, rfl, ?_⟩; have HX := ak_ (Kd.qax hox (Nat.le_trans HBS.out (qab qan))); clear hox; obtain ⟨Ax, cx, ex⟩ := Kd.qaI HX.out; subst ex; replace HB := ak_ (qaa qan hb); replace HW := HW.mw hb; have qpY : w3.cell? ⟨gw, 0, none⟩ = some (.string x0) := qcP HW.out 0 x0 HX0.out; have qpZ : w3.cell? ⟨gw, 1, none⟩ = some (.string x1) := qcP HW.out 1 x1 HX1.out; clear hb))
         go_ret
         exact ⟨rfl, SM.out _ qan⟩
       | true =>
         rw [if_pos rfl] at h
         rcases Cmd.rule hkd with rfl | rfl
         ·rw [if_neg (by decide), Option.bind_some] at h; obtain ⟨⟨rs1, qje⟩, A2, h⟩ := qay h; dsimp only at h; obtain ⟨rfl, rfl, rfl⟩ := qfJ h
          have hwx : x0.toList = [114, 117, 108, 101, 115] := by rw [HWD.out, toList_data]; rfl
          have hwy : (x0.toList == [97, 100, 100]) = false := by rw [hwx]; rfl
          clear hkd htl hw0 hwl hln hwx; go_enter Tryz.func45, Tryz.ntmps45
          go_wp2_with (first | (refine gl_ 16 Tryz.func68 #[.string s, .string ⟨#[32]⟩] rfl qbZ ?_; (refine (qdd s ⟨#[32]⟩ _ (by have := HS.out; omega) rfl (qbb.below HG.out qan)).mono ?_); rintro e w1 ⟨vw, rfl, how, hb⟩; refine ⟨_, rfl, ?_⟩; have HW := ak_ (show Kd.R Kd.string 9 _ w.heap.size (fun _ => True) vw ws from qp1); obtain ⟨gw, cw, ew, -⟩ := Kd.qeZ HW.out HWP.out; subst ew; replace HB := ak_ (qaa qan hb); have qg8 : w1.cell? ⟨gw, 0, none⟩ = some (.string x0) := qcP HW.out 0 x0 HX0.out; have qlz : w1.cell? ⟨gw, 1, none⟩ = some (.string x1) := qcP HW.out 1 x1 HX1.out; clear hb; clear how) | (refine gl_ 21 Tryz.func69 #[.string x0] rfl qbZ ?_; (refine ((qbF.calls x0 ⟨#[114]⟩ true _ qrb)).mono ?_); rintro e w2 ⟨rfl, hb⟩; refine ⟨_, rfl, ?_⟩; replace HB := ak_ (qaa qan hb); replace HW := HW.mw hb; have qg9 : w2.cell? ⟨gw, 0, none⟩ = some (.string x0) := qcP HW.out 0 x0 HX0.out; have qlA : w2.cell? ⟨gw, 1, none⟩ = some (.string x1) := qcP HW.out 1 x1 HX1.out; clear hb) | (refine gl_ 41 Tryz.func70 #[.string x1] rfl qbZ ?_; (refine (qaW.calls k x1 xs true _ A1.out (qbb.below HG.out qan)).mono ?_); rintro e w3 ⟨vx, rfl, hox, hb⟩; refine ⟨_, rfl, ?_⟩; have HX := ak_ (Kd.qax hox (Nat.le_trans HBS.out (qab qan))); clear hox; obtain ⟨Ax, cx, ex⟩ := Kd.qaI HX.out; subst ex; replace HB := ak_ (qaa qan hb); replace HW := HW.mw hb; have qpY : w3.cell? ⟨gw, 0, none⟩ = some (.string x0) := qcP HW.out 0 x0 HX0.out; have qpZ : w3.cell? ⟨gw, 1, none⟩ = some (.string x1) := qcP HW.out 1 x1 HX1.out; clear hb) | (refine gl_ 60 Tryz.func71 #[.pointer (some ⟨g, 0, none⟩), .slice Ax xs.length cx, .bool true] rfl qbZ ?_; (refine (qeQ k base g Ax cx xs true rs mo rs1 qje _ (SM.out _ qan).1 qmP A2.out).mono ?_); rintro e w9 ⟨rfl, hD, hk⟩; refine ⟨_, rfl, ?_⟩; have HD := ak_ hD; have HKb := ak_ (qcv.trans (qcv.qbS qan g) hk); clear hD hk))
          go_ret
          exact ⟨rfl, HD.out, HKb.out⟩
         rw [if_pos (show Cmd.cAdd.bytes = [97, 100, 100] from rfl)] at h; obtain ⟨ys, A0_, h⟩ := qay h; obtain ⟨⟨rs1, qje⟩, A2, h⟩ := qay h; dsimp only at h; obtain ⟨rfl, rfl, rfl⟩ := qfJ h
         have hwx : x0.toList = [97, 100, 100] := by rw [HWD.out, toList_data]; rfl
         have hwy : (x0.toList == [97, 100, 100]) = true := by rw [hwx]; rfl
         have hle := A0_.out; clear A0_; by_cases hlq : rs.length + xs.length < 8796093022208; rotate_left
         ·rw [if_neg hlq] at hle; exact absurd hle (by simp)
         rw [if_pos hlq] at hle; have HLq := ak_ hlq; have HYE := ak_ (Option.some.inj hle); clear hkd htl hw0 hwl hln hwx hle hlq; go_enter Tryz.func45, Tryz.ntmps45
         go_wp2_with (first | (refine gl_ 16 Tryz.func68 #[.string s, .string ⟨#[32]⟩] rfl qbZ ?_; (refine (qdd s ⟨#[32]⟩ _ (by have := HS.out; omega) rfl (qbb.below HG.out qan)).mono ?_); rintro e w1 ⟨vw, rfl, how, hb⟩; refine ⟨_, rfl, ?_⟩; have HW := ak_ (show Kd.R Kd.string 9 _ w.heap.size (fun _ => True) vw ws from qp1); obtain ⟨gw, cw, ew, -⟩ := Kd.qeZ HW.out HWP.out; subst ew; replace HB := ak_ (qaa qan hb); have qg8 : w1.cell? ⟨gw, 0, none⟩ = some (.string x0) := qcP HW.out 0 x0 HX0.out; have qlz : w1.cell? ⟨gw, 1, none⟩ = some (.string x1) := qcP HW.out 1 x1 HX1.out; clear hb; clear how) | (refine gl_ 21 Tryz.func69 #[.string x0] rfl qbZ ?_; (refine ((qbF.calls x0 ⟨#[114]⟩ true _ qrb)).mono ?_); rintro e w2 ⟨rfl, hb⟩; refine ⟨_, rfl, ?_⟩; replace HB := ak_ (qaa qan hb); replace HW := HW.mw hb; have qg9 : w2.cell? ⟨gw, 0, none⟩ = some (.string x0) := qcP HW.out 0 x0 HX0.out; have qlA : w2.cell? ⟨gw, 1, none⟩ = some (.string x1) := qcP HW.out 1 x1 HX1.out; clear hb) | (refine gl_ 41 Tryz.func70 #[.string x1] rfl qbZ ?_; (refine (qaW.calls k x1 xs true _ A1.out (qbb.below HG.out qan)).mono ?_); rintro e w3 ⟨vx, rfl, hox, hb⟩; refine ⟨_, rfl, ?_⟩; have HX := ak_ (Kd.qax hox (Nat.le_trans HBS.out (qab qan))); clear hox; obtain ⟨Ax, cx, ex⟩ := Kd.qaI HX.out; subst ex; replace HB := ak_ (qaa qan hb); replace HW := HW.mw hb; have qpY : w3.cell? ⟨gw, 0, none⟩ = some (.string x0) := qcP HW.out 0 x0 HX0.out; have qpZ : w3.cell? ⟨gw, 1, none⟩ = some (.string x1) := qcP HW.out 1 x1 HX1.out; clear hb; have HBA := HB; have HB3 := br_ w3; have HXw := HX; clear HX) | ((with_reducible refine qal (N := 50) rfl ?_); refine li_ qaL 85 50 rfl (xs := ([] : List qac)) qbe ?_; intro vl50 w50 ho hb; have HV := ak_ (Kd.qax ho (qab k79_)); replace HB3 := ak_ (qaa k79_ hb); clear hb ho; clear HB HC HO; have HB := ak_ (qaa HBA.out HB3.out); have HC := ak_ (qar HCw.out HB.out); have HO := ak_ (Kd.qbv HOw.out HB.out); obtain ⟨hzw50_0, hzw50_1, hfw50_0, hfw50_1⟩ := qbG HC.out) | ((with_reducible refine qa2 (b := .append) (xs := #[.tmp 50, .tmp 54]) rfl ?_); at_builtin; refine Kd.qdK qaL (w0 := w3) w3.heap.size rfl (.tmp 50) (.tmp 54) 26 85 (.agg #[(.int .i64 0), (.int .i64 0)]) 16 rfl Tryz.underlying26 qcY rfl (by decide) (by omega) (vl50) [] rs _ _ _ (fun _ => True) (fun _ => False) rfl rfl ?aO ?aR (fun _ _ h => h) (fun _ h => h.elim) ?aF ?aB ?aS ?aL ?_; (case aR => exact qjp); (case aB => exact k79_); (case aF => exact (fun _ _ => trivial)); (case aO => exact (by apply_rules only [HV.out, Kd.qap, Kd.qaq, Kd.qaw])); (case aS => exact (qab k79_)); (case aL => have := HLn.out; have := HLq.out; (try simp only [List.length_nil]); omega); intro v55 w55 ho hb hg hat; rw [List.nil_append] at ho; have HV2 := ak_ ho; replace HB3 := ak_ hb; clear HV; clear ho hb hg hat; clear HB; have HB := ak_ (qaa HBA.out HB3.out); obtain ⟨Ay, cy, ey⟩ := Kd.qaI HV2.out; subst ey) | ((with_reducible refine qa2 (b := .append) (xs := #[.tmp 55, .tmp 56]) rfl ?_); at_builtin; refine Kd.qdK qaL (w0 := w3) w3.heap.size rfl (.tmp 55) (.tmp 56) 26 85 (.agg #[(.int .i64 0), (.int .i64 0)]) 16 rfl Tryz.underlying26 qcY rfl (by decide) (by omega) (.slice Ay rs.length cy) rs xs _ _ _ (fun _ => True) (fun _ => False) rfl rfl ?aO ?aR (fun _ _ h => h) (fun _ h => h.elim) ?aF ?aB ?aS ?aL ?_; (case aR => exact (Kd.qeg (Kd.qao HXw.out).2.2 k79_)); (case aB => exact k79_); (case aF => exact (fun _ _ => trivial)); (case aO => exact (by apply_rules only [HV2.out, Kd.qap, Kd.qaq, Kd.qaw])); (case aS => exact (qab k79_)); (case aL => have := HLn.out; have := HLq.out; (try simp only [List.length_nil]); omega); intro v57 w57 ho hb hg hat; rw [HYE.out] at ho; have HXx := ak_ ho; replace HB3 := ak_ hb; clear HV2; clear ho hb hg hat; clear HB; have HB := ak_ (qaa HBA.out HB3.out); have HX := ak_ (Kd.qax HXx.out (Nat.le_trans HBS.out (qab HBA.out))); clear HXx; obtain ⟨Az, cz, ez⟩ := Kd.qaI HX.out; subst ez) | (refine gl_ 60 Tryz.func71 #[.pointer (some ⟨g, 0, none⟩), .slice Az ys.length cz, .bool true] rfl qbZ ?_; (refine (qeQ k base g Az cz ys true rs mo rs1 qje _ (SM.out _ qan).1 qmP A2.out).mono ?_); rintro e w9 ⟨rfl, hD, hk⟩; refine ⟨_, rfl, ?_⟩; have HD := ak_ hD; have HKb := ak_ (qcv.trans (qcv.qbS qan g) hk); clear hD hk))
         go_ret
         exact ⟨rfl, HD.out, HKb.out⟩
      rw [hkd] at h htl; obtain ⟨x1, rfl⟩ := List.length_eq_one_iff.1 htl; have HX1 := ak_ (show ws[1]? = some x1 from by rw [hw0]; rfl); have HKD := ak_ hkd
      have hln : ws.length = 2 := by rw [hw0]; rfl
      have hlc : ((ws.length : Int) != 2) = false := bne_eq_false_iff_eq.2 (by omega); have hld : ((ws.length : Int) == 2) = true := beq_iff_eq.2 (by omega)
      have hlt1 : (1 : Int) < (ws.length : Int) := by omega
      have HS1 := ak_ (HWM.out x1 (by rw [hw0]; simp)); clear hkd htl hw0 hwl hln; replace h : ((qb7.f x1).bind fun q => if q.2.2 = true then ((qc1.f k q.1 q.2.1).bind fun u => (qaF.f k u.1).bind fun z => (qbV.f z u.2).bind fun z => some (rs, mo, z)) else some (rs, mo, (⟨#[110, 111]⟩ : ByteArray))) = some (rs', mo', txt) := h; obtain ⟨⟨pa, pb, pok⟩, A1, h⟩ := qay h; dsimp only at h
      cases pok with
      | false =>
        rw [if_neg (by decide)] at h; obtain ⟨rfl, rfl, rfl⟩ := qfJ h; go_enter Tryz.func45, Tryz.ntmps45
        go_wp2_with (first | (refine gl_ 16 Tryz.func68 #[.string s, .string ⟨#[32]⟩] rfl qbZ ?_; (refine (qdd s ⟨#[32]⟩ _ (by have := HS.out; omega) rfl (qbb.below HG.out qan)).mono ?_); rintro e w1 ⟨vw, rfl, how, hb⟩; refine ⟨_, rfl, ?_⟩; have HW := ak_ (show Kd.R Kd.string 9 _ w.heap.size (fun _ => True) vw ws from qp1); obtain ⟨gw, cw, ew, -⟩ := Kd.qeZ HW.out HWP.out; subst ew; replace HB := ak_ (qaa qan hb); have qg8 : w1.cell? ⟨gw, 0, none⟩ = some (.string x0) := qcP HW.out 0 x0 HX0.out; have qlz : w1.cell? ⟨gw, 1, none⟩ = some (.string x1) := qcP HW.out 1 x1 HX1.out; clear hb; clear how) | (refine gl_ 21 Tryz.func69 #[.string x0] rfl qbZ ?_; (refine ((qbF.calls x0 ⟨#[115]⟩ true _ qrb)).mono ?_); rintro e w2 ⟨rfl, hb⟩; refine ⟨_, rfl, ?_⟩; replace HB := ak_ (qaa qan hb); replace HW := HW.mw hb; have qg9 : w2.cell? ⟨gw, 0, none⟩ = some (.string x0) := qcP HW.out 0 x0 HX0.out; have qlA : w2.cell? ⟨gw, 1, none⟩ = some (.string x1) := qcP HW.out 1 x1 HX1.out; clear hb) | (refine gl_ 84 Tryz.func74 #[.string x1] rfl qbZ ?_; (refine (qb7.calls x1 pa pb false _ A1.out (qbb.below HG.out qan).1).mono ?_); rintro e w4 ⟨rfl, hb⟩; refine ⟨_, rfl, ?_⟩; replace HB := ak_ (qaa qan hb); clear hb) | ((with_reducible refine qal (N := 12) rfl ?_); refine bx_ 12 rfl (cs := #[.string (⟨#[]⟩ : ByteArray), .int .i64 0]) (t := 99) qbe ?_; intro gQ hg w5 hbox hb; have HGQ := ak_ (show w.heap.size ≤ gQ from qsK); have hz0 : w5.cell? ⟨gQ, 0, none⟩ = some (.string (⟨#[]⟩ : ByteArray)) := (qba hbox 0).trans rfl; have hz1 : w5.cell? ⟨gQ, 1, none⟩ = some (.int .i64 0) := (qba hbox 1).trans rfl; have hf0 := qad hbox 0; have hf1 := qad hbox 1; replace HB := ak_ (qaa qan hb); clear hb hbox hg))
        go_ret
        exact ⟨rfl, SM.out _ (qas (qas HB.out HGQ.out) HGQ.out)⟩
      | true =>
        rw [if_pos rfl] at h; obtain ⟨⟨xs, ok⟩, A2, h⟩ := qay h; dsimp only at h; obtain ⟨z1, A3, h⟩ := qay h; obtain ⟨z, A4, h⟩ := qay h; obtain ⟨rfl, rfl, rfl⟩ := qfJ h; go_enter Tryz.func45, Tryz.ntmps45
        go_wp2_with (first | (refine gl_ 16 Tryz.func68 #[.string s, .string ⟨#[32]⟩] rfl qbZ ?_; (refine (qdd s ⟨#[32]⟩ _ (by have := HS.out; omega) rfl (qbb.below HG.out qan)).mono ?_); rintro e w1 ⟨vw, rfl, how, hb⟩; refine ⟨_, rfl, ?_⟩; have HW := ak_ (show Kd.R Kd.string 9 _ w.heap.size (fun _ => True) vw ws from qp1); obtain ⟨gw, cw, ew, -⟩ := Kd.qeZ HW.out HWP.out; subst ew; replace HB := ak_ (qaa qan hb); have qg8 : w1.cell? ⟨gw, 0, none⟩ = some (.string x0) := qcP HW.out 0 x0 HX0.out; have qlz : w1.cell? ⟨gw, 1, none⟩ = some (.string x1) := qcP HW.out 1 x1 HX1.out; clear hb; clear how) | (refine gl_ 21 Tryz.func69 #[.string x0] rfl qbZ ?_; (refine ((qbF.calls x0 ⟨#[115]⟩ true _ qrb)).mono ?_); rintro e w2 ⟨rfl, hb⟩; refine ⟨_, rfl, ?_⟩; replace HB := ak_ (qaa qan hb); replace HW := HW.mw hb; have qg9 : w2.cell? ⟨gw, 0, none⟩ = some (.string x0) := qcP HW.out 0 x0 HX0.out; have qlA : w2.cell? ⟨gw, 1, none⟩ = some (.string x1) := qcP HW.out 1 x1 HX1.out; clear hb) | (refine gl_ 84 Tryz.func74 #[.string x1] rfl qbZ ?_; (refine (qb7.calls x1 pa pb true _ A1.out (qbb.below HG.out qan).1).mono ?_); rintro e w4 ⟨rfl, hb⟩; refine ⟨_, rfl, ?_⟩; replace HB := ak_ (qaa qan hb); clear hb) | ((with_reducible refine qal (N := 12) rfl ?_); refine bx_ 12 rfl (cs := #[.string (⟨#[]⟩ : ByteArray), .int .i64 0]) (t := 99) qbe ?_; intro gQ hg w5 hbox hb; have HGQ := ak_ (show w.heap.size ≤ gQ from qsK); have hz0 : w5.cell? ⟨gQ, 0, none⟩ = some (.string (⟨#[]⟩ : ByteArray)) := (qba hbox 0).trans rfl; have hz1 : w5.cell? ⟨gQ, 1, none⟩ = some (.int .i64 0) := (qba hbox 1).trans rfl; have hf0 := qad hbox 0; have hf1 := qad hbox 1; replace HB := ak_ (qaa qan hb); clear hb hbox hg) | (refine gl_ 91 Tryz.func75 #[.agg #[.string pa, .int .i64 pb]] rfl qbZ ?_; (refine (qc1.calls k pa pb xs ok _ A2.out).mono ?_); rintro e w6 ⟨vx, rfl, hox, hb⟩; refine ⟨_, rfl, ?_⟩; have hB2 := qaa (w := w) (by first | exact (qas (qas HB.out HGQ.out) HGQ.out) | apply_rules only [qai, qaf, qah, (qas (qas HB.out HGQ.out) HGQ.out)]) hb; have HX := ak_ (Kd.qax hox (Nat.le_trans HBS.out (by first | exact qab (qas (qas HB.out HGQ.out) HGQ.out) | exact qab (by apply_rules only [qai, qaf, qah, (qas (qas HB.out HGQ.out) HGQ.out)])))); clear HB hox hb; have HB := ak_ hB2; clear hB2; obtain ⟨Ax, cx, ex⟩ := Kd.qaI HX.out; subst ex) | (refine gl_ 95 Tryz.func54 #[.slice Ax xs.length cx] rfl qbZ ?_; (refine (qaF.calls k _ _ xs z1 _ qqM (Kd.qao HX.out).2.1 A3.out).mono ?_); rintro e w7 ⟨rfl, hb⟩; refine ⟨_, rfl, ?_⟩; replace HB := ak_ (qaa qan hb); clear hb) | (refine gl_ 97 Tryz.func76 #[.string z1, .bool ok] rfl qbZ ?_; (refine ((qbV.calls z1 ok z _ A4.out)).mono ?_); rintro e w8 ⟨rfl, hd_⟩; refine ⟨_, rfl, ?_⟩; have hb := hd_.below; clear hd_; replace HB := ak_ (qaa qan hb); clear hb))
        go_ret
        exact ⟨rfl, SM.out _ qan⟩
def qgv.f  : Option ((List (qac)) × Int) := some ((([(⟨2, 0⟩ : qac), (⟨3, 0⟩ : qac)] : List (qac))), 30)
theorem qgv.calls  (r1 : List (qac)) (r2 : Int) (w : World) (h : qgv.f  = some (r1, r2)) :
  Calls Tryz.prog 58 #[] w fun e w' => ∃ v0_ : Value, e = .returned (.agg #[v0_, .int .i64 r2]) ∧ Kd.R qaL 85 w' w.heap.size (fun _ => True) v0_ r1 ∧ Below w.heap.size w w' := by
 have hu28 := Tryz.underlying28; have qmM := Tryz.underlying85; have HB := br_ w; have H : (some ((([(⟨2, 0⟩ : qac), (⟨3, 0⟩ : qac)] : List (qac))), 30)) = some (r1, r2) := h; clear h
 obtain ⟨qiR, hy_⟩ : ∃ y_ : List (qac), y_ = (([(⟨2, 0⟩ : qac), (⟨3, 0⟩ : qac)] : List (qac))) := ⟨_, rfl⟩
 replace H : (some (qiR, 30)) = some (r1, r2) := qe1; have qgP := ak_ hy_; clear hy_; obtain ⟨rfl, rfl⟩ := qdF H; go_enter Tryz.func58, Tryz.ntmps58
 go_wp2_with (first | ((with_reducible refine qal (N := 0) rfl ?_); refine bx_ 0 rfl (cs := #[.slice none 0 0, .int .i64 0]) (t := 28) qbe ?_; intro qb6 hg w1 hbox hb; have qaG := ak_ (hbox); have qeO := ak_ (HB.ge hg); have qem := ak_ (HB.ge hg); replace HB := HB.mw hb; clear hb hbox hg) | ((with_reducible refine qal (N := 3) rfl ?_); refine Kd.qhq qaL _ 85 ?hg (N := 3) ?hd (xs := ([(⟨2, 0⟩ : qac), (⟨3, 0⟩ : qac)] : List (qac))) (inner := [.int .i64 2, .int .i64 0, .int .i64 3, .int .i64 0]) (ok := fun _ => True) (okp := fun _ => True) ?hr ?hp (fun _ hk => hk) trivial (Below.refl _ _) (Nat.le_refl _) (by simp) ?_; (case hd => rfl); (case hg => rfl); (case hr => exact qbe); (case hp => exact (qef.c2 (show Kd.M qaL _ _ _ (⟨2, 0⟩ : qac) [.int .i64 2, .int .i64 0] from (qdm _ _ _ (⟨2, 0⟩ : qac) )) (qef.c2 (show Kd.M qaL _ _ _ (⟨3, 0⟩ : qac) [.int .i64 3, .int .i64 0] from (qdm _ _ _ (⟨3, 0⟩ : qac) )) (qef.none _ _)))); intro qhm w2 ho3 hb hg_ hnew_; clear hg_ hnew_; (first | rw [← qgP.out] at ho3 | (simp only [Int.reduceToNat] at ho3; rw [← qgP.out] at ho3)); have qb1 := ak_ (Kd.qax ho3 (qab qds)); replace qaG := qaG.mw hb; replace HB := ak_ (qaa qds hb); clear hb ho3; obtain ⟨Ao4, co4, eo4⟩ := Kd.qaI qb1.out; subst eo4; obtain ⟨qsb, qsc, qsj, qsk⟩ := qbG qaG.out))
 refine bodyPost_ret (results_cell_row rfl _ _ qb6 28 #[.slice Ao4 qiR.length co4, .int .i64 30] (0, 0) _ rfl (by (with_reducible repeat (first | refine qak ?_ _ | refine qam ?_ | refine qaj ?_ _)); refine qbl (cs := #[.slice Ao4 qiR.length co4, .int .i64 0]) ?_ 1 _ rfl; (with_reducible repeat (first | refine qak ?_ _ | refine qam ?_ | refine qaj ?_ _)); refine qbl (cs := #[.slice none 0 0, .int .i64 0]) ?_ 0 _ rfl; apply_rules only [qaG.out, qak, qam, qaj]) Tryz.underlying28 rfl (by kernel_rfl)) rfl ?_; exact ⟨_, qcf, by (with_reducible repeat (first | apply Kd.qap | apply Kd.qaq | apply Kd.qaw)); exact Kd.qa9 (Kd.qcV (p := ⟨qb6, 1, none⟩) (Kd.qcV (p := ⟨qb6, 0, none⟩) (Kd.qcw qb1.out qaG.out (by decide)) (fun _ hk => hk.2) (.slice Ao4 qiR.length co4)) (fun _ hk => hk.2) (.int .i64 30)) (fun _ hk => trivial), qds⟩
def qbd.l0 (k : Nat) : Nat → List qac → Int → ByteArray → List ByteArray → Option (List ByteArray × List qac × Int × Bool)
  | 0, _, _, _, _ => none
  | n + 1, rs, mo, s, out => if s.toList = [] then some (out, rs, mo, true) else (if (Lib.cut s.data.toList [10]).2.2 = true then (if out.length = 50 then some ([], [], 0, false) else ((qfo.f k rs mo ⟨(Lib.cut s.data.toList [10]).1.toArray⟩).bind fun p => qbd.l0 k n p.1 p.2.1 ⟨(Lib.cut s.data.toList [10]).2.1.toArray⟩ (out ++ [p.2.2]))) else some ([], [], 0, false))
def qbd.f (k : Nat) (s : ByteArray) : Option (List ByteArray × List qac × Int × Bool) := if s.size ≤ 3000 then qbd.l0 k k ([⟨2, 0⟩, ⟨3, 0⟩] : List qac) 30 s [] else some ([], [], 0, false)
theorem qbd.calls (k : Nat) (s : ByteArray) (r1 : List ByteArray) (r2 : List qac) (r3 : Int) (r4 : Bool) (w : World) (h : qbd.f k s = some (r1, r2, r3, r4)) (hG : qbb w) :
    Calls Tryz.prog 56 #[.string s] w fun e w' => ∃ v0_ v1_ : Value, e = .returned (.tuple #[v0_, .agg #[v1_, .int .i64 r3], .bool r4]) ∧ Kd.R Kd.string 9 w' w.heap.size (fun _ => True) v0_ r1 ∧ Kd.R qaL 85 w' w.heap.size (fun _ => True) v1_ r2 ∧ Below w.heap.size w w' := by
  have hu := Tryz.underlying28; have HG := ak_ hG; have HB := br_ w; clear hG; unfold qbd.f at h; by_cases hs : s.size ≤ 3000; rotate_left
  ·rw [if_neg hs] at h; have hsb : decide (3000 < (s.size : Int)) = true := decide_eq_true (by omega); have hsc : decide (3000 < s.size) = true := decide_eq_true (by omega); have H := h; clear h hs; obtain ⟨rfl, rfl, rfl, rfl⟩ := pj4_ H; go_enter Tryz.func56, Tryz.ntmps56
   go_wp2_with (first | ((with_reducible refine qal (N := 3) rfl ?_); refine bx_ 3 rfl (cs := #[.slice none 0 0, .int .i64 0]) (t := 28) qbe ?_; intro g3 hg w3 hbox hb; have B3 := ak_ hbox; have G3 := ak_ (show w.heap.size ≤ g3 from qsK); replace HB := ak_ (qaa qan hb); obtain ⟨hqw3_0, fqw3_0⟩ := qcx B3.out; have hqw3_1 := qbC B3.out; have fqw3_1 := qad B3.out 1; clear hb hbox hg))
   refine bodyPost_ret (qb4 (rs := [.tmp 2, .cell 3 28, .tmp 4]) rfl (by simp) (.tmp (.cell g3 28 #[.slice none 0 0, .int .i64 0] (0, 0) _ rfl k52_ Tryz.underlying28 rfl (by kernel_rfl) (.tmp .nil)))) rfl ?_; exact ⟨_, _, rfl, Kd.qfP _ _ _ _ _, Kd.qfP _ _ _ _ _, (by apply_rules only [HB.out, qai, qaf, qah, qas, G3.out])⟩
  rw [if_pos hs] at h; have hsb : decide (3000 < (s.size : Int)) = false := decide_eq_false (by omega); have hsc : decide (3000 < s.size) = false := decide_eq_false (by omega); have HS0 := ak_ hs; have H' := ak_ h; clear h hs; go_enter Tryz.func56, Tryz.ntmps56
  go_wp2_with (first | ((with_reducible refine qal (N := 3) rfl ?_); refine bx_ 3 rfl (cs := #[.slice none 0 0, .int .i64 0]) (t := 28) qbe ?_; intro g3 hg w3 hbox hb; have B3 := ak_ hbox; have G3 := ak_ (show w.heap.size ≤ g3 from qsK); replace HB := ak_ (qaa qan hb); obtain ⟨hqw3_0, fqw3_0⟩ := qcx B3.out; have hqw3_1 := qbC B3.out; have fqw3_1 := qad B3.out 1; clear hb hbox hg) | (refine gl_ 14 Tryz.func58 #[] rfl qbZ ?_; (refine ((qgv.calls _ _ _ rfl)).mono ?_); rintro e w4 ⟨v0, rfl, ho, hb⟩; refine ⟨_, rfl, ?_⟩; have HO := ak_ (Kd.qax ho (qab qan)); replace B3 := B3.mw hb; replace HB := ak_ (qaa qan hb); obtain ⟨A0, c0, eo⟩ := Kd.qaI HO.out; subst eo; clear ho hb) | ((with_reducible refine qal (N := 5) rfl ?_); refine bx_ 5 rfl (cs := #[.slice none 0 0, .int .i64 0]) (t := 28) qbe ?_; intro g5 hg w5 hbox hb; have B5 := ak_ hbox; have G5 := ak_ (show w.heap.size ≤ g5 from qsK); have NE := ak_ (show g3 ≠ g5 from by rw [hg]; exact Nat.ne_of_lt (qdU k97_)); replace B3 := B3.mw hb; replace HO := HO.mw hb; replace HB := ak_ (qaa qan hb); obtain ⟨hdw5_0, fdw5_0⟩ := qcx B5.out; have hdw5_1 := qbC B5.out; have fdw5_1 := qad B5.out 1; clear hb hbox hg) | ((with_reducible refine qal (N := 15) rfl ?_); refine li_ Kd.string 9 15 rfl (xs := ([] : List ByteArray)) qbe ?_; intro vl15 w15 ho hb; have hW : Below w.heap.size w ((w5.setCell ⟨g5, 0, none⟩ (.slice A0 2 c0)).setCell ⟨g5, 1, none⟩ (.int .i64 30)) := qas (qas qan G5.out) G5.out; have HV := ak_ (Kd.qax ho (qab hW)); have HD := ak_ (show qfD w15 w.heap.size g5 ([⟨2, 0⟩, ⟨3, 0⟩] : List qac) 30 from ⟨A0, c0, qar (qbl (qbl (by apply_rules only [B5.out, qak, qam, qaj]) 0 _ rfl) 1 _ rfl) hb, Kd.qbv (Kd.qgQ (Kd.qgQ k94_ (by apply_rules only [B5.out, qak, qam, qaj]) (by decide) 0 _) (qbl (by apply_rules only [B5.out, qak, qam, qaj]) 0 _ rfl) (by decide) 1 _) hb⟩); have B3_ := ak_ (qar (qcZ (qcZ k97_ (by exact NE.out) _) (by exact NE.out) _) hb); clear B3; have B3 := B3_; clear B3_; replace HB := ak_ (qaa hW hb); clear hb ho hW))
  go_loopg [0, 6] k (fun kq v0 v6 w' => ∃ (s_1 : ByteArray) (qfV : List ByteArray) (rs : List qac) (mo : Int), v0 = .string s_1 ∧ qag (qbd.l0 k kq rs mo s_1 qfV = some (r1, r2, r3, r4)) ∧ qag (kq ≤ k) ∧ qag (s_1.size ≤ 3000) ∧ qag (qfV.length ≤ 50) ∧ qag (qfD w' w.heap.size g5 rs mo) ∧ qag (w'.heap[g3]? = some (.cells #[.slice none 0 0, .int .i64 0] 28 (0, 0))) ∧ qag (Kd.R Kd.string 9 w' w.heap.size (fun _ => True) v6 qfV) ∧ qag (Below w.heap.size w w'))
  case atStart => exact ⟨s, [], ([⟨2, 0⟩, ⟨3, 0⟩] : List qac), 30, rfl, H', ⟨Nat.le_refl _⟩, HS0, ⟨by simp⟩, HD, B3, HV, HB⟩
  case round =>
    clear H' HD B3 HV HB HO; (try clear B5); obtain ⟨s_1, qfV, rs, mo, rfl, HA, HK1, HSZ, HLO, HD, B3, qfv, HB⟩ := hrel; obtain ⟨A0, c0, hC5, hO5⟩ := HD.out; have B5 := ak_ hC5; have HO := ak_ hO5; clear hC5 hO5 HD; obtain ⟨hqwr_0, fqwr_0⟩ := qcx B3.out; have hqwr_1 := qbC B3.out; have fqwr_1 := qad B3.out 1; obtain ⟨hdwr_0, fdwr_0⟩ := qcx B5.out; have hdwr_1 := qbC B5.out; have fdwr_1 := qad B5.out 1
    cases gk with
    | zero => exact absurd HA.out (by simp [qbd.l0])
    | succ k1 =>
      have H := HA.out; clear HA; unfold qbd.l0 at H; by_cases hd : s_1.toList = []
      ·rw [if_pos hd] at H; have hdb : (s_1.toList != []) = false := bne_eq_false_iff_eq.2 hd; have hdc : (s_1.toList == []) = true := beq_iff_eq.2 hd; clear hd; obtain ⟨rfl, rfl, rfl, rfl⟩ := pj4_ H; obtain ⟨A6, c6, e6⟩ := Kd.qaI qfv.out; subst e6; go_wp2
       go_region
       all_goals (go_wp2; refine bodyPost_ret (qb4 (rs := [.tmp 2, .cell 3 28, .tmp 4]) rfl (by simp) (.tmp (.cell g3 28 #[.slice A0 rs.length c0, .int .i64 mo] (0, 0) _ rfl k52_ Tryz.underlying28 rfl (by kernel_rfl) (.tmp .nil)))) rfl ?_; exact ⟨_, _, rfl, (by (with_reducible repeat (first | apply Kd.qap | apply Kd.qaq | apply Kd.qaw)); exact (Kd.qa9 (Kd.qcV (p := ⟨g3, 1, none⟩) (Kd.qcV (p := ⟨g3, 0, none⟩) (Kd.qcw qo1 k97_ (by decide)) (fun _ hk => hk.2) _) (fun _ hk => hk.2) _) (fun _ _ => trivial))), (by (with_reducible repeat (first | apply Kd.qap | apply Kd.qaq | apply Kd.qaw)); exact (Kd.qa9 (Kd.qcV (p := ⟨g3, 1, none⟩) (Kd.qcV (p := ⟨g3, 0, none⟩) (Kd.qcw k94_ k97_ (by decide)) (fun _ hk => hk.2) _) (fun _ hk => hk.2) _) (fun _ _ => trivial))), (by apply_rules only [HB.out, qai, qaf, qah, qas, G3.out])⟩)
      rw [if_neg hd] at H; have hdb : (s_1.toList != []) = true := bne_iff_ne.2 hd; have hdc : (s_1.toList == []) = false := beq_eq_false_iff_ne.2 hd; have hl2 := qot s_1.data.toList [10]
      obtain ⟨bf, hbf⟩ : ∃ x_ : ByteArray, x_ = ⟨(Lib.cut s_1.data.toList [10]).1.toArray⟩ := ⟨_, rfl⟩
      obtain ⟨nb, hnb⟩ : ∃ x_ : ByteArray, x_ = ⟨(Lib.cut s_1.data.toList [10]).2.1.toArray⟩ := ⟨_, rfl⟩
      obtain ⟨okc, hok⟩ : ∃ x_ : Bool, (Lib.cut s_1.data.toList [10]).2.2 = x_ := ⟨_, rfl⟩
      have hnd : nb.data.toList = (Lib.cut s_1.data.toList [10]).2.1 := by rw [hnb]
      have HNS := ak_ (show nb.size ≤ 3000 from by have h_ := HSZ.out; rw [qmy] at h_ ⊢; rw [hnd]; omega); rw [← hbf, ← hnb, hok] at H; have HBF := ak_ hbf; have HNB := ak_ hnb; have HOK := ak_ hok; clear hbf hnb hok hnd hl2 hd; obtain ⟨A6, c6, e6⟩ := Kd.qaI qfv.out; subst e6
      cases okc with
      | false =>
        rw [if_neg (by decide)] at H; obtain ⟨rfl, rfl, rfl, rfl⟩ := pj4_ H
        go_wp2_with (first | (refine gl_ 20 Tryz.func90 #[.string s_1, .string ⟨#[10]⟩] rfl qbZ ?_; (refine (qh9 s_1 10 _ (by have := HSZ.out; omega) (qbb.below HG.out qan).1).mono ?_); rintro e w20 ⟨rfl, hb⟩; refine ⟨_, rfl, ?_⟩; replace B3 := B3.mw hb; replace B5 := B5.mw hb; replace HO := HO.mw hb; replace qfv := qfv.mw hb; replace HB := ak_ (qaa qan hb); obtain ⟨qsq, qrX⟩ := qcx B3.out; have qsr := qbC B3.out; have qrY := qad B3.out 1; obtain ⟨qsd, qrV⟩ := qcx B5.out; have qse := qbC B5.out; have qrW := qad B5.out 1; rw [← HBF.out, ← HNB.out, HOK.out]; clear hb))
        refine bodyPost_ret (qb4 (rs := [.tmp 2, .cell 3 28, .tmp 4]) rfl (by simp) (.tmp (.cell g3 28 #[.slice none 0 0, .int .i64 0] (0, 0) _ rfl k52_ Tryz.underlying28 rfl (by kernel_rfl) (.tmp .nil)))) rfl ?_; exact ⟨_, _, rfl, Kd.qfP _ _ _ _ _, Kd.qfP _ _ _ _ _, (by apply_rules only [HB.out, qai, qaf, qah, qas, G3.out])⟩
      | true =>
        rw [if_pos rfl] at H; by_cases hl : qfV.length = 50
        ·rw [if_pos hl] at H; have hlb : ((qfV.length : Int) == 50) = true := beq_iff_eq.2 (by omega); clear hl; obtain ⟨rfl, rfl, rfl, rfl⟩ := pj4_ H
         go_wp2_with (first | (refine gl_ 20 Tryz.func90 #[.string s_1, .string ⟨#[10]⟩] rfl qbZ ?_; (refine (qh9 s_1 10 _ (by have := HSZ.out; omega) (qbb.below HG.out qan).1).mono ?_); rintro e w20 ⟨rfl, hb⟩; refine ⟨_, rfl, ?_⟩; replace B3 := B3.mw hb; replace B5 := B5.mw hb; replace HO := HO.mw hb; replace qfv := qfv.mw hb; replace HB := ak_ (qaa qan hb); obtain ⟨qsq, qrX⟩ := qcx B3.out; have qsr := qbC B3.out; have qrY := qad B3.out 1; obtain ⟨qsd, qrV⟩ := qcx B5.out; have qse := qbC B5.out; have qrW := qad B5.out 1; rw [← HBF.out, ← HNB.out, HOK.out]; clear hb))
         refine bodyPost_ret (qb4 (rs := [.tmp 2, .cell 3 28, .tmp 4]) rfl (by simp) (.tmp (.cell g3 28 #[.slice none 0 0, .int .i64 0] (0, 0) _ rfl k52_ Tryz.underlying28 rfl (by kernel_rfl) (.tmp .nil)))) rfl ?_; exact ⟨_, _, rfl, Kd.qfP _ _ _ _ _, Kd.qfP _ _ _ _ _, (by apply_rules only [HB.out, qai, qaf, qah, qas, G3.out])⟩
        rw [if_neg hl] at H; have hlb : ((qfV.length : Int) == 50) = false := beq_eq_false_iff_ne.2 (by omega); obtain ⟨⟨rs2, mo2, txt⟩, A1, H⟩ := qay H; have HLO2 := ak_ (show (qfV ++ [txt]).length ≤ 50 from by have := HLO.out; rw [List.length_append]; simp only [List.length_cons, List.length_nil]; omega); have H' := ak_ H; clear hl H
        go_wp2_with (first | (refine gl_ 20 Tryz.func90 #[.string s_1, .string ⟨#[10]⟩] rfl qbZ ?_; (refine (qh9 s_1 10 _ (by have := HSZ.out; omega) (qbb.below HG.out qan).1).mono ?_); rintro e w20 ⟨rfl, hb⟩; refine ⟨_, rfl, ?_⟩; replace B3 := B3.mw hb; replace B5 := B5.mw hb; replace HO := HO.mw hb; replace qfv := qfv.mw hb; replace HB := ak_ (qaa qan hb); obtain ⟨qsq, qrX⟩ := qcx B3.out; have qsr := qbC B3.out; have qrY := qad B3.out 1; obtain ⟨qsd, qrV⟩ := qcx B5.out; have qse := qbC B5.out; have qrW := qad B5.out 1; rw [← HBF.out, ← HNB.out, HOK.out]; clear hb) | (refine gl_ 34 Tryz.func45 #[.pointer (some ⟨g5, 0, none⟩), .string bf] rfl qbZ ?_; (refine (qqQ k w.heap.size g5 rs mo bf rs2 mo2 txt _ (qab qan) ⟨A0, c0, (by apply_rules only [B5.out, qak, qam, qaj]), k94_⟩ (qbb.below HG.out qan) A1.out).mono ?_); rintro e w34 ⟨rfl, hD, hk⟩; refine ⟨_, rfl, ?_⟩; have HD := ak_ hD; have hB6 := Kd.qa9 (Kd.R_keep (Kd.qcw qo1 (by apply_rules only [B5.out, qak, qam, qaj]) (by decide)) hk.1 (fun _ h_ => h_.2)) (fun _ _ => trivial); have hB3 := qeA.blk hk.1 k97_ NE.out (by simp); have hB2 := qcv.below qan hk G5.out (qab qan); clear qfv B3 HB B5 HO; have qfv := ak_ hB6; have B3 := ak_ hB3; have HB := ak_ hB2; clear hD hk hB6 hB3 hB2) | ((with_reducible refine qa2 (b := .append) (xs := #[.tmp 32, .tmp 35]) rfl ?_); at_builtin; refine Kd.qcH Kd.string (w0 := w) w.heap.size rfl (.tmp 32) (.tmp 35) 43 9 (.string ⟨#[]⟩) 16 rfl Tryz.underlying43 qml rfl (by decide) (by omega) (.slice A6 qfV.length c6) qfV txt [.string txt] (fun _ => True) (fun _ => False) rfl rfl ?aP (fun _ hk => hk.elim) ?aF ?aO ?aB ?aS ?aL ?_; (case aP => exact rfl); (case aB => exact qan); (case aF => exact (fun _ _ => trivial)); (case aO => exact qo1); (case aS => exact (qab qan)); (case aL => have := HLO.out; omega); intro v36 w36 ho hb hg hat; have HD2 := ak_ (show qfD w36 w.heap.size g5 rs2 mo2 from by obtain ⟨A_, c_, h1_, h2_⟩ := HD.out; exact ⟨A_, c_, qdH (by apply_rules only [h1_, qak, qam, qaj]) hg (Kd.qpw qo1 (by apply_rules only [h1_, qak, qam, qaj]) (by decide)), Kd.qfw (by apply_rules only [h2_, Kd.qap, Kd.qaq, Kd.qaw]) (Kd.qe7 qo1) (by decide) hg⟩); have B3_ := ak_ (qdH k97_ hg (Kd.qpw qo1 k97_ (by decide))); clear HD B3 HB; have HD := HD2; have B3 := B3_; have HB := ak_ hb; have HO36 := ak_ ho; clear qfv HD2 B3_ ho hb hg hat))
        go_roundg k1
        case measure => have := HK1.out; omega
        case rel => exact ⟨nb, qfV ++ [txt], rs2, mo2, rfl, H', ⟨qcW⟩, HNS, HLO2, HD, B3, HO36, HB⟩
def qaS.l0 : Nat → List Int → List ByteArray → Int → Int → Option (List Int × Bool)
 | 0, _, _, _, _ => none
 | k + 1, x7, x19, x20, x21 => if x21 < x20 then (if 0 ≤ x21 then (if x21 < (x19.length : Int) then (if (qeJ ByteArray.empty x19 x21).toList = ([110, 111] : List UInt8) then (if x7.length < 17592186044416 then (qaS.l0 k (x7 ++ [wrap64 (x21 + 1)]) x19 x20 (wrap64 (x21 + 1))) else (none)) else (if (qeJ ByteArray.empty x19 x21).toList = ([119, 104, 97, 116] : List UInt8) then (if x7.length < 17592186044416 then (qaS.l0 k (x7 ++ [wrap64 (x21 + 1)]) x19 x20 (wrap64 (x21 + 1))) else (none)) else (qaS.l0 k x7 x19 x20 (wrap64 (x21 + 1))))) else (none)) else (none)) else (some (x7, true))
def qaS.f (k : Nat) (a0 : ByteArray) : Option (List Int × Bool) := (qbd.f k a0).bind fun qcR => (if qcR.2.2.2 = true then (qaS.l0 k (([] : List Int)) qcR.1 (qcR.1.length : Int) 0) else (some (([] : List Int), false)))
theorem qaS.calls (k : Nat) (a0 : ByteArray) (r1 : List Int) (r2 : Bool) (w : World) (h : qaS.f k a0 = some (r1, r2)) (hG : qbb w) :
  Calls Tryz.prog 26 #[.string a0] w fun e w' => ∃ v0_ : Value, e = .returned (.tuple #[v0_, .bool r2]) ∧ Kd.R (Kd.int .i64) 3 w' w.heap.size (fun _ => True) v0_ r1 ∧ Below w.heap.size w w' := by
 have hu28 := Tryz.underlying28; have HB := br_ w; have HG := ak_ hG; clear hG; have H : ((qbd.f k a0).bind fun qcR => (if qcR.2.2.2 = true then (qaS.l0 k (([] : List Int)) qcR.1 (qcR.1.length : Int) 0) else (some (([] : List Int), false)))) = some (r1, r2) := h; clear h; obtain ⟨⟨qat, qcg, t107, qqi⟩, A2, H⟩ := qay H; (try dsimp only at H); by_cases c3 : qqi = true; rotate_left
 ·replace c3 := Bool.eq_false_iff.mpr c3; subst c3; rw [if_neg ff_] at H; obtain ⟨rfl, rfl⟩ := qdF H; go_enter Tryz.func26, Tryz.ntmps26
  go_wp2_with (first | (refine gl_ 12 Tryz.func56 #[.string a0] rfl qbK ?_; (refine (qbd.calls k a0 qat qcg t107 false _ A2.out (qbb.below HG.out qan)).mono ?_); rintro e w20 ⟨qit, v105, rfl, ho0, ho1, hb⟩; refine ⟨_, rfl, ?_⟩; have qc6 := ak_ (Kd.qax ho0 (qab qan)); have qeh := ak_ (Kd.qax ho1 (qab qan)); replace HB := HB.mw hb; (try clear hb ho0 ho1)) | ((with_reducible refine qal (N := 5) rfl ?_); refine bx_ 5 rfl (cs := #[.slice none 0 0, .int .i64 0]) (t := 28) qbe ?_; intro qhw hg w21 hbox hb; replace qc6 := qc6.mw hb; replace qeh := qeh.mw hb; have qf5 := ak_ (hbox); have GW109 := ak_ (HB.ge hg); have GE109 := ak_ (HB.ge hg); replace HB := HB.mw hb; clear hb hbox hg; obtain ⟨Ao22, co22, eo22⟩ := Kd.qaI qeh.out; subst eo22; obtain ⟨hcz23_0, hcz23_1, hfz23_0, hfz23_1⟩ := qbG qf5.out))
  go_ret2
  exact ⟨_, qcf, qgN, qk9⟩
 subst c3; rw [if_pos rfl] at H
 obtain ⟨qiP, hy_⟩ : ∃ y_ : List Int, y_ = (([] : List Int)) := ⟨_, rfl⟩
 replace H : (qaS.l0 k qiP qat (qat.length : Int) 0) = some (r1, r2) := qe1; have qk4 := ak_ hy_; clear hy_; have H' := ak_ H; clear H; go_enter Tryz.func26, Tryz.ntmps26
 go_wp2_with (first | (refine gl_ 12 Tryz.func56 #[.string a0] rfl qbK ?_; (refine (qbd.calls k a0 qat qcg t107 true _ A2.out (qbb.below HG.out qan)).mono ?_); rintro e w4 ⟨qit, v105, rfl, ho0, ho1, hb⟩; refine ⟨_, rfl, ?_⟩; have qc6 := ak_ (Kd.qax ho0 (qab qan)); have qeh := ak_ (Kd.qax ho1 (qab qan)); replace HB := HB.mw hb; (try clear hb ho0 ho1)) | ((with_reducible refine qal (N := 5) rfl ?_); refine bx_ 5 rfl (cs := #[.slice none 0 0, .int .i64 0]) (t := 28) qbe ?_; intro qhw hg w5 hbox hb; replace qc6 := qc6.mw hb; replace qeh := qeh.mw hb; have qf5 := ak_ (hbox); have GW109 := ak_ (HB.ge hg); have GE109 := ak_ (HB.ge hg); replace HB := HB.mw hb; clear hb hbox hg; obtain ⟨Ao6, co6, eo6⟩ := Kd.qaI qeh.out; subst eo6; obtain ⟨qki, qkj, qko, qkp⟩ := qbG qf5.out) | ((with_reducible refine qal (N := 18) rfl ?_); refine li_ (Kd.int .i64) 3 18 rfl (xs := ([] : List Int)) qbe ?_; intro v111 w8 ho9 hb; (first | rw [← qk4.out] at ho9 | (simp only [Int.reduceToNat] at ho9; rw [← qk4.out] at ho9)); replace qc6 := ak_ (Kd.qbv (by (with_reducible repeat (first | apply Kd.qap | apply Kd.qaq | apply Kd.qaw)); exact (Kd.qa9 (Kd.qcV (p := ⟨qhw, 1, none⟩) (Kd.qcV (p := ⟨qhw, 0, none⟩) (Kd.qcw qc6.out qf5.out (by decide)) (fun _ hk => hk.2) (.slice Ao6 qcg.length co6)) (fun _ hk => hk.2) (.int .i64 t107)) (fun _ h_ => h_.1))) hb); replace qeh := ak_ (Kd.qbv (by (with_reducible repeat (first | apply Kd.qap | apply Kd.qaq | apply Kd.qaw)); exact (Kd.qa9 (Kd.qcV (p := ⟨qhw, 1, none⟩) (Kd.qcV (p := ⟨qhw, 0, none⟩) (Kd.qcw qeh.out qf5.out (by decide)) (fun _ hk => hk.2) (.slice Ao6 qcg.length co6)) (fun _ hk => hk.2) (.int .i64 t107)) (fun _ h_ => h_.1))) hb); have qqn := ak_ (Kd.qax ho9 (qab qk9)); replace qf5 := ak_ (qar (g := qhw) (o := .cells #[.slice Ao6 qcg.length co6, .int .i64 t107] 28 (0, 0)) (by (with_reducible repeat (first | refine qak ?_ _ | refine qam ?_ | refine qaj ?_ _)); refine qbl (cs := #[.slice Ao6 qcg.length co6, .int .i64 0]) ?_ 1 _ rfl; (with_reducible repeat (first | refine qak ?_ _ | refine qam ?_ | refine qaj ?_ _)); refine qbl (cs := #[.slice none 0 0, .int .i64 0]) ?_ 0 _ rfl; apply_rules only [qf5.out, qak, qam, qaj]) hb); replace HB := ak_ (qaa qk9 hb); clear hb ho9; obtain ⟨Ao10, co10, eo10⟩ := Kd.qaI qc6.out; subst eo10))
 go_loopg [7, 21] k (fun kq v7 v21 w' => ∃ (qc5 : List Int) (qeY : Int), v21 = .int .i64 qeY ∧ qag (qaS.l0 kq qc5 qat (qat.length : Int) qeY = some (r1, r2)) ∧ qag (kq ≤ k) ∧ qag (Kd.R (Kd.int .i64) 3 w' w.heap.size (fun _ => True) v7 qc5) ∧ qag (Kd.R Kd.string 9 w' w.heap.size (fun _ => True) (.slice Ao10 qat.length co10) qat) ∧ qag (Kd.R qaL 85 w' w.heap.size (fun _ => True) (.slice Ao6 qcg.length co6) qcg) ∧ qag (w'.heap[qhw]? = some (.cells #[(.slice Ao6 qcg.length co6), .int .i64 t107] 28 (0, 0))) ∧ qag (Below w.heap.size w w'))
 case atStart => exact ⟨(qiP), (0), qav, H', ⟨Nat.le_refl _⟩, ⟨k86_⟩, ⟨qo0⟩, ⟨qsL⟩, ⟨qsM⟩, ⟨qk9⟩⟩
 case round =>
  clear H'; (try clear c3); (try clear qki); (try clear qkj); (try clear qko); (try clear qkp); obtain ⟨qc5, qeY, rfl, HA, HK1, qgH, qk3, qgG, qf5, HB⟩ := hrel
  cases gk with
  | zero => exact absurd HA.out (by simp [qaS.l0])
  | succ k1 =>
   have H := HA.out; clear HA; simp only [qaS.l0] at H; by_cases c11 : qeY < (qat.length : Int); rotate_left
   ·rw [if_neg c11] at H; have qfQ := decide_eq_false c11; clear c11; obtain ⟨rfl, rfl⟩ := qdF H; go_wp2
    go_ret2
    exact ⟨_, qcf, by (with_reducible repeat (first | apply Kd.qap | apply Kd.qaq | apply Kd.qaw)); exact qgH.out, qk9⟩
   rw [if_pos c11] at H; have qfQ := decide_eq_true c11; clear c11; obtain ⟨c12, H⟩ := qck H; have qhg := decide_eq_true c12; clear c12; obtain ⟨c13, H⟩ := qck H; have qk6 := decide_eq_true c13; clear c13; by_cases c14 : (qeJ ByteArray.empty qat qeY).toList = ([110, 111] : List UInt8)
   ·rw [if_pos c14] at H; have qj5 : ((qeJ ByteArray.empty qat qeY).toList == ([110, 111] : List UInt8)) = true := beq_iff_eq.mpr c14; have qrE : ((qeJ ByteArray.empty qat qeY).toList != ([110, 111] : List UInt8)) = false := bne_eq_false_iff_eq.mpr c14; clear c14; obtain ⟨c15, H⟩ := qck H; have qrj := ak_ c15; clear c15
    obtain ⟨y114, hy_⟩ : ∃ y_ : List Int, y_ = (qc5 ++ [wrap64 (qeY + 1)]) := ⟨_, rfl⟩
    replace H : (qaS.l0 k1 y114 qat (qat.length : Int) (wrap64 (qeY + 1))) = some (r1, r2) := qe1; have Ny114 := ak_ hy_; clear hy_; have H' := ak_ H; clear H; have qsX : 0 ≤ (qeY : Int) := of_decide_eq_true qaO; have qs1 : qeY < (qat.length : Int) := of_decide_eq_true qaO; obtain ⟨ad113, e113, qsw⟩ := Kd.qeu (Kd.qao qk3.out).2.2 qeY qsX qs1
    cases e113
    replace qsX := eq_true qsX; replace qs1 := eq_true qs1
    go_wp2_with (first | ((with_reducible refine qa2 (b := .append) (xs := #[.tmp 32, .tmp 35]) rfl ?_); at_builtin; refine Kd.qcH (Kd.int .i64) (w0 := w) w.heap.size rfl (.tmp 32) (.tmp 35) 48 3 (.int .i64 0) 8 rfl Tryz.underlying48 info3 rfl (by decide) (by omega) u7 qc5 (wrap64 (qeY + 1)) [.int .i64 (wrap64 (qeY + 1))] (fun _ => True) (fun _ => False) rfl rfl ?aP (fun _ hk => hk.elim) ?aF ?aO ?aB ?aS ?aL ?_; (case aP => exact rfl); (case aB => exact qk9); (case aF => exact (fun _ _ => trivial)); (case aO => exact qlC); (case aS => exact (qab qk9)); (case aL => have := qrj.out; omega); intro v115 w16 ho hb hg hat; rw [← Ny114.out] at ho; replace qk3 := ak_ (Kd.qfw (by apply_rules only [qk3.out, Kd.qap, Kd.qaq, Kd.qaw]) (Kd.qe7 qlC) (by decide) hg); replace qgG := ak_ (Kd.qfw k81_ (Kd.qe7 qlC) (by decide) hg); replace qf5 := ak_ (qdH (g := qhw) (o := .cells #[.slice Ao6 qcg.length co6, .int .i64 t107] 28 (0, 0)) qsM hg (Kd.qpw qgH.out qf5.out (by decide))); replace HB := ak_ (hb); have qn8 := ak_ (ho); clear qgH; clear ho hb hg hat))
    go_roundg k1
    case measure => have := HK1.out; omega
    case rel => exact ⟨(y114), (wrap64 (qeY + 1)), qav, H', ⟨qcW⟩, ⟨by apply_rules only [qn8.out, Kd.qap, Kd.qaq, Kd.qaw]⟩, ⟨by apply_rules only [qk3.out, Kd.qap, Kd.qaq, Kd.qaw]⟩, ⟨k81_⟩, ⟨qsM⟩, ⟨qk9⟩⟩
   rw [if_neg c14] at H; have qj5 : ((qeJ ByteArray.empty qat qeY).toList == ([110, 111] : List UInt8)) = false := beq_eq_false_iff_ne.mpr c14; have qrE : ((qeJ ByteArray.empty qat qeY).toList != ([110, 111] : List UInt8)) = true := bne_iff_ne.mpr c14; by_cases c17 : (qeJ ByteArray.empty qat qeY).toList = ([119, 104, 97, 116] : List UInt8); rotate_left
   ·rw [if_neg c17] at H; have qrF : ((qeJ ByteArray.empty qat qeY).toList == ([119, 104, 97, 116] : List UInt8)) = false := beq_eq_false_iff_ne.mpr c17; have c17b1 : ((qeJ ByteArray.empty qat qeY).toList != ([119, 104, 97, 116] : List UInt8)) = true := bne_iff_ne.mpr c17; have H' := ak_ H; clear H; have qsX : 0 ≤ (qeY : Int) := of_decide_eq_true qaO; have qs1 : qeY < (qat.length : Int) := of_decide_eq_true qaO; obtain ⟨ad113, e113, qsw⟩ := Kd.qeu (Kd.qao qk3.out).2.2 qeY qsX qs1
    cases e113
    replace qsX := eq_true qsX; replace qs1 := eq_true qs1; go_wp2
    go_roundg k1
    case measure => have := HK1.out; omega
    case rel => exact ⟨(qc5), (wrap64 (qeY + 1)), qav, H', ⟨qcW⟩, ⟨qlC⟩, ⟨by apply_rules only [qk3.out, Kd.qap, Kd.qaq, Kd.qaw]⟩, ⟨k81_⟩, ⟨qsM⟩, ⟨qk9⟩⟩
   rw [if_pos c17] at H; have qrF : ((qeJ ByteArray.empty qat qeY).toList == ([119, 104, 97, 116] : List UInt8)) = true := beq_iff_eq.mpr c17; have c17b1 : ((qeJ ByteArray.empty qat qeY).toList != ([119, 104, 97, 116] : List UInt8)) = false := bne_eq_false_iff_eq.mpr c17; clear c17; obtain ⟨c18, H⟩ := qck H; have LMc18 := ak_ c18; clear c18
   obtain ⟨y117, hy_⟩ : ∃ y_ : List Int, y_ = (qc5 ++ [wrap64 (qeY + 1)]) := ⟨_, rfl⟩
   replace H : (qaS.l0 k1 y117 qat (qat.length : Int) (wrap64 (qeY + 1))) = some (r1, r2) := qe1; have Ny117 := ak_ hy_; clear hy_; have H' := ak_ H; clear H; have qsX : 0 ≤ (qeY : Int) := of_decide_eq_true qaO; have qs1 : qeY < (qat.length : Int) := of_decide_eq_true qaO; obtain ⟨ad113, e113, qsw⟩ := Kd.qeu (Kd.qao qk3.out).2.2 qeY qsX qs1
   cases e113
   replace qsX := eq_true qsX; replace qs1 := eq_true qs1
   go_wp2_with (first | ((with_reducible refine qa2 (b := .append) (xs := #[.tmp 32, .tmp 35]) rfl ?_); at_builtin; refine Kd.qcH (Kd.int .i64) (w0 := w) w.heap.size rfl (.tmp 32) (.tmp 35) 48 3 (.int .i64 0) 8 rfl Tryz.underlying48 info3 rfl (by decide) (by omega) u7 qc5 (wrap64 (qeY + 1)) [.int .i64 (wrap64 (qeY + 1))] (fun _ => True) (fun _ => False) rfl rfl ?aP (fun _ hk => hk.elim) ?aF ?aO ?aB ?aS ?aL ?_; (case aP => exact rfl); (case aB => exact qk9); (case aF => exact (fun _ _ => trivial)); (case aO => exact qlC); (case aS => exact (qab qk9)); (case aL => have := LMc18.out; omega); intro v118 w19 ho hb hg hat; rw [← Ny117.out] at ho; replace qk3 := ak_ (Kd.qfw (by apply_rules only [qk3.out, Kd.qap, Kd.qaq, Kd.qaw]) (Kd.qe7 qlC) (by decide) hg); replace qgG := ak_ (Kd.qfw k81_ (Kd.qe7 qlC) (by decide) hg); replace qf5 := ak_ (qdH (g := qhw) (o := .cells #[.slice Ao6 qcg.length co6, .int .i64 t107] 28 (0, 0)) qsM hg (Kd.qpw qgH.out qf5.out (by decide))); replace HB := ak_ (hb); have HO119 := ak_ (ho); clear qgH; clear ho hb hg hat))
   go_roundg k1
   case measure => have := HK1.out; omega
   case rel => exact ⟨(y117), (wrap64 (qeY + 1)), qav, H', ⟨qcW⟩, ⟨by apply_rules only [HO119.out, Kd.qap, Kd.qaq, Kd.qaw]⟩, ⟨by apply_rules only [qk3.out, Kd.qap, Kd.qaq, Kd.qaw]⟩, ⟨k81_⟩, ⟨qsM⟩, ⟨qk9⟩⟩
def qbk.l0 : Nat → ByteArray → Int → List ByteArray → Int → Int → Option (List ByteArray)
 | 0, _, _, _, _, _ => none
 | k + 1, x0, x1, x5, x6, x7 => if x7 < (x0.size : Int) then (if 0 ≤ x7 then (if (bt x0 x7) = x1 then (if 0 ≤ x6 then (if x6 ≤ x7 then (if x7 ≤ (x0.size : Int) then (if x5.length < 8796093022208 then (qbk.l0 k x0 x1 (x5 ++ [x0.extract (x6 : Int).toNat (x7 : Int).toNat]) (wrap64 (x7 + 1)) (wrap64 (x7 + 1))) else (none)) else (none)) else (none)) else (none)) else (qbk.l0 k x0 x1 x5 x6 (wrap64 (x7 + 1)))) else (none)) else (if 0 ≤ x6 then (if x6 ≤ (x0.size : Int) then (if x5.length < 8796093022208 then (some (x5 ++ [x0.extract (x6 : Int).toNat x0.size])) else (none)) else (none)) else (none))
def qbk.f (k : Nat) (a0 : ByteArray) (a1 : Int) : Option (List ByteArray) := qbk.l0 k a0 a1 ([] : List ByteArray) 0 0
theorem qbk.calls (k : Nat) (a0 : ByteArray) (a1 : Int) (r : List ByteArray) (w : World) (h : qbk.f k a0 a1 = some r) :
  Calls Tryz.prog 39 #[.string a0, .int .u8 a1] w fun e w' => ∃ v0_ : Value, e = .returned (v0_) ∧ Kd.R Kd.string 9 w' w.heap.size (fun _ => True) v0_ r ∧ Below w.heap.size w w' := by
 have HB := br_ w; have H : (qbk.l0 k a0 a1 ([] : List ByteArray) 0 0) = some r := h; clear h; have H' := ak_ H; clear H; go_enter Tryz.func39, Tryz.ntmps39; go_wp2
 go_loopg [5, 6, 7] k (fun kq v5 v6 v7 w' => ∃ (qcn : List ByteArray) (qdl : Int) (qc5 : Int), v6 = .int .i64 qdl ∧ v7 = .int .i64 qc5 ∧ qag (qbk.l0 kq a0 a1 qcn qdl qc5 = some r) ∧ qag (kq ≤ k) ∧ qag (Kd.R Kd.string 9 w' w.heap.size (fun _ => True) v5 qcn) ∧ qag (Below w.heap.size w w'))
 case atStart => exact ⟨(([] : List ByteArray)), (0), (0), qav, qav, H', ⟨Nat.le_refl _⟩, ⟨qgN⟩, ⟨qan⟩⟩
 case round =>
  clear H'; obtain ⟨qcn, qdl, qc5, rfl, rfl, HA, HK1, qgC, HB⟩ := hrel
  cases gk with
  | zero => exact absurd HA.out (by simp [qbk.l0])
  | succ k1 =>
   have H := HA.out; clear HA; simp only [qbk.l0] at H; by_cases c3 : qc5 < (a0.size : Int); rotate_left
   ·rw [if_neg c3] at H; have qfk := decide_eq_false c3; clear c3; obtain ⟨c12, H⟩ := qck H; have qhg := eq_true c12; have c12b1 := decide_eq_true c12; clear c12; obtain ⟨c13, H⟩ := qck H; have qk6 := eq_true c13; have c13b1 := decide_eq_true c13; clear c13; obtain ⟨c14, H⟩ := qck H; have qob := ak_ c14; clear c14
    obtain ⟨qgF, hy_⟩ : ∃ y_ : List ByteArray, y_ = (qcn ++ [a0.extract (qdl : Int).toNat a0.size]) := ⟨_, rfl⟩
    replace H : (some qgF) = some r := qe1; have qiu := ak_ hy_; clear hy_; obtain rfl := sj_ H
    go_wp2_with (first | ((with_reducible refine qa2 (b := .append) (xs := #[.tmp 28, .tmp 32]) rfl ?_); at_builtin; refine Kd.qcH Kd.string (w0 := w) w.heap.size rfl (.tmp 28) (.tmp 32) 43 9 (.string ⟨#[]⟩) 16 rfl Tryz.underlying43 qml rfl (by decide) (by omega) u5 qcn (a0.extract (qdl : Int).toNat a0.size) [.string (a0.extract (qdl : Int).toNat a0.size)] (fun _ => True) (fun _ => False) rfl rfl ?aP (fun _ hk => hk.elim) ?aF ?aO ?aB ?aS ?aL ?_; (case aP => exact rfl); (case aB => exact qan); (case aF => exact (fun _ _ => trivial)); (case aO => exact qn1); (case aS => exact (qab qan)); (case aL => have := qob.out; omega); intro v105 w15 ho hb hg hat; rw [← qiu.out] at ho; replace HB := ak_ (hb); have qeh := ak_ (ho); clear qgC; clear ho hb hg hat))
    go_ret
    exact ⟨_, qcf, by (with_reducible repeat (first | apply Kd.qap | apply Kd.qaq | apply Kd.qaw)); exact qeh.out, qan⟩
   rw [if_pos c3] at H; have qfk := decide_eq_true c3; clear c3; obtain ⟨c4, H⟩ := qck H; have qfx := decide_eq_true c4; clear c4; by_cases c6 : (bt a0 qc5) = a1; rotate_left
   ·rw [if_neg c6] at H; have qgk : ((bt a0 qc5) == a1) = false := beq_eq_false_iff_ne.mpr c6; have qoq : ((bt a0 qc5) != a1) = true := bne_iff_ne.mpr c6; have H' := ak_ H; clear H; have p5 : 0 ≤ (qc5 : Int) := of_decide_eq_true qaO; have q5 : qc5 < (a0.size : Int) := of_decide_eq_true qaO; have hx5 := qel a0 qc5; replace p5 := eq_true p5; replace q5 := eq_true q5; go_wp2
    go_roundg k1
    case measure => have := HK1.out; omega
    case rel => exact ⟨(qcn), (qdl), (wrap64 (qc5 + 1)), qav, qav, H', ⟨qcW⟩, ⟨qn1⟩, ⟨qan⟩⟩
   rw [if_pos c6] at H; have qgk : ((bt a0 qc5) == a1) = true := beq_iff_eq.mpr c6; have qoq : ((bt a0 qc5) != a1) = false := bne_eq_false_iff_eq.mpr c6; clear c6; obtain ⟨c7, H⟩ := qck H; have qgU := eq_true c7; have qmL := decide_eq_true c7; clear c7; obtain ⟨c8, H⟩ := qck H; have qm4 := eq_true c8; have c8b1 := decide_eq_true c8; clear c8; obtain ⟨c9, H⟩ := qck H; have qln := eq_true c9; have c9b1 := decide_eq_true c9; clear c9; obtain ⟨c10, H⟩ := qck H; have LMc10 := ak_ c10; clear c10
   obtain ⟨qff, hy_⟩ : ∃ y_ : List ByteArray, y_ = (qcn ++ [a0.extract (qdl : Int).toNat (qc5 : Int).toNat]) := ⟨_, rfl⟩
   replace H : (qbk.l0 k1 a0 a1 qff (wrap64 (qc5 + 1)) (wrap64 (qc5 + 1))) = some r := qe1; have qei := ak_ hy_; clear hy_; have H' := ak_ H; clear H; have p5 : 0 ≤ (qc5 : Int) := of_decide_eq_true qaO; have q5 : qc5 < (a0.size : Int) := of_decide_eq_true qaO; have hx5 := qel a0 qc5; replace p5 := eq_true p5; replace q5 := eq_true q5
   go_wp2_with (first | ((with_reducible refine qa2 (b := .append) (xs := #[.tmp 19, .tmp 24]) rfl ?_); at_builtin; refine Kd.qcH Kd.string (w0 := w) w.heap.size rfl (.tmp 19) (.tmp 24) 43 9 (.string ⟨#[]⟩) 16 rfl Tryz.underlying43 qml rfl (by decide) (by omega) u5 qcn (a0.extract (qdl : Int).toNat (qc5 : Int).toNat) [.string (a0.extract (qdl : Int).toNat (qc5 : Int).toNat)] (fun _ => True) (fun _ => False) rfl rfl ?aP (fun _ hk => hk.elim) ?aF ?aO ?aB ?aS ?aL ?_; (case aP => exact rfl); (case aB => exact qan); (case aF => exact (fun _ _ => trivial)); (case aO => exact qn1); (case aS => exact (qab qan)); (case aL => have := LMc10.out; omega); intro qit w11 ho hb hg hat; rw [← qei.out] at ho; replace HB := ak_ (hb); have qc6 := ak_ (ho); clear qgC; clear ho hb hg hat))
   go_roundg k1
   case measure => have := HK1.out; omega
   case rel => exact ⟨(qff), (wrap64 (qc5 + 1)), (wrap64 (qc5 + 1)), qav, qav, H', ⟨qcW⟩, ⟨qo0⟩, ⟨qan⟩⟩
def qeT.f (x : ByteArray) : Option ByteArray := match qht x with
  | some c => some ⟨c.kind.toArray⟩
  | none => some ⟨#[63]⟩
theorem qeT.calls (x : ByteArray) (r : ByteArray) (w : World) (h : qeT.f x = some r) :
    Calls Tryz.prog 94 #[.string x] w fun e w' => e = .returned (.string r) ∧ Below w.heap.size w w' := by
  unfold qeT.f at h
  cases hc : qht x with
  | some c =>
    rw [hc] at h; obtain rfl := Option.some.inj h; obtain rfl := qhM hc; clear hc
    cases c <;> (simp only [Cmd.word, Cmd.bytes, Cmd.kind]; go_enter Tryz.func94, Tryz.ntmps94; go_wp2; go_ret; exact ⟨rfl, Below.refl _ _⟩)
  | none =>
    rw [hc] at h; obtain rfl := Option.some.inj h; have HN := qlo hc; clear hc; have n0 : (x.toList == ([109, 105, 114, 114, 111, 114] : List UInt8)) = false := HN .cMirror; have n1 : (x.toList == ([116, 105, 100, 121] : List UInt8)) = false := HN .cTidy; have n2 : (x.toList == ([115, 104, 111, 119] : List UInt8)) = false := HN .cShow; have n3 : (x.toList == ([108, 101, 102, 116] : List UInt8)) = false := HN .cLeft; have n4 : (x.toList == ([99, 111, 117, 110, 116] : List UInt8)) = false := HN .cCount; have n5 : (x.toList == ([112, 101, 114, 105, 111, 100] : List UInt8)) = false := HN .cPeriod; have n6 : (x.toList == ([115, 112, 111, 107, 101, 115] : List UInt8)) = false := HN .cSpokes; have n7 : (x.toList == ([115, 116, 101, 112, 115] : List UInt8)) = false := HN .cSteps; have n8 : (x.toList == ([100, 114, 111, 112] : List UInt8)) = false := HN .cDrop; have n9 : (x.toList == ([109, 111, 115, 116] : List UInt8)) = false := HN .cMost; have n10 : (x.toList == ([109, 111, 118, 101] : List UInt8)) = false := HN .cMove; have n11 : (x.toList == ([112, 114, 105, 109, 101, 115] : List UInt8)) = false := HN .cPrimes; have n12 : (x.toList == ([114, 97, 110, 107] : List UInt8)) = false := HN .cRank; have n13 : (x.toList == ([102, 97, 99, 116, 111, 114, 115] : List UInt8)) = false := HN .cFactors; have n14 : (x.toList == ([112, 105] : List UInt8)) = false := HN .cPi; have n15 : (x.toList == ([100, 105, 118, 105, 115, 111, 114, 115] : List UInt8)) = false := HN .cDivisors; have n16 : (x.toList == ([116, 111, 116, 105, 101, 110, 116] : List UInt8)) = false := HN .cTotient; have n17 : (x.toList == ([112, 97, 116, 116, 101, 114, 110] : List UInt8)) = false := HN .cPattern; have n18 : (x.toList == ([114, 117, 108, 101, 115] : List UInt8)) = false := HN .cRules; have n19 : (x.toList == ([97, 100, 100] : List UInt8)) = false := HN .cAdd; have n20 : (x.toList == ([97, 110, 115, 119, 101, 114] : List UInt8)) = false := HN .cAnswer; clear HN; go_enter Tryz.func94, Tryz.ntmps94; go_wp2
    go_ret
    exact ⟨rfl, Below.refl _ _⟩
def qbi.f (a0 : Int) (a1 : Int) (a2 : Int) : Option (Bool) := if a0 ≥ a1 then (some (decide (a0 ≤ a2))) else (some false)
theorem qbi.calls (a0 : Int) (a1 : Int) (a2 : Int) (r : Bool) (w : World) (h : qbi.f a0 a1 a2 = some r) :
  Calls Tryz.prog 93 #[.int .i64 a0, .int .i64 a1, .int .i64 a2] w fun e w' => e = .returned (.bool r) ∧ qcN w w' := by
 have H : (if a0 ≥ a1 then (some (decide (a0 ≤ a2))) else (some false)) = some r := h; clear h; by_cases c4 : a0 ≥ a1
 ·rw [if_pos c4] at H; have qfx : decide (a1 ≤ a0) = true := decide_eq_true c4; clear c4; obtain rfl := sj_ H; go_enter Tryz.func93, Tryz.ntmps93; go_wp2
  go_ret
  exact ⟨qav, qcO⟩
 rw [if_neg c4] at H; have qfx : decide (a1 ≤ a0) = false := decide_eq_false c4; clear c4; obtain rfl := sj_ H; go_enter Tryz.func93, Tryz.ntmps93; go_wp2
 go_ret
 exact ⟨qav, qcO⟩
mutual
def qaX.j0 : Nat → ByteArray → Bool → Option (Int)
 | 0, _, _ => none
 | k + 1, x0, x18 => if x18 = true then (some (-1)) else (qaX.l0 k x0 0 0)
def qaX.l0 : Nat → ByteArray → Int → Int → Option (Int)
 | 0, _, _, _ => none
 | k + 1, x0, x3, x4 => if x4 < (x0.size : Int) then (if 0 ≤ x4 then (if (bt x0 x4) < 48 then (some (-1)) else (if (bt x0 x4) > 57 then (some (-1)) else (qaX.l0 k x0 (wrap64 ((wrap64 (10 * x3)) + (((bt x0 x4) - 48) % 256))) (wrap64 (x4 + 1))))) else (none)) else (some x3)
end
def qaX.f (k : Nat) (a0 : ByteArray) : Option (Int) := (qbi.f (a0.size : Int) 1 6).bind fun qat => (if qat = true then (if 0 < (a0.size : Int) then (if (bt a0 0) = 48 then (qaX.j0 k a0 (decide ((a0.size : Int) > 1))) else (qaX.j0 k a0 false)) else (none)) else (qaX.j0 k a0 true))
theorem qaX.calls (k : Nat) (a0 : ByteArray) (r : Int) (w : World) (h : qaX.f k a0 = some r) :
  Calls Tryz.prog 95 #[.string a0] w fun e w' => e = .returned (.int .i64 r) ∧ qcN w w' := by
 have H : ((qbi.f (a0.size : Int) 1 6).bind fun qat => (if qat = true then (if 0 < (a0.size : Int) then (if (bt a0 0) = 48 then (qaX.j0 k a0 (decide ((a0.size : Int) > 1))) else (qaX.j0 k a0 false)) else (none)) else (qaX.j0 k a0 true))) = some r := h; clear h; have HC2 := ak_ H; clear H; go_enter Tryz.func95, Tryz.ntmps95
 go_upto_region 1 with (fail)
 go_cut [18] (fun v18 wc => ∃ (kq : Nat) (qet : Bool), v18 = .bool qet ∧ qag (qaX.j0 kq a0 qet = some r) ∧ qag (kq ≤ k) ∧ qcN w wc)
 case first =>
  have H := HC2.out; clear HC2; obtain ⟨qat, A3, H⟩ := qay H; (try dsimp only at H); by_cases c4 : qat = true; rotate_left
  ·replace c4 := Bool.eq_false_iff.mpr c4; subst c4; rw [if_neg ff_] at H; have H' := ak_ H; clear H
   go_wp2_with (first | (refine gl_ 7 Tryz.func93 #[.int .i64 (a0.size : Int), .int .i64 1, .int .i64 6] rfl qbK ?_; (with_reducible refine (qbi.calls (a0.size : Int) 1 6 false _ A3.out).mono ?_); rintro e w' ⟨rfl, ⟨nd, rfl⟩⟩; refine ⟨_, rfl, ?_⟩))
   go_meet
   case rel => exact ⟨_, (true), qav, H', ⟨qih⟩, qcO⟩
  subst c4; rw [if_pos rfl] at H; obtain ⟨c5, H⟩ := qck H; have qgJ := decide_eq_true c5; have qrG : decide (0 < a0.size) = true := decide_eq_true (by omega); clear c5; (first | rw [qgJ] | rw [qrG] | (simp only [qd7, qew]; rw [qgJ]) | skip); by_cases c7 : (bt a0 0) = 48
  ·rw [if_pos c7] at H; have qgU : ((bt a0 0) == 48) = true := beq_iff_eq.mpr c7; have qmL : ((bt a0 0) != 48) = false := bne_eq_false_iff_eq.mpr c7; clear c7; have H' := ak_ H; clear H
   go_wp2_with (first | (refine gl_ 7 Tryz.func93 #[.int .i64 (a0.size : Int), .int .i64 1, .int .i64 6] rfl qbK ?_; (with_reducible refine (qbi.calls (a0.size : Int) 1 6 true _ A3.out).mono ?_); rintro e w' ⟨rfl, ⟨nd, rfl⟩⟩; refine ⟨_, rfl, ?_⟩; have p6 : 0 ≤ (0 : Int) := (by omega); have q6 : 0 < a0.size := (by have : (0 : Int) < (a0.size : Int) := of_decide_eq_true qaO; omega); have hx6 : ∀ h : 0 < a0.size, ((a0[0]'h).toNat : Int) = bt a0 0 := qel a0 0; clear p6; have qi6 : (0 < (a0.size : Int)) = True := eq_true (of_decide_eq_true qaO); replace q6 := eq_true q6))
   go_meet
   case rel => exact ⟨_, (decide ((a0.size : Int) > 1)), qav, H', ⟨qih⟩, qcO⟩
  rw [if_neg c7] at H; have qgU : ((bt a0 0) == 48) = false := beq_eq_false_iff_ne.mpr c7; have qmL : ((bt a0 0) != 48) = true := bne_iff_ne.mpr c7; have H' := ak_ H; clear H
  go_wp2_with (first | (refine gl_ 7 Tryz.func93 #[.int .i64 (a0.size : Int), .int .i64 1, .int .i64 6] rfl qbK ?_; (with_reducible refine (qbi.calls (a0.size : Int) 1 6 true _ A3.out).mono ?_); rintro e w' ⟨rfl, ⟨nd, rfl⟩⟩; refine ⟨_, rfl, ?_⟩; have p6 : 0 ≤ (0 : Int) := (by omega); have q6 : 0 < a0.size := (by have : (0 : Int) < (a0.size : Int) := of_decide_eq_true qaO; omega); have hx6 : ∀ h : 0 < a0.size, ((a0[0]'h).toNat : Int) = bt a0 0 := qel a0 0; clear p6; have qi6 : (0 < (a0.size : Int)) = True := eq_true (of_decide_eq_true qaO); replace q6 := eq_true q6))
  go_meet
  case rel => exact ⟨_, (false), qav, H', ⟨qih⟩, qcO⟩
 case rest =>
  clear HC2; obtain ⟨kq, qet, rfl, HA, HJ1, ⟨mc1, rfl⟩⟩ := hcut
  cases kq with
  | zero => exact absurd HA.out (by simp [qaX.j0])
  | succ kj1 =>
   have H := HA.out; clear HA; simp only [qaX.j0] at H; by_cases c8 : qet = true
   ·subst c8; rw [if_pos rfl] at H; obtain rfl := sj_ H; go_wp2
    go_ret
    exact ⟨qav, qcO⟩
   replace c8 := Bool.eq_false_iff.mpr c8; subst c8; rw [if_neg ff_] at H; have H' := ak_ H; clear H; go_wp2
   go_loopg [3, 4] kj1 (fun kq v3 v4 w' => ∃ (qgO : Int) (qiQ : Int), v3 = .int .i64 qgO ∧ v4 = .int .i64 qiQ ∧ qag (qaX.l0 kq a0 qgO qiQ = some r) ∧ qag (kq ≤ kj1) ∧ qcN w w')
   case atStart => exact ⟨(0), (0), qav, qav, H', ⟨Nat.le_refl _⟩, qcO⟩
   case round =>
    clear H'; (try clear c8); obtain ⟨qgO, qiQ, rfl, rfl, HA, HK2, ⟨m2, rfl⟩⟩ := hrel
    cases gk with
    | zero => exact absurd HA.out (by simp [qaX.l0])
    | succ k2 =>
     have H := HA.out; clear HA; simp only [qaX.l0] at H; by_cases c9 : qiQ < (a0.size : Int); rotate_left
     ·rw [if_neg c9] at H; have qln := decide_eq_false c9; clear c9; obtain rfl := sj_ H; go_wp2
      go_ret
      exact ⟨qav, qcO⟩
     rw [if_pos c9] at H; have qln := decide_eq_true c9; clear c9; obtain ⟨c10, H⟩ := qck H; have qgt := decide_eq_true c10; clear c10; by_cases c12 : (bt a0 qiQ) < 48
     ·rw [if_pos c12] at H; have qhg := decide_eq_true c12; clear c12; obtain rfl := sj_ H; have p11 : 0 ≤ (qiQ : Int) := of_decide_eq_true qaO; have q11 : qiQ < (a0.size : Int) := of_decide_eq_true qaO; have hx11 := qel a0 qiQ; replace p11 := eq_true p11; replace q11 := eq_true q11; go_wp2
      go_ret
      exact ⟨qav, qcO⟩
     rw [if_neg c12] at H; have qhg := decide_eq_false c12; clear c12; by_cases c14 : (bt a0 qiQ) > 57
     ·rw [if_pos c14] at H; have qj5 : decide (57 < (bt a0 qiQ)) = true := decide_eq_true c14; clear c14; obtain rfl := sj_ H; have p11 : 0 ≤ (qiQ : Int) := of_decide_eq_true qaO; have q11 : qiQ < (a0.size : Int) := of_decide_eq_true qaO; have hx11 := qel a0 qiQ; replace p11 := eq_true p11; replace q11 := eq_true q11; have p13 : 0 ≤ (qiQ : Int) := of_decide_eq_true qaO; have q13 : qiQ < (a0.size : Int) := of_decide_eq_true qaO; have hx13 := qel a0 qiQ; replace p13 := eq_true p13; replace q13 := eq_true q13; go_wp2
      go_ret
      exact ⟨qav, qcO⟩
     rw [if_neg c14] at H; have qj5 : decide (57 < (bt a0 qiQ)) = false := decide_eq_false c14; clear c14; have H' := ak_ H; clear H; have p11 : 0 ≤ (qiQ : Int) := of_decide_eq_true qaO; have q11 : qiQ < (a0.size : Int) := of_decide_eq_true qaO; have hx11 := qel a0 qiQ; replace p11 := eq_true p11; replace q11 := eq_true q11; have p13 : 0 ≤ (qiQ : Int) := of_decide_eq_true qaO; have q13 : qiQ < (a0.size : Int) := of_decide_eq_true qaO; have hx13 := qel a0 qiQ; replace p13 := eq_true p13; replace q13 := eq_true q13; have p15 : 0 ≤ (qiQ : Int) := of_decide_eq_true qaO; have q15 : qiQ < (a0.size : Int) := of_decide_eq_true qaO; have hx15 := qel a0 qiQ; replace p15 := eq_true p15; replace q15 := eq_true q15; go_wp2
     go_roundg k2
     case measure => have := HJ1.out; have := HK2.out; omega
     case rel => exact ⟨(wrap64 ((wrap64 (10 * qgO)) + (((bt a0 qiQ) - 48) % 256))), (wrap64 (qiQ + 1)), qav, qav, H', ⟨by have := HJ1.out; have := HK2.out; omega⟩, qcO⟩
def qfe.f (a0 : Int) (a1 : Int) : Option (Int) := if a0 < a1 then (some a0) else (some a1)
theorem qfe.calls (a0 : Int) (a1 : Int) (r : Int) (w : World) (h : qfe.f a0 a1 = some r) :
  Calls Tryz.prog 206 #[.int .i64 a0, .int .i64 a1] w fun e w' => e = .returned (.int .i64 r) ∧ qcN w w' := by
 have H : (if a0 < a1 then (some a0) else (some a1)) = some r := h; clear h; by_cases c3 : a0 < a1
 ·rw [if_pos c3] at H; have qfk := decide_eq_true c3; clear c3; obtain rfl := sj_ H; go_enter Tryz.func206, Tryz.ntmps206; go_wp2
  go_ret
  exact ⟨qav, qcO⟩
 rw [if_neg c3] at H; have qfk := decide_eq_false c3; clear c3; obtain rfl := sj_ H; go_enter Tryz.func206, Tryz.ntmps206; go_wp2
 go_ret
 exact ⟨qav, qcO⟩
def qbr.f : Nat → Int → Option (ByteArray)
 | 0, _ => none
 | k + 1, a0 => if a0 < 10 then (some (strOfNums (([(wrap64 (48 + a0)) % 256] : List Int)))) else ((qbr.f k (wrap64 (Int.tdiv a0 10))).bind fun qcg => ((some (([(wrap64 (48 + (Int.tmod a0 10))) % 256] : List Int) : List Int)).bind fun qhY => (if qcg.size + (strOfNums qhY).size ≤ 9223372036854775807 then (some (qcg ++ (strOfNums qhY))) else (none))))
def qbr.T3 : Bool × List (List Nat × List Nat) := (true, [([], []), ([0], [0]), ([1], [1]), ([], []), ([3], [3]), ([4], [4]), ([5], [5]), ([6], [6]), ([7], [7]), ([2, 8], [2, 8]), ([9, 2, 0, 1, 2, 3, 4, 5, 6, 7, 8, 9], [9])])
def qbr.B3 : List Nat := [0, 1, 3, 0, 8, 24, 56, 120, 248, 511, 1023]
theorem qbr.tab3 : qhS .any (opsOf Tryz.f83 3) = qbr.T3 := by kernel_rfl
theorem qbr.bits3 : qeU qbr.T3.2 qbr.B3 = true := by kernel_rfl
theorem qbr.calls (k : Nat) : ∀ (a0 : Int) (r : ByteArray) (w : World) (h : qbr.f k a0 = some r),
  Calls Tryz.prog 83 #[.int .i64 a0] w fun e w' => e = .returned (.string r) ∧ Below w.heap.size w w' := by
 induction k using Nat.strongRecOn with
 | _ k ih =>
 intro a0 r w h
 cases k with
 | zero => exact absurd h (by simp [qbr.f])
 | succ k =>
 simp only [qbr.f] at h; have HB := br_ w; have H : (if a0 < 10 then (some (strOfNums (([(wrap64 (48 + a0)) % 256] : List Int)))) else ((qbr.f k (wrap64 (Int.tdiv a0 10))).bind fun qcg => ((some (([(wrap64 (48 + (Int.tmod a0 10))) % 256] : List Int) : List Int)).bind fun qhY => (if qcg.size + (strOfNums qhY).size ≤ 9223372036854775807 then (some (qcg ++ (strOfNums qhY))) else (none))))) = some r := h; clear h; by_cases c2 : a0 < 10
 ·rw [if_pos c2] at H; have qfr := decide_eq_true c2; clear c2
  obtain ⟨qff, hy_⟩ : ∃ y_ : List Int, y_ = (([(wrap64 (48 + a0)) % 256] : List Int)) := ⟨_, rfl⟩
  replace H : (some (strOfNums qff)) = some r := qe1; have qei := ak_ hy_; clear hy_; obtain rfl := sj_ H; go_enter Tryz.func83, Tryz.ntmps83
  go_wp2_with (first | ((with_reducible refine qal (N := 8) rfl ?_); refine Kd.qhq (Kd.int .u8) _ 5 ?hg (N := 8) ?hd (xs := ([(wrap64 (48 + a0)) % 256] : List Int)) (inner := [.int .u8 ((wrap64 (48 + a0)) % 256)]) (ok := fun _ => True) (okp := fun _ => True) ?hr ?hp (fun _ hk => hk) trivial (Below.refl _ _) (Nat.le_refl _) (by simp) ?_; (case hd => rfl); (case hg => rfl); (case hr => exact qbe); (case hp => exact (qef.one (show Kd.M (Kd.int .u8) _ _ _ ((wrap64 (48 + a0)) % 256) [.int .u8 ((wrap64 (48 + a0)) % 256)] from rfl) (qef.none _ _))); intro qit w3 ho4 hb hg_ hnew_; clear hg_ hnew_; (first | rw [← qei.out] at ho4 | (simp only [Int.reduceToNat] at ho4; rw [← qei.out] at ho4)); have qc6 := ak_ (Kd.qax ho4 (qab qan)); replace HB := HB.mw hb; clear hb ho4; have hcv5 := qhR (P := Tryz.prog) Tryz.underlying35 Tryz.underlying5 Tryz.underlying9 (Kd.qhQ qc6.out)))
  go_ret
  exact ⟨qcf, qan⟩
 rw [if_neg c2] at H; have qfr := decide_eq_false c2; clear c2; obtain ⟨qcg, A6, H⟩ := qay H; (try dsimp only at H)
 obtain ⟨qhY, hy_⟩ : ∃ y_ : List Int, y_ = (([(wrap64 (48 + (Int.tmod a0 10))) % 256] : List Int)) := ⟨_, rfl⟩
 replace H : (if qcg.size + (strOfNums qhY).size ≤ 9223372036854775807 then (some (qcg ++ (strOfNums qhY))) else (none)) = some r := qe1; have qhp := ak_ hy_; clear hy_; obtain ⟨c7, H⟩ := qck H; have qgU := eq_true c7; have qmL := decide_eq_true c7
 try have c7b2 : (9223372036854775807 < qcg.size + (strOfNums qhY).size) = False := eq_false (Nat.not_lt.2 c7)
 obtain rfl := sj_ H; go_enter Tryz.func83, Tryz.ntmps83
 try go_wp2
 replace HB := ak_ (qah HB.out); refine qe6 (n := 11) (S := fun w' => True) (ds := []) (rA_ [0, 11]) (by kernel_rfl) rfl rfl trivial (fun hHeld => ?_); refine qdn qbr.tab3 qbr.bits3 (fun HT_ HW_ => ?_)
 generalize w.drew = w8 at HB hHeld ⊢
 refine pu_ 0 10 [1, 10] ?_; refine pu_ 1 11 [2, 9] ?_; refine pu_ 3 13 [2, 1, 1, 7] ?_; refine pu_ 4 14 [2, 1, 2, 6] ?_; refine pu_ 5 15 [2, 1, 3, 5] ?_; refine pu_ 6 16 [2, 1, 4, 4] ?_; refine qsJ (σ := Value) 2 (rA_ [9, 2]) (fun s_ => [(12, .string qcg), (17, s_), (18, .string (strOfNums qhY))]) (fun s_ w' => (Kd.R (Kd.int .u8) 5 w' w.heap.size (fun _ => True) s_ qhY) ∧ (Below w.heap.size w w')) ?_ ?_; rotate_left
 ·intro hCont; refine two_ (i := 2) (j := 7) (Ni := some 12) (Nj := some 17) (rA_ [7, 4]) (rA_ [2, 1, 5, 3]) rfl rfl rfl rfl (qqk HT_.out (by kernel_rfl)) (by decide) (by decide) (fun K hK => ?_) (fun K hK => ?_)
  ·skip
   refine qfR Tryz.func83 (by kernel_rfl) rfl #[.int .i64 (wrap64 (Int.tdiv a0 10))] (by rfl) rfl rfl qbK ?_
   with_reducible refine (ih k (by omega) (wrap64 (Int.tdiv a0 10)) qcg _ A6.out).mono ?_
   rintro e w9 ⟨rfl, hb⟩; refine ⟨_, rfl, ?_⟩; replace HB := HB.mw hb; (try clear hb); (try clear hb2); (try clear hk); (try clear hi); refine hK.out _ _ trivial (fun hHeld => ?_); clear hK K; refine nm_ 12 ?_; refine qfH (i := 7) (N := some 17) (rA_ [8, 3]) rfl rfl (qc4 HT_.out (by kernel_rfl)) (by decide) (fun K hK => ?_); refine Kd.qdS (Kd.int .u8) _ 5 ?hg (N := 17) ?hd (xs := ([(wrap64 (48 + (Int.tmod a0 10))) % 256] : List Int)) (inner := [.int .u8 ((wrap64 (48 + (Int.tmod a0 10))) % 256)]) (ok := fun _ => True) (okp := fun _ => True) ?hr ?hp (fun _ hk => hk) trivial (Below.refl _ _) (Nat.le_refl _) (by simp) ?_; (case hd => rfl); (case hg => rfl); (case hr => exact qbe); (case hp => exact (qef.one (show Kd.M (Kd.int .u8) _ _ _ ((wrap64 (48 + (Int.tmod a0 10))) % 256) [.int .u8 ((wrap64 (48 + (Int.tmod a0 10))) % 256)] from rfl) (qef.none _ _))); intro qq6 w10 qso hb hg_ hnew_; clear hg_ hnew_; (first | rw [← qhp.out] at qso | (simp only [Int.reduceToNat] at qso; rw [← qhp.out] at qso)); have qe2 := ak_ (Kd.qax qso (qab qan)); replace HB := HB.mw hb; clear hb qso; refine hK.out _ _ trivial (fun hHeld => ?_); clear hK K; refine nm_ 17 ?_; refine qfH (i := 8) (N := some 18) (rA_ [9, 2]) rfl rfl (qc4 HT_.out (by kernel_rfl)) (by decide) (fun K hK => ?_); have hcv12 := qhR (P := Tryz.prog) Tryz.underlying35 Tryz.underlying5 Tryz.underlying9 (Kd.qhQ qe2.out); refine qiL (w1 := ?_) (v := ?_) (by rfl) rfl ?_ ?_; rotate_left 2
   ·go_simp; constructor
    ·rfl
    rfl
   clear hcv12; refine hK.out _ _ trivial (fun hHeld => ?_); clear hK K; refine nm_ 18 ?_; exact qep qqN (hCont (qq6) _ ⟨(by apply_rules only [qe2.out, Kd.qap, Kd.qaq, Kd.qaw]), qan⟩)
  skip
  refine Kd.qdS (Kd.int .u8) _ 5 ?hg (N := 17) ?hd (xs := ([(wrap64 (48 + (Int.tmod a0 10))) % 256] : List Int)) (inner := [.int .u8 ((wrap64 (48 + (Int.tmod a0 10))) % 256)]) (ok := fun _ => True) (okp := fun _ => True) ?hr ?hp (fun _ hk => hk) trivial (Below.refl _ _) (Nat.le_refl _) (by simp) ?_; (case hd => rfl); (case hg => rfl); (case hr => exact qbe); (case hp => exact (qef.one (show Kd.M (Kd.int .u8) _ _ _ ((wrap64 (48 + (Int.tmod a0 10))) % 256) [.int .u8 ((wrap64 (48 + (Int.tmod a0 10))) % 256)] from rfl) (qef.none _ _))); intro qq6 w9 qly hb hg_ hnew_; clear hg_ hnew_; (first | rw [← qhp.out] at qly | (simp only [Int.reduceToNat] at qly; rw [← qhp.out] at qly)); have qe2 := ak_ (Kd.qax qly (qab qan)); replace HB := HB.mw hb; clear hb qly; refine hK.out _ _ trivial (fun hHeld => ?_); clear hK K; refine nm_ 17 ?_; refine two_ (i := 2) (j := 8) (Ni := some 12) (Nj := some 18) (rA_ [8, 3]) (rA_ [2, 1, 6, 2]) rfl rfl rfl rfl (qqk HT_.out (by kernel_rfl)) (by decide) (by decide) (fun K hK => ?_) (fun K hK => ?_)
  ·skip
   refine qfR Tryz.func83 (by kernel_rfl) rfl #[.int .i64 (wrap64 (Int.tdiv a0 10))] (by rfl) rfl rfl qbK ?_
   with_reducible refine (ih k (by omega) (wrap64 (Int.tdiv a0 10)) qcg _ A6.out).mono ?_
   rintro e w11 ⟨rfl, hb⟩; refine ⟨_, rfl, ?_⟩; replace qe2 := qe2.mw hb; replace HB := HB.mw hb; (try clear hb); (try clear hb2); (try clear hk); (try clear hi); refine hK.out _ _ trivial (fun hHeld => ?_); clear hK K; refine nm_ 12 ?_; refine qfH (i := 8) (N := some 18) (rA_ [9, 2]) rfl rfl (qc4 HT_.out (by kernel_rfl)) (by decide) (fun K hK => ?_); have hcv12 := qhR (P := Tryz.prog) Tryz.underlying35 Tryz.underlying5 Tryz.underlying9 (Kd.qhQ qe2.out); refine qiL (w1 := ?_) (v := ?_) (by rfl) rfl ?_ ?_; rotate_left 2
   ·go_simp; constructor
    ·rfl
    rfl
   clear hcv12; refine hK.out _ _ trivial (fun hHeld => ?_); clear hK K; refine nm_ 18 ?_; exact qep qqN (hCont (qq6) _ ⟨(by apply_rules only [qe2.out, Kd.qap, Kd.qaq, Kd.qaw]), qan⟩)
  skip
  have hcv11 := qhR (P := Tryz.prog) Tryz.underlying35 Tryz.underlying5 Tryz.underlying9 (Kd.qhQ qe2.out); refine qiL (w1 := ?_) (v := ?_) (by rfl) rfl ?_ ?_; rotate_left 2
  ·go_simp; constructor
   ·rfl
   rfl
  clear hcv11; refine hK.out _ _ trivial (fun hHeld => ?_); clear hK K; refine nm_ 18 ?_; refine qfH (i := 2) (N := some 12) (rA_ [9, 2]) rfl rfl (qc4 HT_.out (by kernel_rfl)) (by decide) (fun K hK => ?_); refine qfR Tryz.func83 (by kernel_rfl) rfl #[.int .i64 (wrap64 (Int.tdiv a0 10))] (by rfl) rfl rfl qbK ?_
  with_reducible refine (ih k (by omega) (wrap64 (Int.tdiv a0 10)) qcg _ A6.out).mono ?_
  rintro e w12 ⟨rfl, hb⟩; refine ⟨_, rfl, ?_⟩; replace qe2 := qe2.mw hb; replace HB := HB.mw hb; (try clear hb); (try clear hb2); (try clear hk); (try clear hi); refine hK.out _ _ trivial (fun hHeld => ?_); clear hK K; refine nm_ 12 ?_; exact qep qqN (hCont (qq6) _ ⟨(by apply_rules only [qe2.out, Kd.qap, Kd.qaq, Kd.qaw]), qan⟩)
 rintro qq6 w13 ⟨h0_, h1_⟩
 have n0_ : qag (Kd.R (Kd.int .u8) 5 w13 w.heap.size (fun _ => True) qq6 qhY) := ⟨h0_⟩
 have n1_ : qag (Below w.heap.size w w13) := ⟨h1_⟩
 clear HB; clear h0_ h1_; have qe2 := n0_; have HB := n1_; clear n0_ n1_; have hHeld := trivial; refine qep (a' := ?_) ?_ ?_; rotate_left
 ·simp only [qiH, Act.put, List.setIfInBounds_toArray, List.set_cons_zero, List.set_cons_succ]; rfl
 refine pu_ 9 19 [10, 1] ?_; refine pu_ 10 2 [11] ?_; refine qgu (qeC HT_.out (by kernel_rfl)) ?_
 try go_wp2
 go_ret
 exact ⟨qcf, qan⟩
def qbo.l0 : Nat → ByteArray → List (qac) → Int → Int → Option (ByteArray)
 | 0, _, _, _, _ => none
 | k + 1, x3, x9, x10, x11 => if x11 < x10 then (if 0 ≤ x11 then (if x11 < (x9.length : Int) then (if x11 > 0 then (if x3.size + 1 ≤ 9223372036854775807 then ((qbr.f k ((qae x9 x11).f0)).bind fun qce => (if qce.size + 1 ≤ 9223372036854775807 then ((qbr.f k ((qae x9 x11).f1)).bind fun qcg => (if (qce ++ (⟨#[58]⟩ : ByteArray)).size + qcg.size ≤ 9223372036854775807 then (if (x3 ++ (⟨#[44]⟩ : ByteArray)).size + ((qce ++ (⟨#[58]⟩ : ByteArray)) ++ qcg).size ≤ 9223372036854775807 then (qbo.l0 k ((x3 ++ (⟨#[44]⟩ : ByteArray)) ++ ((qce ++ (⟨#[58]⟩ : ByteArray)) ++ qcg)) x9 x10 (wrap64 (x11 + 1))) else (none)) else (none))) else (none))) else (none)) else ((qbr.f k ((qae x9 x11).f0)).bind fun t105 => (if t105.size + 1 ≤ 9223372036854775807 then ((qbr.f k ((qae x9 x11).f1)).bind fun qf4 => (if (t105 ++ (⟨#[58]⟩ : ByteArray)).size + qf4.size ≤ 9223372036854775807 then (if x3.size + ((t105 ++ (⟨#[58]⟩ : ByteArray)) ++ qf4).size ≤ 9223372036854775807 then (qbo.l0 k (x3 ++ ((t105 ++ (⟨#[58]⟩ : ByteArray)) ++ qf4)) x9 x10 (wrap64 (x11 + 1))) else (none)) else (none))) else (none)))) else (none)) else (none)) else (some x3)
def qbo.f (k : Nat) (l0 : List (qac)) : Option (ByteArray) := if (l0.length : Int) = 0 then (some (⟨#[45]⟩ : ByteArray)) else (qbo.l0 k (⟨#[]⟩ : ByteArray) l0 (l0.length : Int) 0)
def qbo.T9 : Bool × List (List Nat × List Nat) := (true, [([], []), ([], []), ([1], [1]), ([2], [2]), ([3], [3]), ([], []), ([5], [5]), ([6, 3], [6]), ([4, 7], [4, 7]), ([0, 8], [0, 8]), ([9, 7, 0, 1, 2, 3, 4, 5, 6, 7, 8, 9], [0, 9])])
def qbo.B9 : List Nat := [0, 0, 2, 6, 14, 0, 32, 110, 254, 511, 1023]
theorem qbo.tab9 : qhS .any (opsOf Tryz.f207 9) = qbo.T9 := by kernel_rfl
theorem qbo.bits9 : qeU qbo.T9.2 qbo.B9 = true := by kernel_rfl
theorem qbo.calls (k : Nat) (A0 : Option Addr) (c0 : Nat) (l0 : List (qac)) (r : ByteArray) (w : World) (hr0 : Kd.C qaL w A0 l0.length l0) (hc0 : l0.length ≤ c0) (h : qbo.f k l0 = some r) :
  Calls Tryz.prog 207 #[.slice A0 l0.length c0] w fun e w' => e = .returned (.string r) ∧ Below w.heap.size w w' := by
 have qmM := Tryz.underlying85; have HR0 := ak_ hr0; have HC0 := ak_ hc0; clear hr0 hc0; have HB := br_ w; have H : (if (l0.length : Int) = 0 then (some (⟨#[45]⟩ : ByteArray)) else (qbo.l0 k (⟨#[]⟩ : ByteArray) l0 (l0.length : Int) 0)) = some r := h; clear h; by_cases c2 : (l0.length : Int) = 0
 ·rw [if_pos c2] at H; have qfr : ((l0.length : Int) == 0) = true := beq_iff_eq.mpr c2; have qm3 : ((l0.length : Int) != 0) = false := bne_eq_false_iff_eq.mpr c2; clear c2; obtain rfl := sj_ H; go_enter Tryz.func207, Tryz.ntmps207; go_wp2
  go_ret
  exact ⟨qcf, qan⟩
 rw [if_neg c2] at H; have qfr : ((l0.length : Int) == 0) = false := beq_eq_false_iff_ne.mpr c2; have qm3 : ((l0.length : Int) != 0) = true := bne_iff_ne.mpr c2
 have c2b2 : ¬ (l0 = []) := fun h_ => c2 (by rw [h_]; rfl)
 have H' := ak_ H; clear H; go_enter Tryz.func207, Tryz.ntmps207; go_wp2
 go_loopg [3, 11] k (fun kq v3 v11 w' => ∃ (qbx : ByteArray) (qcs : Int), v3 = .string qbx ∧ v11 = .int .i64 qcs ∧ qag (qbo.l0 kq qbx l0 (l0.length : Int) qcs = some r) ∧ qag (kq ≤ k) ∧ qag (Below w.heap.size w w'))
 case atStart => exact ⟨((⟨#[]⟩ : ByteArray)), (0), qav, qav, H', ⟨Nat.le_refl _⟩, ⟨qan⟩⟩
 case round =>
  clear H'; (try clear c2); (try clear qfr); (try clear qm3); (try clear c2b2); obtain ⟨qbx, qcs, rfl, rfl, HA, HK1, HB⟩ := hrel
  cases gk with
  | zero => exact absurd HA.out (by simp [qbo.l0])
  | succ k1 =>
   have H := HA.out; clear HA; simp only [qbo.l0] at H; by_cases c3 : qcs < (l0.length : Int); rotate_left
   ·rw [if_neg c3] at H; have qfk := decide_eq_false c3; clear c3; obtain rfl := sj_ H; go_wp2
    go_ret
    exact ⟨qcf, qan⟩
   rw [if_pos c3] at H; have qfk := decide_eq_true c3; clear c3; obtain ⟨c4, H⟩ := qck H; have qfx := decide_eq_true c4; clear c4; obtain ⟨c5, H⟩ := qck H; have qgJ := decide_eq_true c5; clear c5; by_cases c6 : qcs > 0; rotate_left
   ·rw [if_neg c6] at H; have qgk : decide (0 < qcs) = false := decide_eq_false c6; clear c6; obtain ⟨t105, A19, H⟩ := qay H; (try dsimp only at H); obtain ⟨c20, H⟩ := qck H; have c20b0 := eq_true c20; have c20b1 := decide_eq_true c20
    try have c20b2 : (9223372036854775807 < t105.size + 1) = False := eq_false (Nat.not_lt.2 c20)
    obtain ⟨qf4, A21, H⟩ := qay H; (try dsimp only at H); obtain ⟨c22, H⟩ := qck H; have c22b0 := eq_true c22; have c22b1 := decide_eq_true c22
    try have c22b2 : (9223372036854775807 < (t105 ++ (⟨#[58]⟩ : ByteArray)).size + qf4.size) = False := eq_false (Nat.not_lt.2 c22)
    have c22b3 := c22b2; simp only [ByteArray.size_append, show (⟨#[44]⟩ : ByteArray).size = 1 from rfl, show (⟨#[47]⟩ : ByteArray).size = 1 from rfl, show (⟨#[58]⟩ : ByteArray).size = 1 from rfl] at c22b3; obtain ⟨c23, H⟩ := qck H; have c23b0 := eq_true c23; have c23b1 := decide_eq_true c23
    try have c23b2 : (9223372036854775807 < qbx.size + ((t105 ++ (⟨#[58]⟩ : ByteArray)) ++ qf4).size) = False := eq_false (Nat.not_lt.2 c23)
    have c23b3 := c23b2; simp only [ByteArray.size_append, show (⟨#[44]⟩ : ByteArray).size = 1 from rfl, show (⟨#[47]⟩ : ByteArray).size = 1 from rfl, show (⟨#[58]⟩ : ByteArray).size = 1 from rfl] at c23b3; have H' := ak_ H; clear H; have qeE : 0 ≤ (qcs : Int) := of_decide_eq_true qaO; have qeN : qcs < (l0.length : Int) := of_decide_eq_true qaO; obtain ⟨qhf, qhh, qbw, qcq⟩ := qdW HR0.out qcs qeE qeN
    cases qhh
    replace qbw := (HB.out.cell (World.block_lt_of_cell? w _ qbw)).trans qbw; replace qcq := (HB.out.cell (World.block_lt_of_cell? w _ qcq)).trans qcq; replace qeE := eq_true qeE; replace qeN := eq_true qeN
    try go_wp2_with (first | ((with_reducible refine qal (N := 5) rfl ?_); refine bx_ 5 rfl (cs := #[.int .i64 0, .int .i64 0]) (t := 85) qbe ?_; intro qej hg w24 hbox hb; have qct := ak_ (hbox); have qgr := ak_ (HB.ge hg); have qgl := ak_ (HB.ge hg); replace HB := HB.mw hb; clear hb hbox hg; obtain ⟨hcz25_0, hcz25_1, hfz25_0, hfz25_1⟩ := qbG qct.out))
    have n0_ : qag (((w24.setCell ⟨qej, 0, none⟩ (.int .i64 ((qae l0 qcs).f0))).setCell ⟨qej, 1, none⟩ (.int .i64 ((qae l0 qcs).f1))).heap[qej]? = some (.cells #[.int .i64 ((qae l0 qcs).f0), .int .i64 ((qae l0 qcs).f1)] 85 (0, 0))) := ⟨k3_⟩
    have n1_ : qag (Below w.heap.size w ((w24.setCell ⟨qej, 0, none⟩ (.int .i64 ((qae l0 qcs).f0))).setCell ⟨qej, 1, none⟩ (.int .i64 ((qae l0 qcs).f1)))) := ⟨qmN⟩
    (try clear qct); (try clear HB)
    generalize ((w24.setCell ⟨qej, 0, none⟩ (.int .i64 ((qae l0 qcs).f0))).setCell ⟨qej, 1, none⟩ (.int .i64 ((qae l0 qcs).f1))) = w26 at n0_ n1_ ⊢
    have qct := n0_; have HB := n1_; clear n0_ n1_; replace qct := ak_ (qam qct.out); replace HB := ak_ (qah HB.out); refine qe6 (n := 11) (S := fun w' => w'.cell? ⟨qej, 0, none⟩ = some (.int .i64 ((qae l0 qcs).f0)) ∧ w'.cell? ⟨qej, 1, none⟩ = some (.int .i64 ((qae l0 qcs).f1))) (ds := []) (rA_ [0, 11]) (by kernel_rfl) rfl rfl ⟨qed qct.out, qbC qct.out⟩ (fun hHeld => ?_); refine qdn qbo.tab9 qbo.bits9 (fun HT_ HW_ => ?_)
    generalize w26.drew = w27 at qct HB hHeld ⊢
    refine pu_ 0 20 [1, 10] ?_; refine pu_ 1 21 [2, 9] ?_; refine pu_ 5 25 [2, 3, 1, 5] ?_; refine qis 2 22 [3, 2, 1, 5] ?_; refine qis 6 26 [3, 2, 2, 4] ?_; refine qfH (i := 3) (N := some 23) (rA_ [4, 1, 2, 4]) rfl rfl (qc4 HT_.out (by kernel_rfl)) (by decide) (fun K hK => ?_); refine qfR Tryz.func83 (by kernel_rfl) rfl #[.int .i64 ((qae l0 qcs).f0)] (by rfl) rfl rfl qbK ?_
    with_reducible refine (qbr.calls k1 ((qae l0 qcs).f0) t105 _ A19.out).mono ?_
    rintro e w28 ⟨rfl, hb⟩; refine ⟨_, rfl, ?_⟩; replace qct := qct.mw hb; replace HB := ak_ (qaa qmN hb); (try clear hb); (try clear hb2); (try clear hk); (try clear hi); refine hK.out _ _ ⟨qed qct.out, qbC qct.out⟩ (fun hHeld => ?_); clear hK K; refine nm_ 23 ?_; refine pu_ 4 24 [7, 4] ?_; refine qfH (i := 7) (N := some 27) (rA_ [8, 3]) rfl rfl (qc4 HT_.out (by kernel_rfl)) (by decide) (fun K hK => ?_); refine qfR Tryz.func83 (by kernel_rfl) rfl #[.int .i64 ((qae l0 qcs).f1)] (by rfl) rfl rfl qbK ?_
    with_reducible refine (qbr.calls k1 ((qae l0 qcs).f1) qf4 _ A21.out).mono ?_
    rintro e w29 ⟨rfl, hb⟩; refine ⟨_, rfl, ?_⟩; replace qct := qct.mw hb; replace HB := ak_ (qaa qmN hb); (try clear hb); (try clear hb2); (try clear hk); (try clear hi); refine hK.out _ _ ⟨qed qct.out, qbC qct.out⟩ (fun hHeld => ?_); clear hK K; refine nm_ 27 ?_; refine pu_ 8 28 [9, 2] ?_; refine pu_ 9 29 [10, 1] ?_; refine pu_ 10 3 [11] ?_; refine qgu (qeC HT_.out (by kernel_rfl)) ?_
    try go_wp2
    go_roundg k1
    case measure => have := HK1.out; omega
    case rel => exact ⟨(qbx ++ ((t105 ++ (⟨#[58]⟩ : ByteArray)) ++ qf4)), (wrap64 (qcs + 1)), qav, qav, H', ⟨qcW⟩, ⟨qmN⟩⟩
   rw [if_pos c6] at H; have qgk : decide (0 < qcs) = true := decide_eq_true c6; clear c6; obtain ⟨c7, H⟩ := qck H; have qgU := eq_true c7; have qmL := decide_eq_true c7
   try have c7b2 : (9223372036854775807 < qbx.size + 1) = False := eq_false (Nat.not_lt.2 c7)
   obtain ⟨qce, A8, H⟩ := qay H; (try dsimp only at H); obtain ⟨c9, H⟩ := qck H; have qln := eq_true c9; have c9b1 := decide_eq_true c9
   try have c9b2 : (9223372036854775807 < qce.size + 1) = False := eq_false (Nat.not_lt.2 c9)
   obtain ⟨qcg, A10, H⟩ := qay H; (try dsimp only at H); obtain ⟨c11, H⟩ := qck H; have qfQ := eq_true c11; have qgT := decide_eq_true c11
   try have qrD : (9223372036854775807 < (qce ++ (⟨#[58]⟩ : ByteArray)).size + qcg.size) = False := eq_false (Nat.not_lt.2 c11)
   have c11b3 := qrD; simp only [ByteArray.size_append, show (⟨#[44]⟩ : ByteArray).size = 1 from rfl, show (⟨#[47]⟩ : ByteArray).size = 1 from rfl, show (⟨#[58]⟩ : ByteArray).size = 1 from rfl] at c11b3; obtain ⟨c12, H⟩ := qck H; have qhg := eq_true c12; have c12b1 := decide_eq_true c12
   try have c12b2 : (9223372036854775807 < (qbx ++ (⟨#[44]⟩ : ByteArray)).size + ((qce ++ (⟨#[58]⟩ : ByteArray)) ++ qcg).size) = False := eq_false (Nat.not_lt.2 c12)
   have c12b3 := c12b2; simp only [ByteArray.size_append, show (⟨#[44]⟩ : ByteArray).size = 1 from rfl, show (⟨#[47]⟩ : ByteArray).size = 1 from rfl, show (⟨#[58]⟩ : ByteArray).size = 1 from rfl] at c12b3; have H' := ak_ H; clear H; have qeE : 0 ≤ (qcs : Int) := of_decide_eq_true qaO; have qeN : qcs < (l0.length : Int) := of_decide_eq_true qaO; obtain ⟨qhf, qhh, qbw, qcq⟩ := qdW HR0.out qcs qeE qeN
   cases qhh
   replace qbw := (HB.out.cell (World.block_lt_of_cell? w _ qbw)).trans qbw; replace qcq := (HB.out.cell (World.block_lt_of_cell? w _ qcq)).trans qcq; replace qeE := eq_true qeE; replace qeN := eq_true qeN
   try go_wp2_with (first | ((with_reducible refine qal (N := 5) rfl ?_); refine bx_ 5 rfl (cs := #[.int .i64 0, .int .i64 0]) (t := 85) qbe ?_; intro qej hg w13 hbox hb; have qct := ak_ (hbox); have qgr := ak_ (HB.ge hg); have qgl := ak_ (HB.ge hg); replace HB := HB.mw hb; clear hb hbox hg; obtain ⟨hcz14_0, hcz14_1, hfz14_0, hfz14_1⟩ := qbG qct.out))
   have n0_ : qag (((w13.setCell ⟨qej, 0, none⟩ (.int .i64 ((qae l0 qcs).f0))).setCell ⟨qej, 1, none⟩ (.int .i64 ((qae l0 qcs).f1))).heap[qej]? = some (.cells #[.int .i64 ((qae l0 qcs).f0), .int .i64 ((qae l0 qcs).f1)] 85 (0, 0))) := ⟨k3_⟩
   have n1_ : qag (Below w.heap.size w ((w13.setCell ⟨qej, 0, none⟩ (.int .i64 ((qae l0 qcs).f0))).setCell ⟨qej, 1, none⟩ (.int .i64 ((qae l0 qcs).f1)))) := ⟨qmN⟩
   (try clear qct); (try clear HB)
   generalize ((w13.setCell ⟨qej, 0, none⟩ (.int .i64 ((qae l0 qcs).f0))).setCell ⟨qej, 1, none⟩ (.int .i64 ((qae l0 qcs).f1))) = w15 at n0_ n1_ ⊢
   have qct := n0_; have HB := n1_; clear n0_ n1_; replace qct := ak_ (qam qct.out); replace HB := ak_ (qah HB.out); refine qe6 (n := 11) (S := fun w' => w'.cell? ⟨qej, 0, none⟩ = some (.int .i64 ((qae l0 qcs).f0)) ∧ w'.cell? ⟨qej, 1, none⟩ = some (.int .i64 ((qae l0 qcs).f1))) (ds := []) (rA_ [0, 11]) (by kernel_rfl) rfl rfl ⟨qed qct.out, qbC qct.out⟩ (fun hHeld => ?_); refine qdn qbo.tab9 qbo.bits9 (fun HT_ HW_ => ?_)
   generalize w15.drew = w16 at qct HB hHeld ⊢
   refine pu_ 0 20 [1, 10] ?_; refine pu_ 1 21 [2, 9] ?_; refine pu_ 5 25 [2, 3, 1, 5] ?_; refine qis 2 22 [3, 2, 1, 5] ?_; refine qis 6 26 [3, 2, 2, 4] ?_; refine qfH (i := 3) (N := some 23) (rA_ [4, 1, 2, 4]) rfl rfl (qc4 HT_.out (by kernel_rfl)) (by decide) (fun K hK => ?_); refine qfR Tryz.func83 (by kernel_rfl) rfl #[.int .i64 ((qae l0 qcs).f0)] (by rfl) rfl rfl qbK ?_
   with_reducible refine (qbr.calls k1 ((qae l0 qcs).f0) qce _ A8.out).mono ?_
   rintro e w17 ⟨rfl, hb⟩; refine ⟨_, rfl, ?_⟩; replace qct := qct.mw hb; replace HB := ak_ (qaa qmN hb); (try clear hb); (try clear hb2); (try clear hk); (try clear hi); refine hK.out _ _ ⟨qed qct.out, qbC qct.out⟩ (fun hHeld => ?_); clear hK K; refine nm_ 23 ?_; refine pu_ 4 24 [7, 4] ?_; refine qfH (i := 7) (N := some 27) (rA_ [8, 3]) rfl rfl (qc4 HT_.out (by kernel_rfl)) (by decide) (fun K hK => ?_); refine qfR Tryz.func83 (by kernel_rfl) rfl #[.int .i64 ((qae l0 qcs).f1)] (by rfl) rfl rfl qbK ?_
   with_reducible refine (qbr.calls k1 ((qae l0 qcs).f1) qcg _ A10.out).mono ?_
   rintro e w18 ⟨rfl, hb⟩; refine ⟨_, rfl, ?_⟩; replace qct := qct.mw hb; replace HB := ak_ (qaa qmN hb); (try clear hb); (try clear hb2); (try clear hk); (try clear hi); refine hK.out _ _ ⟨qed qct.out, qbC qct.out⟩ (fun hHeld => ?_); clear hK K; refine nm_ 27 ?_; refine pu_ 8 28 [9, 2] ?_; refine pu_ 9 29 [10, 1] ?_; refine pu_ 10 3 [11] ?_; refine qgu (qeC HT_.out (by kernel_rfl)) ?_
   try go_wp2
   go_roundg k1
   case measure => have := HK1.out; omega
   case rel => exact ⟨((qbx ++ (⟨#[44]⟩ : ByteArray)) ++ ((qce ++ (⟨#[58]⟩ : ByteArray)) ++ qcg)), (wrap64 (qcs + 1)), qav, qav, H', ⟨qcW⟩, ⟨qmN⟩⟩
def qfc.f (qbP : Int) (qcz : Int) : Option (Bool) := (qbi.f qbP 2 60).bind fun qaR => (if qaR = true then ((qbi.f qcz 0 (wrap64 (qbP - 1))).bind fun qce => (some qce)) else (some false))
theorem qfc.calls (qbP : Int) (qcz : Int) (r : Bool) (w : World) (h : qfc.f qbP qcz = some r) :
  Calls Tryz.prog 92 #[.agg #[.int .i64 qbP, .int .i64 qcz]] w fun e w' => e = .returned (.bool r) ∧ Below w.heap.size w w' := by
 have qmM := Tryz.underlying85; have HB := br_ w; have H : ((qbi.f qbP 2 60).bind fun qaR => (if qaR = true then ((qbi.f qcz 0 (wrap64 (qbP - 1))).bind fun qce => (some qce)) else (some false))) = some r := h; clear h; obtain ⟨qaR, A2, H⟩ := qay H; (try dsimp only at H); by_cases c3 : qaR = true
 ·subst c3; rw [if_pos rfl] at H; obtain ⟨qce, A4, H⟩ := qay H; (try dsimp only at H); obtain rfl := sj_ H; go_enter Tryz.func92, Tryz.ntmps92
  go_wp2_with (first | ((with_reducible refine qal (N := 1) rfl ?_); refine bx_ 1 rfl (cs := #[.int .i64 qbP, .int .i64 qcz]) (t := 85) qbe ?_; intro qb6 hg w5 hbox hb; have qaG := ak_ (hbox); have qeO := ak_ (HB.ge hg); have qem := ak_ (HB.ge hg); replace HB := HB.mw hb; clear hb hbox hg; obtain ⟨qkg, qkh, qkm, qkn⟩ := qbG qaG.out) | (refine gl_ 5 Tryz.func93 #[.int .i64 qbP, .int .i64 2, .int .i64 60] rfl qbK ?_; (with_reducible refine (qbi.calls qbP 2 60 true _ A2.out).mono ?_); rintro e w' ⟨rfl, ⟨nd, rfl⟩⟩; refine ⟨_, rfl, ?_⟩) | (go_at_call 93; (with_reducible refine (qbi.calls qcz 0 (wrap64 (qbP - 1)) qce _ A4.out).mono ?_); rintro e w' ⟨rfl, ⟨nd, rfl⟩⟩))
  go_ret
  exact ⟨qcf, qds⟩
 replace c3 := Bool.eq_false_iff.mpr c3; subst c3; rw [if_neg ff_] at H; obtain rfl := sj_ H; go_enter Tryz.func92, Tryz.ntmps92
 go_wp2_with (first | ((with_reducible refine qal (N := 1) rfl ?_); refine bx_ 1 rfl (cs := #[.int .i64 qbP, .int .i64 qcz]) (t := 85) qbe ?_; intro qb6 hg w7 hbox hb; have qaG := ak_ (hbox); have qeO := ak_ (HB.ge hg); have qem := ak_ (HB.ge hg); replace HB := HB.mw hb; clear hb hbox hg; obtain ⟨qno, qnp, qnq, qnr⟩ := qbG qaG.out) | (refine gl_ 5 Tryz.func93 #[.int .i64 qbP, .int .i64 2, .int .i64 60] rfl qbK ?_; (with_reducible refine (qbi.calls qbP 2 60 false _ A2.out).mono ?_); rintro e w' ⟨rfl, ⟨nd, rfl⟩⟩; refine ⟨_, rfl, ?_⟩))
 go_ret
 exact ⟨qcf, qds⟩
def qaP.l0 : Nat → List (qac) → Int → Int → Option (Bool)
 | 0, _, _, _ => none
 | k + 1, x8, x9, x10 => if x10 < x9 then (if 0 ≤ x10 then (if x10 < (x8.length : Int) then ((qfc.f ((qae x8 x10).f0) ((qae x8 x10).f1)).bind fun qce => (if qce = true then (qaP.l0 k x8 x9 (wrap64 (x10 + 1))) else (some false))) else (none)) else (none)) else (some true)
def qaP.f (k : Nat) (l0 : List (qac)) : Option (Bool) := if (l0.length : Int) > 12 then (some false) else (qaP.l0 k l0 (l0.length : Int) 0)
theorem qaP.calls (k : Nat) (A0 : Option Addr) (c0 : Nat) (l0 : List (qac)) (r : Bool) (w : World) (hr0 : Kd.C qaL w A0 l0.length l0) (hc0 : l0.length ≤ c0) (h : qaP.f k l0 = some r) :
  Calls Tryz.prog 60 #[.slice A0 l0.length c0] w fun e w' => e = .returned (.bool r) ∧ Below w.heap.size w w' := by
 have qmM := Tryz.underlying85; have HR0 := ak_ hr0; have HC0 := ak_ hc0; clear hr0 hc0; have HB := br_ w; have H : (if (l0.length : Int) > 12 then (some false) else (qaP.l0 k l0 (l0.length : Int) 0)) = some r := h; clear h; by_cases c2 : (l0.length : Int) > 12
 ·rw [if_pos c2] at H; have qfr : decide (12 < (l0.length : Int)) = true := decide_eq_true c2; have qm3 : decide (12 < l0.length) = true := decide_eq_true (by omega); clear c2; obtain rfl := sj_ H; go_enter Tryz.func60, Tryz.ntmps60; go_wp2
  go_ret
  exact ⟨qcf, qan⟩
 rw [if_neg c2] at H; have qfr : decide (12 < (l0.length : Int)) = false := decide_eq_false c2; have qm3 : decide (12 < l0.length) = false := decide_eq_false (by omega); clear c2; have H' := ak_ H; clear H; go_enter Tryz.func60, Tryz.ntmps60; go_wp2
 go_loopg [10] k (fun kq v10 w' => ∃ (qcQ : Int), v10 = .int .i64 qcQ ∧ qag (qaP.l0 kq l0 (l0.length : Int) qcQ = some r) ∧ qag (kq ≤ k) ∧ qag (Below w.heap.size w w'))
 case atStart => exact ⟨(0), qav, H', ⟨Nat.le_refl _⟩, ⟨qan⟩⟩
 case round =>
  clear H'; (try clear c2); (try clear qfr); (try clear qm3); obtain ⟨qcQ, rfl, HA, HK1, HB⟩ := hrel
  cases gk with
  | zero => exact absurd HA.out (by simp [qaP.l0])
  | succ k1 =>
   have H := HA.out; clear HA; simp only [qaP.l0] at H; by_cases c3 : qcQ < (l0.length : Int); rotate_left
   ·rw [if_neg c3] at H; have qfk := decide_eq_false c3; clear c3; obtain rfl := sj_ H; go_wp2
    go_ret
    exact ⟨qcf, qan⟩
   rw [if_pos c3] at H; have qfk := decide_eq_true c3; clear c3; obtain ⟨c4, H⟩ := qck H; have qfx := decide_eq_true c4; clear c4; obtain ⟨c5, H⟩ := qck H; have qgJ := decide_eq_true c5; clear c5; obtain ⟨qce, A6, H⟩ := qay H; (try dsimp only at H); by_cases c7 : qce = true
   ·subst c7; rw [if_pos rfl] at H; have H' := ak_ H; clear H; have qeE : 0 ≤ (qcQ : Int) := of_decide_eq_true qaO; have qeN : qcQ < (l0.length : Int) := of_decide_eq_true qaO; obtain ⟨qhf, qhh, qbw, qcq⟩ := qdW HR0.out qcQ qeE qeN
    cases qhh
    replace qbw := (HB.out.cell (World.block_lt_of_cell? w _ qbw)).trans qbw; replace qcq := (HB.out.cell (World.block_lt_of_cell? w _ qcq)).trans qcq; replace qeE := eq_true qeE; replace qeN := eq_true qeN
    go_wp2_with (first | ((with_reducible refine qal (N := 4) rfl ?_); refine bx_ 4 rfl (cs := #[.int .i64 0, .int .i64 0]) (t := 85) qbe ?_; intro qej hg w8 hbox hb; have qct := ak_ (hbox); have qgr := ak_ (HB.ge hg); have qgl := ak_ (HB.ge hg); replace HB := HB.mw hb; clear hb hbox hg; obtain ⟨qhx, qhy, qhz, qhA⟩ := qbG qct.out) | (refine gl_ 15 Tryz.func92 #[.agg #[.int .i64 ((qae l0 qcQ).f0), .int .i64 ((qae l0 qcQ).f1)]] rfl qbK ?_; (with_reducible refine (qfc.calls ((qae l0 qcQ).f0) ((qae l0 qcQ).f1) true _ A6.out).mono ?_); rintro e w10 ⟨rfl, hb⟩; refine ⟨_, rfl, ?_⟩; replace qct := ak_ (qar (g := qej) (o := .cells #[.int .i64 ((qae l0 qcQ).f0), .int .i64 ((qae l0 qcQ).f1)] 85 (0, 0)) k2_ hb); replace HB := ak_ (qaa qmN hb); (try clear hb)))
    go_roundg k1
    case measure => have := HK1.out; omega
    case rel => exact ⟨(wrap64 (qcQ + 1)), qav, H', ⟨qcW⟩, ⟨qmN⟩⟩
   replace c7 := Bool.eq_false_iff.mpr c7; subst c7; rw [if_neg ff_] at H; obtain rfl := sj_ H; have qeE : 0 ≤ (qcQ : Int) := of_decide_eq_true qaO; have qeN : qcQ < (l0.length : Int) := of_decide_eq_true qaO; obtain ⟨qhf, qhh, qbw, qcq⟩ := qdW HR0.out qcQ qeE qeN
   cases qhh
   replace qbw := (HB.out.cell (World.block_lt_of_cell? w _ qbw)).trans qbw; replace qcq := (HB.out.cell (World.block_lt_of_cell? w _ qcq)).trans qcq; replace qeE := eq_true qeE; replace qeN := eq_true qeN
   go_wp2_with (first | ((with_reducible refine qal (N := 4) rfl ?_); refine bx_ 4 rfl (cs := #[.int .i64 0, .int .i64 0]) (t := 85) qbe ?_; intro qej hg w11 hbox hb; have qct := ak_ (hbox); have qgr := ak_ (HB.ge hg); have qgl := ak_ (HB.ge hg); replace HB := HB.mw hb; clear hb hbox hg; obtain ⟨qoD, qoE, qoK, qoL⟩ := qbG qct.out) | (refine gl_ 15 Tryz.func92 #[.agg #[.int .i64 ((qae l0 qcQ).f0), .int .i64 ((qae l0 qcQ).f1)]] rfl qbK ?_; (with_reducible refine (qfc.calls ((qae l0 qcQ).f0) ((qae l0 qcQ).f1) false _ A6.out).mono ?_); rintro e w13 ⟨rfl, hb⟩; refine ⟨_, rfl, ?_⟩; replace qct := ak_ (qar (g := qej) (o := .cells #[.int .i64 ((qae l0 qcQ).f0), .int .i64 ((qae l0 qcQ).f1)] 85 (0, 0)) k2_ hb); replace HB := ak_ (qaa qmN hb); (try clear hb)))
   go_ret
   exact ⟨qcf, qmN⟩
mutual
def qaJ.l0 : Nat → ByteArray → List (qac) → Int → Int → Int → Option ((List (qac)) × Bool)
 | 0, _, _, _, _, _ => none
 | k + 1, x0, x4, x5, x6, x7 => if x7 ≤ (x0.size : Int) then (if x7 = (x0.size : Int) then (qaJ.j1 k x0 x4 x5 x6 x7 true) else (if 0 ≤ x7 then (if x7 < (x0.size : Int) then (qaJ.j1 k x0 x4 x5 x6 x7 ((bt x0 x7) == 44)) else (none)) else (none))) else ((qaP.f k x4).bind fun qat => (if qat = true then ((qbo.f k x4).bind fun qaR => (some (x4, (qaR.toList == x0.toList)))) else (some (x4, false))))
def qaJ.j1 : Nat → ByteArray → List (qac) → Int → Int → Int → Bool → Option ((List (qac)) × Bool)
 | 0, _, _, _, _, _, _ => none
 | k + 1, x0, x4, x5, x6, x7, x19 => if x19 = true then (if x4.length < 8796093022208 then (qaJ.l0 k x0 (x4 ++ [(⟨x6, x5⟩ : qac)]) 0 0 (wrap64 (x7 + 1))) else (none)) else (if 0 ≤ x7 then (if x7 < (x0.size : Int) then (if (bt x0 x7) = 58 then (qaJ.l0 k x0 x4 0 x5 (wrap64 (x7 + 1))) else (if (bt x0 x7) ≥ 48 then (if (bt x0 x7) ≤ 57 then ((qfe.f 1000 (wrap64 ((wrap64 (10 * x5)) + (((bt x0 x7) - 48) % 256)))).bind fun qf4 => (qaJ.l0 k x0 x4 qf4 x6 (wrap64 (x7 + 1)))) else (qaJ.l0 k x0 x4 x5 x6 (wrap64 (x7 + 1)))) else (qaJ.l0 k x0 x4 x5 x6 (wrap64 (x7 + 1))))) else (none)) else (none))
end
def qaJ.f (k : Nat) (a0 : ByteArray) : Option ((List (qac)) × Bool) := if a0.toList = ([45] : List UInt8) then (some (([] : List (qac)), true)) else (if (a0.size : Int) > 72 then (some (([] : List (qac)), false)) else (qaJ.l0 k a0 ([] : List (qac)) 0 0 0))
theorem qaJ.calls (k : Nat) (a0 : ByteArray) (r1 : List (qac)) (r2 : Bool) (w : World) (h : qaJ.f k a0 = some (r1, r2)) :
  Calls Tryz.prog 151 #[.string a0] w fun e w' => ∃ v0_ : Value, e = .returned (.tuple #[v0_, .bool r2]) ∧ Kd.R qaL 85 w' w.heap.size (fun _ => True) v0_ r1 ∧ Below w.heap.size w w' := by
 have qmM := Tryz.underlying85; have HB := br_ w; have H : (if a0.toList = ([45] : List UInt8) then (some (([] : List (qac)), true)) else (if (a0.size : Int) > 72 then (some (([] : List (qac)), false)) else (qaJ.l0 k a0 ([] : List (qac)) 0 0 0))) = some (r1, r2) := h; clear h; by_cases c2 : a0.toList = ([45] : List UInt8)
 ·rw [if_pos c2] at H; have qfr : (a0.toList == ([45] : List UInt8)) = true := beq_iff_eq.mpr c2; have qm3 : (a0.toList != ([45] : List UInt8)) = false := bne_eq_false_iff_eq.mpr c2; clear c2; obtain ⟨rfl, rfl⟩ := qdF H; go_enter Tryz.func151, Tryz.ntmps151; go_wp2
  go_ret2
  exact ⟨_, qcf, qgN, qan⟩
 rw [if_neg c2] at H; have qfr : (a0.toList == ([45] : List UInt8)) = false := beq_eq_false_iff_ne.mpr c2; have qm3 : (a0.toList != ([45] : List UInt8)) = true := bne_iff_ne.mpr c2; by_cases c3 : (a0.size : Int) > 72
 ·rw [if_pos c3] at H; have qfk : decide (72 < (a0.size : Int)) = true := decide_eq_true c3; have qmb : decide (72 < a0.size) = true := decide_eq_true (by omega); clear c3; obtain ⟨rfl, rfl⟩ := qdF H; go_enter Tryz.func151, Tryz.ntmps151; go_wp2
  go_ret2
  exact ⟨_, qcf, qgN, qan⟩
 rw [if_neg c3] at H; have qfk : decide (72 < (a0.size : Int)) = false := decide_eq_false c3; have qmb : decide (72 < a0.size) = false := decide_eq_false (by omega); clear c3; have H' := ak_ H; clear H; go_enter Tryz.func151, Tryz.ntmps151; go_wp2
 go_loopg [4, 5, 6, 7] k (fun kq v4 v5 v6 v7 w' => ∃ (qcM : List (qac)) (qcn : Int) (qdl : Int) (qc5 : Int), v5 = .int .i64 qcn ∧ v6 = .int .i64 qdl ∧ v7 = .int .i64 qc5 ∧ qag (qaJ.l0 kq a0 qcM qcn qdl qc5 = some (r1, r2)) ∧ qag (kq ≤ k) ∧ qag (Kd.R qaL 85 w' w.heap.size (fun _ => True) v4 qcM) ∧ qag (Below w.heap.size w w'))
 case atStart => exact ⟨(([] : List (qac))), (0), (0), (0), qav, qav, qav, H', ⟨Nat.le_refl _⟩, ⟨qgN⟩, ⟨qan⟩⟩
 case round =>
  clear H'; (try clear c2); (try clear qfr); (try clear qm3); (try clear c3); (try clear qfk); (try clear qmb); obtain ⟨qcM, qcn, qdl, qc5, rfl, rfl, rfl, HA, HK1, qdk, HB⟩ := hrel
  cases gk with
  | zero => exact absurd HA.out (by simp [qaJ.l0])
  | succ k1 =>
   have H := HA.out; clear HA; simp only [qaJ.l0] at H; by_cases c4 : qc5 ≤ (a0.size : Int); rotate_left
   ·rw [if_neg c4] at H; have qfx := decide_eq_false c4; clear c4; obtain ⟨qat, A23, H⟩ := qay H; (try dsimp only at H); by_cases c24 : qat = true
    ·subst c24; rw [if_pos rfl] at H; obtain ⟨qaR, A25, H⟩ := qay H; (try dsimp only at H); obtain ⟨rfl, rfl⟩ := qdF H; obtain ⟨Ao26, co26, eo26⟩ := Kd.qaI qdk.out; subst eo26
     go_wp2_with (first | (refine gl_ 64 Tryz.func60 #[.slice Ao26 qcM.length co26] rfl qbK ?_; (with_reducible refine (qaP.calls k1 _ _ qcM true _ ?qaA ?qaB A23.out).mono ?_); (case qaA => exact k42_); (case qaB => exact (Kd.qao qdk.out).2.1); rintro e w27 ⟨rfl, hb⟩; refine ⟨_, rfl, ?_⟩; replace qdk := qdk.mw hb; replace HB := HB.mw hb; (try clear hb)) | (go_at_call 207; (with_reducible refine (qbo.calls k1 _ _ qcM qaR _ ?qaA ?qaB A25.out).mono ?_); (case qaA => exact k42_); (case qaB => exact (Kd.qao qdk.out).2.1); rintro e w28 ⟨rfl, hb⟩; replace qdk := qdk.mw hb; replace HB := HB.mw hb; (try clear hb)))
     go_ret2
     exact ⟨_, qcf, by (with_reducible repeat (first | apply Kd.qap | apply Kd.qaq | apply Kd.qaw)); exact qdk.out, qan⟩
    replace c24 := Bool.eq_false_iff.mpr c24; subst c24; rw [if_neg ff_] at H; obtain ⟨rfl, rfl⟩ := qdF H; obtain ⟨Ao29, co29, eo29⟩ := Kd.qaI qdk.out; subst eo29
    go_wp2_with (first | (refine gl_ 64 Tryz.func60 #[.slice Ao29 qcM.length co29] rfl qbK ?_; (with_reducible refine (qaP.calls k1 _ _ qcM false _ ?qaA ?qaB A23.out).mono ?_); (case qaA => exact k42_); (case qaB => exact (Kd.qao qdk.out).2.1); rintro e w30 ⟨rfl, hb⟩; refine ⟨_, rfl, ?_⟩; replace qdk := qdk.mw hb; replace HB := HB.mw hb; (try clear hb)))
    go_ret2
    exact ⟨_, qcf, by (with_reducible repeat (first | apply Kd.qap | apply Kd.qaq | apply Kd.qaw)); exact qdk.out, qan⟩
   rw [if_pos c4] at H; have qfx := decide_eq_true c4; clear c4; have HC5 := ak_ H; clear H
   go_upto_region 10 with (fail)
   go_cut [19] (fun v19 wc => ∃ (kq : Nat) (x19_4 : Bool), v19 = .bool x19_4 ∧ qag (qaJ.j1 kq a0 qcM qcn qdl qc5 x19_4 = some (r1, r2)) ∧ qag (kq ≤ k1) ∧ qag (Kd.R qaL 85 wc w.heap.size (fun _ => True) u4 qcM) ∧ qag (Below w.heap.size w wc))
   case first =>
    have H := HC5.out; clear HC5; by_cases c6 : qc5 = (a0.size : Int)
    ·rw [if_pos c6] at H; have qgk : (qc5 == (a0.size : Int)) = true := beq_iff_eq.mpr c6; have qoq : (qc5 != (a0.size : Int)) = false := bne_eq_false_iff_eq.mpr c6; clear c6; (first | rw [qgk] | rw [qoq] | (simp only [qd7, qew]; rw [qgk]) | skip); have H' := ak_ H; clear H; go_wp2; go_meet
     case rel => exact ⟨_, (true), qav, H', ⟨by have := HK1.out; first | omega | exact Nat.le_refl _⟩, ⟨qjQ⟩, ⟨qan⟩⟩
    rw [if_neg c6] at H; have qgk : (qc5 == (a0.size : Int)) = false := beq_eq_false_iff_ne.mpr c6; have qoq : (qc5 != (a0.size : Int)) = true := bne_iff_ne.mpr c6; (first | rw [qgk] | rw [qoq] | (simp only [qd7, qew]; rw [qgk]) | skip); obtain ⟨c7, H⟩ := qck H; have qgU := decide_eq_true c7; clear c7; obtain ⟨c8, H⟩ := qck H; have qm4 := decide_eq_true c8; clear c8; have H' := ak_ H; clear H; have p9 : 0 ≤ (qc5 : Int) := of_decide_eq_true qaO; have q9 : qc5 < (a0.size : Int) := of_decide_eq_true qaO; have hx9 := qel a0 qc5; replace p9 := eq_true p9; replace q9 := eq_true q9; go_wp2; go_meet
    case rel => exact ⟨_, (((bt a0 qc5) == 44)), qav, H', ⟨by have := HK1.out; first | omega | exact Nat.le_refl _⟩, ⟨qjQ⟩, ⟨qan⟩⟩
   case rest =>
    clear HC5; (try clear c2); (try clear qfr); (try clear qm3); (try clear c3); (try clear qfk); (try clear qmb); (try clear c4); (try clear qfx); obtain ⟨kq, x19_4, rfl, HA, HJ4, qdk, HB⟩ := hcut
    cases kq with
    | zero => exact absurd HA.out (by simp [qaJ.j1])
    | succ kj4 =>
     have H := HA.out; clear HA; simp only [qaJ.j1] at H; by_cases c10 : x19_4 = true
     ·subst c10; rw [if_pos rfl] at H; obtain ⟨c11, H⟩ := qck H; have qoa := ak_ c11; clear c11
      obtain ⟨qmJ, hy_⟩ : ∃ y_ : List (qac), y_ = (qcM ++ [(⟨qdl, qcn⟩ : qac)]) := ⟨_, rfl⟩
      replace H : (qaJ.l0 kj4 a0 qmJ 0 0 (wrap64 (qc5 + 1))) = some (r1, r2) := qe1; have ql2 := ak_ hy_; clear hy_; have H' := ak_ H; clear H
      go_wp2_with (first | ((with_reducible refine qa2 (b := .append) (xs := #[.tmp 30, .tmp 34]) rfl ?_); at_builtin; refine Kd.qcH qaL (w0 := w) w.heap.size rfl (.tmp 30) (.tmp 34) 26 85 (.agg #[(.int .i64 0), (.int .i64 0)]) 16 rfl Tryz.underlying26 qfT rfl (by decide) (by omega) u4 qcM (⟨qdl, qcn⟩ : qac) [.int .i64 qdl, .int .i64 qcn] (fun _ => True) (fun _ => False) rfl rfl ?aP (fun _ hk => hk.elim) ?aF ?aO ?aB ?aS ?aL ?_; (case aP => exact qdm _ _ _ (⟨qdl, qcn⟩ : qac)); (case aB => exact qan); (case aF => exact (fun _ _ => trivial)); (case aO => exact qjQ); (case aS => exact (qab qan)); (case aL => have := qoa.out; omega); intro qtn w12 ho hb hg hat; rw [← ql2.out] at ho; replace HB := ak_ (hb); have qeI := ak_ (ho); clear qdk; clear ho hb hg hat))
      go_roundg kj4
      case measure => have := HK1.out; have := HJ4.out; omega
      case rel => exact ⟨(qmJ), (0), (0), (wrap64 (qc5 + 1)), qav, qav, qav, H', ⟨by have := HK1.out; have := HJ4.out; omega⟩, ⟨by apply_rules only [qeI.out, Kd.qap, Kd.qaq, Kd.qaw]⟩, ⟨qan⟩⟩
     replace c10 := Bool.eq_false_iff.mpr c10; subst c10; rw [if_neg ff_] at H; obtain ⟨c13, H⟩ := qck H; have qk6 := decide_eq_true c13; clear c13; obtain ⟨c14, H⟩ := qck H; have qj5 := decide_eq_true c14; clear c14; by_cases c16 : (bt a0 qc5) = 58
     ·rw [if_pos c16] at H; have c16b0 : ((bt a0 qc5) == 58) = true := beq_iff_eq.mpr c16; have c16b1 : ((bt a0 qc5) != 58) = false := bne_eq_false_iff_eq.mpr c16; clear c16; have H' := ak_ H; clear H; have p15 : 0 ≤ (qc5 : Int) := of_decide_eq_true qaO; have q15 : qc5 < (a0.size : Int) := of_decide_eq_true qaO; have hx15 := qel a0 qc5; replace p15 := eq_true p15; replace q15 := eq_true q15; go_wp2
      go_roundg kj4
      case measure => have := HK1.out; have := HJ4.out; omega
      case rel => exact ⟨(qcM), (0), (qcn), (wrap64 (qc5 + 1)), qav, qav, qav, H', ⟨by have := HK1.out; have := HJ4.out; omega⟩, ⟨qjQ⟩, ⟨qan⟩⟩
     rw [if_neg c16] at H; have c16b0 : ((bt a0 qc5) == 58) = false := beq_eq_false_iff_ne.mpr c16; have c16b1 : ((bt a0 qc5) != 58) = true := bne_iff_ne.mpr c16; by_cases c18 : (bt a0 qc5) ≥ 48; rotate_left
     ·rw [if_neg c18] at H; have qqw : decide (48 ≤ (bt a0 qc5)) = false := decide_eq_false c18; clear c18; have H' := ak_ H; clear H; have p15 : 0 ≤ (qc5 : Int) := of_decide_eq_true qaO; have q15 : qc5 < (a0.size : Int) := of_decide_eq_true qaO; have hx15 := qel a0 qc5; replace p15 := eq_true p15; replace q15 := eq_true q15; have p17 : 0 ≤ (qc5 : Int) := of_decide_eq_true qaO; have q17 : qc5 < (a0.size : Int) := of_decide_eq_true qaO; have hx17 := qel a0 qc5; replace p17 := eq_true p17; replace q17 := eq_true q17; go_wp2
      go_roundg kj4
      case measure => have := HK1.out; have := HJ4.out; omega
      case rel => exact ⟨(qcM), (qcn), (qdl), (wrap64 (qc5 + 1)), qav, qav, qav, H', ⟨by have := HK1.out; have := HJ4.out; omega⟩, ⟨qjQ⟩, ⟨qan⟩⟩
     rw [if_pos c18] at H; have qqw : decide (48 ≤ (bt a0 qc5)) = true := decide_eq_true c18; clear c18; by_cases c20 : (bt a0 qc5) ≤ 57; rotate_left
     ·rw [if_neg c20] at H; have c20b0 := decide_eq_false c20; clear c20; have H' := ak_ H; clear H; have p15 : 0 ≤ (qc5 : Int) := of_decide_eq_true qaO; have q15 : qc5 < (a0.size : Int) := of_decide_eq_true qaO; have hx15 := qel a0 qc5; replace p15 := eq_true p15; replace q15 := eq_true q15; have p17 : 0 ≤ (qc5 : Int) := of_decide_eq_true qaO; have q17 : qc5 < (a0.size : Int) := of_decide_eq_true qaO; have hx17 := qel a0 qc5; replace p17 := eq_true p17; replace q17 := eq_true q17; have p19 : 0 ≤ (qc5 : Int) := of_decide_eq_true qaO; have q19 : qc5 < (a0.size : Int) := of_decide_eq_true qaO; have hx19 := qel a0 qc5; replace p19 := eq_true p19; replace q19 := eq_true q19; go_wp2
      go_roundg kj4
      case measure => have := HK1.out; have := HJ4.out; omega
      case rel => exact ⟨(qcM), (qcn), (qdl), (wrap64 (qc5 + 1)), qav, qav, qav, H', ⟨by have := HK1.out; have := HJ4.out; omega⟩, ⟨qjQ⟩, ⟨qan⟩⟩
     rw [if_pos c20] at H; have c20b0 := decide_eq_true c20; clear c20; obtain ⟨qf4, A22, H⟩ := qay H; (try dsimp only at H); have H' := ak_ H; clear H; have p15 : 0 ≤ (qc5 : Int) := of_decide_eq_true qaO; have q15 : qc5 < (a0.size : Int) := of_decide_eq_true qaO; have hx15 := qel a0 qc5; replace p15 := eq_true p15; replace q15 := eq_true q15; have p17 : 0 ≤ (qc5 : Int) := of_decide_eq_true qaO; have q17 : qc5 < (a0.size : Int) := of_decide_eq_true qaO; have hx17 := qel a0 qc5; replace p17 := eq_true p17; replace q17 := eq_true q17; have p19 : 0 ≤ (qc5 : Int) := of_decide_eq_true qaO; have q19 : qc5 < (a0.size : Int) := of_decide_eq_true qaO; have hx19 := qel a0 qc5; replace p19 := eq_true p19; replace q19 := eq_true q19; have p21 : 0 ≤ (qc5 : Int) := of_decide_eq_true qaO; have q21 : qc5 < (a0.size : Int) := of_decide_eq_true qaO; have hx21 := qel a0 qc5; replace p21 := eq_true p21; replace q21 := eq_true q21
     go_wp2_with (first | (refine gl_ 61 Tryz.func206 #[.int .i64 1000, .int .i64 (wrap64 ((wrap64 (10 * qcn)) + (((bt a0 qc5) - 48) % 256)))] rfl qbK ?_; (with_reducible refine (qfe.calls 1000 (wrap64 ((wrap64 (10 * qcn)) + (((bt a0 qc5) - 48) % 256))) qf4 _ A22.out).mono ?_); rintro e w' ⟨rfl, ⟨nd, rfl⟩⟩; refine ⟨_, rfl, ?_⟩))
     go_roundg kj4
     case measure => have := HK1.out; have := HJ4.out; omega
     case rel => exact ⟨(qcM), (qf4), (qdl), (wrap64 (qc5 + 1)), qav, qav, qav, H', ⟨by have := HK1.out; have := HJ4.out; omega⟩, ⟨qjQ⟩, ⟨qan⟩⟩
def qbA.f (k : Nat) (a0 : ByteArray) : Option ((List (qac)) × Bool) := (qaJ.f k a0).bind fun qcR => (if qcR.2 = true then (some (qcR.1, true)) else (some (([] : List (qac)), false)))
theorem qbA.calls (k : Nat) (a0 : ByteArray) (r1 : List (qac)) (r2 : Bool) (w : World) (h : qbA.f k a0 = some (r1, r2)) :
  Calls Tryz.prog 96 #[.string a0] w fun e w' => ∃ v0_ : Value, e = .returned (.tuple #[v0_, .bool r2]) ∧ Kd.R qaL 85 w' w.heap.size (fun _ => True) v0_ r1 ∧ Below w.heap.size w w' := by
 have HB := br_ w; have H : ((qaJ.f k a0).bind fun qcR => (if qcR.2 = true then (some (qcR.1, true)) else (some (([] : List (qac)), false)))) = some (r1, r2) := h; clear h; obtain ⟨⟨qat, qaR⟩, A2, H⟩ := qay H; (try dsimp only at H); by_cases c3 : qaR = true
 ·subst c3; rw [if_pos rfl] at H; obtain ⟨rfl, rfl⟩ := qdF H; go_enter Tryz.func96, Tryz.ntmps96
  go_wp2_with (first | (refine gl_ 8 Tryz.func151 #[.string a0] rfl qbK ?_; (with_reducible refine (qaJ.calls k a0 qat true _ A2.out).mono ?_); rintro e w4 ⟨qhm, rfl, ho0, hb⟩; refine ⟨_, rfl, ?_⟩; have qb1 := ak_ (Kd.qax ho0 (qab qan)); replace HB := HB.mw hb; (try clear hb ho0)))
  go_ret2
  exact ⟨_, qcf, k63_, qan⟩
 replace c3 := Bool.eq_false_iff.mpr c3; subst c3; rw [if_neg ff_] at H; obtain ⟨rfl, rfl⟩ := qdF H; go_enter Tryz.func96, Tryz.ntmps96
 go_wp2_with (first | (refine gl_ 8 Tryz.func151 #[.string a0] rfl qbK ?_; (with_reducible refine (qaJ.calls k a0 qat false _ A2.out).mono ?_); rintro e w5 ⟨qhm, rfl, ho0, hb⟩; refine ⟨_, rfl, ?_⟩; have qb1 := ak_ (Kd.qax ho0 (qab qan)); replace HB := HB.mw hb; (try clear hb ho0)))
 go_ret2
 exact ⟨_, qcf, qgN, qan⟩
end
end Go.Proofs.YtjeoabbnalamcaaGreatDoor.P
