/- What functions of the program answer. Proved in this text: its theorems. Conditions: as each theorem states them. -/
import Derived.Test.YtjeoabbnalamcaaGreatDoorCFnExactRunScriptP
import Derived.Test.YtjeoabbnalamcaaGreatDoorCFnExactRunScriptF2
import Derived.Test.YtjeoabbnalamcaaGreatDoorCFnExactRunScriptF0
namespace Go.Proofs.YtjeoabbnalamcaaGreatDoor.P
open Go.RowKit Go.Proofs.YtjeoabbnalamcaaGreatDoorW.qaY Go.Proofs.YtjeoabbnalamcaaGreatDoorW.PrintLast Go.Proofs.YtjeoabbnalamcaaGreatDoorW.PrintMore
set_option linter.unusedVariables false
set_option linter.unusedSimpArgs false
set_option maxHeartbeats 8000000
set_option maxRecDepth 100000
section
attribute [local go_sem] qgV qgX qif qig qge qgf qgW qgY
mutual
def qaM.j0 : Nat → List (qac) → Int → Bool → Option ((List (qac)) × Bool)
 | 0, _, _, _ => none
 | k + 1, x0, x1, x16 => if x16 = true then (some (([] : List (qac)), false)) else (qaM.l0 k x1 ([] : List (qac)) x0 (x0.length : Int) 0)
def qaM.l0 : Nat → Int → List (qac) → List (qac) → Int → Int → Option ((List (qac)) × Bool)
 | 0, _, _, _, _, _ => none
 | k + 1, x1, x6, x17, x18, x19 => if x19 < x18 then (if 0 ≤ x19 then (if x19 < (x17.length : Int) then ((qcw.f (wrap64 (((qae x17 x19).f1) + x1)) ((qae x17 x19).f0)).bind fun t105 => (if x6.length < 8796093022208 then (qaM.l0 k x1 (x6 ++ [(⟨(qae x17 x19).f0, t105⟩ : qac)]) x17 x18 (wrap64 (x19 + 1))) else (none))) else (none)) else (none)) else (some (x6, true))
end
def qaM.f (k : Nat) (l0 : List (qac)) (a1 : Int) : Option ((List (qac)) × Bool) := (qaO.f k l0).bind fun qas => (if qas = true then ((qet.f a1).bind fun qaI => (qaM.j0 k l0 a1 (!qaI))) else (qaM.j0 k l0 a1 true))
def qaM.T7 : Bool × List (List Nat × List Nat) := (true, [([], []), ([], []), ([1], [1]), ([], []), ([3], [3]), ([], []), ([4, 5], [4, 5]), ([], []), ([7], [7]), ([6, 8], [6, 8]), ([2, 9], [2, 9]), ([10], [10]), ([0, 11, 9], [0, 11]), ([12, 12, 0, 1, 2, 3, 4, 5, 6, 7, 8, 9, 10, 11, 12], [0, 12])])
def qaM.B7 : List Nat := [0, 0, 2, 0, 8, 0, 56, 0, 128, 504, 1022, 2046, 4095, 8191]
theorem qaM.tab7 : qhK .any (opsOf Tryz.f100 7) = qaM.T7 := by kernel_rfl
theorem qaM.qlR : qeR qaM.T7.2 qaM.B7 = true := by kernel_rfl
theorem qaM.calls (k : Nat) (A0 : Option Addr) (c0 : Nat) (l0 : List (qac)) (a1 : Int) (r1 : List (qac)) (r2 : Bool) (w : World) (hr0 : Kd.C qaN w A0 l0.length l0) (hc0 : l0.length ≤ c0) (h : qaM.f k l0 a1 = some (r1, r2)) :
  Calls Tryz.prog 100 #[.slice A0 l0.length c0, .int .i64 a1] w fun e w' => ∃ v0_ : Value, e = .returned (.tuple #[v0_, .bool r2]) ∧ Kd.R qaN 85 w' w.heap.size (fun _ => True) v0_ r1 ∧ Below w.heap.size w w' := by
 have qms := Tryz.underlying85; have HR0 := ak_ hr0; have HC0 := ak_ hc0; clear hr0 hc0; have HB := ak_ (Below.refl w.heap.size w); have H : ((qaO.f k l0).bind fun qas => (if qas = true then ((qet.f a1).bind fun qaI => (qaM.j0 k l0 a1 (!qaI))) else (qaM.j0 k l0 a1 true))) = some (r1, r2) := h; clear h; have HC3 := ak_ H; clear H; go_enter Tryz.func100, Tryz.ntmps100
 go_upto_region 1 with (fail)
 go_cut [16] (fun v16 wc => ∃ (kq : Nat) (qmq : Bool), v16 = .bool qmq ∧ qag (qaM.j0 kq l0 a1 qmq = some (r1, r2)) ∧ qag (kq ≤ k) ∧ qag (Below w.heap.size w wc))
 case first =>
  have H := HC3.out; clear HC3; obtain ⟨qas, A4, H⟩ := qaw H; (try dsimp only at H); by_cases c5 : qas = true
  ·subst c5; rw [if_pos rfl] at H; obtain ⟨qaI, A6, H⟩ := qaw H; (try dsimp only at H); have H' := ak_ H; clear H
   go_wp2_with (first | (refine gl_ 10 Tryz.func60 #[.slice A0 l0.length c0] rfl qbK ?_; (with_reducible refine (qaO.calls k _ _ l0 true _ ?qay ?qaz A4.out).mono ?_); (case qay => exact qg3); (case qaz => exact qb6); rintro e w7 ⟨rfl, hb⟩; refine ⟨_, rfl, ?_⟩; replace HB := HB.mw hb; (try clear hb)) | (go_at_call 153; (with_reducible refine (qet.calls a1 qaI _ A6.out).mono ?_); rintro e w' ⟨rfl, ⟨nd, rfl⟩⟩))
   go_meet
   case rel => exact ⟨_, (!qaI), qav, H', ⟨qid⟩, ⟨qam⟩⟩
  replace c5 := Bool.eq_false_iff.mpr c5; subst c5; rw [if_neg (show ¬ (false = true) by decide)] at H; have H' := ak_ H; clear H
  go_wp2_with (first | (refine gl_ 10 Tryz.func60 #[.slice A0 l0.length c0] rfl qbK ?_; (with_reducible refine (qaO.calls k _ _ l0 false _ ?qay ?qaz A4.out).mono ?_); (case qay => exact qg3); (case qaz => exact qb6); rintro e w8 ⟨rfl, hb⟩; refine ⟨_, rfl, ?_⟩; replace HB := HB.mw hb; (try clear hb)))
  go_meet
  case rel => exact ⟨_, (true), qav, H', ⟨qid⟩, ⟨qam⟩⟩
 case rest =>
  clear HC3; obtain ⟨kq, qmq, rfl, HA, HJ2, HB⟩ := hcut
  cases kq with
  | zero => exact absurd HA.out (by simp [qaM.j0])
  | succ kj2 =>
   have H := HA.out; clear HA; simp only [qaM.j0] at H; by_cases c9 : qmq = true
   ·subst c9; rw [if_pos rfl] at H; obtain ⟨rfl, rfl⟩ := qdI H; go_wp2
    go_ret2
    exact ⟨_, qce, qg4, qam⟩
   replace c9 := Bool.eq_false_iff.mpr c9; subst c9; rw [if_neg (show ¬ (false = true) by decide)] at H; have H' := ak_ H; clear H; go_wp2
   go_loopg [6, 19] kj2 (fun kq v6 v19 w' => ∃ (qgz : List (qac)) (qef : Int), v19 = .int .i64 qef ∧ qag (qaM.l0 kq a1 qgz l0 (l0.length : Int) qef = some (r1, r2)) ∧ qag (kq ≤ kj2) ∧ qag (Kd.R qaN 85 w' w.heap.size (fun _ => True) v6 qgz) ∧ qag (Below w.heap.size w w'))
   case atStart => exact ⟨(([] : List (qac))), (0), qav, H', ⟨Nat.le_refl _⟩, ⟨qg4⟩, ⟨qam⟩⟩
   case round =>
    clear H'; (try clear c9); obtain ⟨qgz, qef, rfl, HA, HK2, qfv, HB⟩ := hrel
    cases gk with
    | zero => exact absurd HA.out (by simp [qaM.l0])
    | succ k2 =>
     have H := HA.out; clear HA; simp only [qaM.l0] at H; by_cases c10 : qef < (l0.length : Int); rotate_left
     ·rw [if_neg c10] at H; have qgC : decide (qef < (l0.length : Int)) = false := decide_eq_false c10; clear c10; obtain ⟨rfl, rfl⟩ := qdI H; go_wp2
      go_ret2
      exact ⟨_, qce, by (with_reducible repeat (first | apply Kd.qaq | apply Kd.qar | apply Kd.qaC)); exact qfv.out, qam⟩
     rw [if_pos c10] at H; have qgC : decide (qef < (l0.length : Int)) = true := decide_eq_true c10; clear c10; by_cases c11 : 0 ≤ qef; rotate_left
     ·rw [if_neg c11] at H; exact absurd H (by simp)
     rw [if_pos c11] at H; have qgs : decide (0 ≤ qef) = true := decide_eq_true c11; clear c11; by_cases c12 : qef < (l0.length : Int); rotate_left
     ·rw [if_neg c12] at H; exact absurd H (by simp)
     rw [if_pos c12] at H; have qhm : decide (qef < (l0.length : Int)) = true := decide_eq_true c12; clear c12; obtain ⟨t105, A13, H⟩ := qaw H; (try dsimp only at H); by_cases c14 : qgz.length < 8796093022208; rotate_left
     ·rw [if_neg c14] at H; exact absurd H (by simp)
     rw [if_pos c14] at H; have qnU := ak_ c14; clear c14
     obtain ⟨qkL, hy_⟩ : ∃ y_ : List (qac), y_ = (qgz ++ [(⟨(qae l0 qef).f0, t105⟩ : qac)]) := ⟨_, rfl⟩
     replace H : (qaM.l0 k2 a1 qkL l0 (l0.length : Int) (wrap64 (qef + 1))) = some (r1, r2) := qe6; have qnW := ak_ hy_; clear hy_; have H' := ak_ H; clear H; have p103 : 0 ≤ (qef : Int) := of_decide_eq_true qaU; have q103 : qef < (l0.length : Int) := of_decide_eq_true qaU; obtain ⟨ad103, e103, qoA, qoB⟩ := qdV HR0.out qef p103 q103
     cases e103
     replace qoA := (HB.out.cell (World.block_lt_of_cell? w _ qoA)).trans qoA; replace qoB := (HB.out.cell (World.block_lt_of_cell? w _ qoB)).trans qoB; replace p103 := eq_true p103; replace q103 := eq_true q103
     try go_wp2_with (first | ((with_reducible refine qak (N := 8) rfl ?_); refine bx_ 8 rfl (cs := #[.int .i64 0, .int .i64 0]) (t := 85) qbb ?_; intro qgQ hg w15 hbox hb; replace qfv := ak_ (Kd.qbx (Kd.qhE qoK qgQ (Nat.le_of_eq hg.symm)) hb); have qg8 := ak_ (hbox); have GW104 := ak_ (HB.ge hg); have GE104 := ak_ (HB.ge hg); replace HB := HB.mw hb; clear hb hbox hg; obtain ⟨qrI, qrJ, qrQ, qrR⟩ := qbG qg8.out))
     have n0_ : qag (Kd.R qaN 85 ((w15.setCell ⟨qgQ, 0, none⟩ (.int .i64 ((qae l0 qef).f0))).setCell ⟨qgQ, 1, none⟩ (.int .i64 ((qae l0 qef).f1))) w.heap.size (fun k_ => k_ ≠ qgQ) u6 qgz) := ⟨by (with_reducible repeat (first | apply Kd.qaq | apply Kd.qar | apply Kd.qaC)); exact Kd.qa8 (Kd.qc7 (p := ⟨qgQ, 1, none⟩) (Kd.qc7 (p := ⟨qgQ, 0, none⟩) (Kd.qa8 qfv.out (fun k_ hk => (⟨hk, hk.2⟩ : _ ∧ k_ ≠ qgQ))) (fun _ hk => hk.2) (.int .i64 ((qae l0 qef).f0))) (fun _ hk => hk.2) (.int .i64 ((qae l0 qef).f1))) (fun _ hk => hk.1.2)⟩
     have n1_ : qag (((w15.setCell ⟨qgQ, 0, none⟩ (.int .i64 ((qae l0 qef).f0))).setCell ⟨qgQ, 1, none⟩ (.int .i64 ((qae l0 qef).f1))).heap[qgQ]? = some (.cells #[.int .i64 ((qae l0 qef).f0), .int .i64 ((qae l0 qef).f1)] 85 (0, 0))) := ⟨by (with_reducible repeat (first | refine qal ?_ _ | refine qan ?_ | refine qaj ?_ _)); refine qbp (cs := #[.int .i64 ((qae l0 qef).f0), .int .i64 0]) ?_ 1 _ rfl; (with_reducible repeat (first | refine qal ?_ _ | refine qan ?_ | refine qaj ?_ _)); refine qbp (cs := #[.int .i64 0, .int .i64 0]) ?_ 0 _ rfl; apply_rules only [qg8.out, qal, qan, qaj]⟩
     have n2_ : qag (Below w.heap.size w ((w15.setCell ⟨qgQ, 0, none⟩ (.int .i64 ((qae l0 qef).f0))).setCell ⟨qgQ, 1, none⟩ (.int .i64 ((qae l0 qef).f1)))) := ⟨by apply_rules only [HB.out, qai, qaf, qah, qap, GE104.out]⟩
     (try clear qfv); (try clear qg8); (try clear HB)
     generalize ((w15.setCell ⟨qgQ, 0, none⟩ (.int .i64 ((qae l0 qef).f0))).setCell ⟨qgQ, 1, none⟩ (.int .i64 ((qae l0 qef).f1))) = w17 at n0_ n1_ n2_ ⊢
     have qfv := n0_; have qg8 := n1_; have HB := n2_; clear n0_ n1_ n2_; replace qfv := ak_ (Kd.qaC qfv.out); replace qg8 := ak_ (qan qg8.out); replace HB := ak_ (qah HB.out); refine qeQ (n := 14) (S := fun w' => w'.cell? ⟨qgQ, 0, none⟩ = some (.int .i64 ((qae l0 qef).f0)) ∧ w'.cell? ⟨qgQ, 1, none⟩ = some (.int .i64 ((qae l0 qef).f1))) (ds := []) (rA_ [0, 14]) (by kernel_rfl) rfl rfl ⟨qed qg8.out, qbB qg8.out⟩ (fun hHeld => ?_); refine qdp qaM.tab7 qaM.qlR (fun HT_ HW_ => ?_)
     generalize w17.drew = w18 at qfv qg8 HB hHeld ⊢
     refine pu_ 0 23 [1, 13] ?_; refine pu_ 1 24 [2, 12] ?_; refine pu_ 3 26 [2, 1, 1, 10] ?_; refine pu_ 5 28 [2, 1, 1, 1, 1, 8] ?_; refine pu_ 7 30 [2, 1, 1, 1, 1, 1, 1, 6] ?_; refine qip 2 25 [4, 1, 1, 1, 1, 6] ?_; refine qip 4 27 [6, 1, 1, 6] ?_; refine pu_ 6 29 [8, 6] ?_; refine qip 8 31 [9, 5] ?_; refine qfA (i := 9) (N := some 32) (rA_ [10, 4]) rfl rfl (qc5 HT_.out (by kernel_rfl)) (by decide) (fun K hK => ?_); refine qfz Tryz.func154 (by kernel_rfl) rfl #[.int .i64 (wrap64 (((qae l0 qef).f1) + a1)), .int .i64 ((qae l0 qef).f0)] (by rfl) rfl rfl qbK ?_
     with_reducible refine (qcw.calls (wrap64 (((qae l0 qef).f1) + a1)) ((qae l0 qef).f0) t105 _ A13.out).mono ?_
     rintro e w' ⟨rfl, ⟨nd, rfl⟩⟩; refine ⟨_, rfl, ?_⟩; refine hK.out _ _ ⟨qed qg8.out, qbB qg8.out⟩ (fun hHeld => ?_); clear hK K; refine nm_ 32 ?_; refine pu_ 10 33 [11, 3] ?_; refine qfA (i := 11) (N := some 34) (rA_ [12, 2]) rfl rfl (qc5 HT_.out (by kernel_rfl)) (by decide) (fun K hK => ?_); refine qiK (w1 := ?_) (v := ?_) (by rfl) rfl ?_ ?_; rotate_left 2
     ·go_simp; constructor
      ·rfl
      rfl
     refine hK.out _ _ ⟨(qa7 (qaj qg8.out _) 0).trans rfl, (qa7 (qaj qg8.out _) 1).trans rfl⟩ (fun hHeld => ?_); clear hK K; refine nm_ 34 ?_; refine qfA (i := 12) (N := some 35) (rA_ [13, 1]) rfl rfl (qc5 HT_.out (by kernel_rfl)) (by decide) (fun K hK => ?_); refine Kd.qeT qaN (w0 := w) w.heap.size (by rfl) (.tmp 23) (.tmp 34) 26 85 (.agg #[(.int .i64 0), (.int .i64 0)]) 16 rfl Tryz.underlying26 qfQ rfl (by decide) (by omega) u6 qgz (⟨(qae l0 qef).f0, t105⟩ : qac) [.int .i64 ((qae l0 qef).f0), .int .i64 t105] (fun k_ => k_ ≠ qgQ) (fun _ => False) rfl rfl ?aP (fun _ hk => hk.elim) ?aF ?aO ?aB ?aS ?aL ?_
     (case aP => exact qdo _ _ _ (⟨(qae l0 qef).f0, t105⟩ : qac))
     (case aB => exact (by apply_rules only [HB.out, qai, qaf, qah, qap, GE104.out]))
     (case aF => exact (fun k_ hk => Kd.qm0 (g := qgQ) (o := .cells #[.int .i64 ((qae l0 qef).f0), .int .i64 ((qae l0 qef).f1)] 85 (0, 0)) (by apply_rules only [qg8.out, qal, qan, qaj]) k_ hk))
     (case aO => exact qoK)
     (case aS => exact (qab (by apply_rules only [HB.out, qai, qaf, qah, qap, GE104.out])))
     (case aL => have := qnU.out; omega)
     intro v107 w19 ho hb hg hat; rw [← qnW.out] at ho; replace qg8 := ak_ (qev (g := qgQ) (o := .cells #[.int .i64 ((qae l0 qef).f0), .int .i64 ((qae l0 qef).f1)] 85 (0, 0)) (by apply_rules only [qg8.out, qal, qan, qaj]) hg (Kd.qmC qfv.out (fun _ hk => hk))); replace HB := ak_ (hb); have qfE := ak_ (ho); clear qfv; clear ho hb hg hat; refine hK.out _ _ ⟨qed qg8.out, qbB qg8.out⟩ (fun hHeld => ?_); clear hK K; refine nm_ 35 ?_; refine pu_ 13 6 [14] ?_; refine qf4 (qeC HT_.out (by kernel_rfl)) ?_
     try go_wp2
     go_roundg k2
     case measure => have := HJ2.out; have := HK2.out; omega
     case rel => exact ⟨(qkL), (wrap64 (qef + 1)), qav, H', ⟨by have := HJ2.out; have := HK2.out; omega⟩, ⟨by (with_reducible repeat (first | apply Kd.qaq | apply Kd.qar | apply Kd.qaC)); exact Kd.qa8 qfE.out (fun _ hk => trivial)⟩, ⟨by apply_rules only [HB.out, qai, qaf, qah, qap, GE104.out]⟩⟩
def qa1.l0 : Nat → List (qac) → List (qac) → Int → Int → Option ((List (qac)) × Bool)
 | 0, _, _, _, _ => none
 | k + 1, x4, x10, x11, x12 => if x12 < x11 then (if 0 ≤ x12 then (if x12 < (x10.length : Int) then ((qcw.f (wrap64 (-((qae x10 x12).f1))) ((qae x10 x12).f0)).bind fun qcf => (if x4.length < 8796093022208 then (qa1.l0 k (x4 ++ [(⟨(qae x10 x12).f0, qcf⟩ : qac)]) x10 x11 (wrap64 (x12 + 1))) else (none))) else (none)) else (none)) else (some (x4, true))
def qa1.f (k : Nat) (l0 : List (qac)) : Option ((List (qac)) × Bool) := (qaO.f k l0).bind fun qas => (if qas = true then (qa1.l0 k ([] : List (qac)) l0 (l0.length : Int) 0) else (some (([] : List (qac)), false)))
def qa1.T7 : Bool × List (List Nat × List Nat) := (true, [([], []), ([], []), ([1], [1]), ([], []), ([3], [3]), ([4], [4]), ([], []), ([6], [6]), ([5, 7], [5, 7]), ([2, 8], [2, 8]), ([9], [9]), ([0, 10, 8], [0, 10]), ([11, 11, 0, 1, 2, 3, 4, 5, 6, 7, 8, 9, 10, 11], [0, 11])])
def qa1.B7 : List Nat := [0, 0, 2, 0, 8, 24, 0, 64, 248, 510, 1022, 2047, 4095]
theorem qa1.tab7 : qhK .any (opsOf Tryz.f101 7) = qa1.T7 := by kernel_rfl
theorem qa1.qlR : qeR qa1.T7.2 qa1.B7 = true := by kernel_rfl
theorem qa1.calls (k : Nat) (A0 : Option Addr) (c0 : Nat) (l0 : List (qac)) (r1 : List (qac)) (r2 : Bool) (w : World) (hr0 : Kd.C qaN w A0 l0.length l0) (hc0 : l0.length ≤ c0) (h : qa1.f k l0 = some (r1, r2)) :
  Calls Tryz.prog 101 #[.slice A0 l0.length c0] w fun e w' => ∃ v0_ : Value, e = .returned (.tuple #[v0_, .bool r2]) ∧ Kd.R qaN 85 w' w.heap.size (fun _ => True) v0_ r1 ∧ Below w.heap.size w w' := by
 have qms := Tryz.underlying85; have HR0 := ak_ hr0; have HC0 := ak_ hc0; clear hr0 hc0; have HB := ak_ (Below.refl w.heap.size w); have H : ((qaO.f k l0).bind fun qas => (if qas = true then (qa1.l0 k ([] : List (qac)) l0 (l0.length : Int) 0) else (some (([] : List (qac)), false)))) = some (r1, r2) := h; clear h; obtain ⟨qas, A2, H⟩ := qaw H; (try dsimp only at H); by_cases c3 : qas = true; rotate_left
 ·replace c3 := Bool.eq_false_iff.mpr c3; subst c3; rw [if_neg (show ¬ (false = true) by decide)] at H; obtain ⟨rfl, rfl⟩ := qdI H; go_enter Tryz.func101, Tryz.ntmps101
  go_wp2_with (first | (refine gl_ 8 Tryz.func60 #[.slice A0 l0.length c0] rfl qbK ?_; (with_reducible refine (qaO.calls k _ _ l0 false _ ?qay ?qaz A2.out).mono ?_); (case qay => exact qfM); (case qaz => exact qb6); rintro e w15 ⟨rfl, hb⟩; refine ⟨_, rfl, ?_⟩; replace HB := HB.mw hb; (try clear hb)))
  go_ret2
  exact ⟨_, qce, qg4, qam⟩
 subst c3; rw [if_pos rfl] at H; have H' := ak_ H; clear H; go_enter Tryz.func101, Tryz.ntmps101
 go_wp2_with (first | (refine gl_ 8 Tryz.func60 #[.slice A0 l0.length c0] rfl qbK ?_; (with_reducible refine (qaO.calls k _ _ l0 true _ ?qay ?qaz A2.out).mono ?_); (case qay => exact qfM); (case qaz => exact qb6); rintro e w4 ⟨rfl, hb⟩; refine ⟨_, rfl, ?_⟩; replace HB := HB.mw hb; (try clear hb)))
 go_loopg [4, 12] k (fun kq v4 v12 w' => ∃ (qcs : List (qac)) (qcQ : Int), v12 = .int .i64 qcQ ∧ qag (qa1.l0 kq qcs l0 (l0.length : Int) qcQ = some (r1, r2)) ∧ qag (kq ≤ k) ∧ qag (Kd.R qaN 85 w' w.heap.size (fun _ => True) v4 qcs) ∧ qag (Below w.heap.size w w'))
 case atStart => exact ⟨(([] : List (qac))), (0), qav, H', ⟨Nat.le_refl _⟩, ⟨qg4⟩, ⟨qam⟩⟩
 case round =>
  clear H'; (try clear c3); obtain ⟨qcs, qcQ, rfl, HA, HK1, qdn, HB⟩ := hrel
  cases gk with
  | zero => exact absurd HA.out (by simp [qa1.l0])
  | succ k1 =>
   have H := HA.out; clear HA; simp only [qa1.l0] at H; by_cases c5 : qcQ < (l0.length : Int); rotate_left
   ·rw [if_neg c5] at H; have qgH : decide (qcQ < (l0.length : Int)) = false := decide_eq_false c5; clear c5; obtain ⟨rfl, rfl⟩ := qdI H; go_wp2
    go_ret2
    exact ⟨_, qce, by (with_reducible repeat (first | apply Kd.qaq | apply Kd.qar | apply Kd.qaC)); exact qdn.out, qam⟩
   rw [if_pos c5] at H; have qgH : decide (qcQ < (l0.length : Int)) = true := decide_eq_true c5; clear c5; by_cases c6 : 0 ≤ qcQ; rotate_left
   ·rw [if_neg c6] at H; exact absurd H (by simp)
   rw [if_pos c6] at H; have qfY : decide (0 ≤ qcQ) = true := decide_eq_true c6; clear c6; by_cases c7 : qcQ < (l0.length : Int); rotate_left
   ·rw [if_neg c7] at H; exact absurd H (by simp)
   rw [if_pos c7] at H; have qgM : decide (qcQ < (l0.length : Int)) = true := decide_eq_true c7; clear c7; obtain ⟨qcf, A8, H⟩ := qaw H; (try dsimp only at H); by_cases c9 : qcs.length < 8796093022208; rotate_left
   ·rw [if_neg c9] at H; exact absurd H (by simp)
   rw [if_pos c9] at H; have LMc9 := ak_ c9; clear c9
   obtain ⟨qhD, hy_⟩ : ∃ y_ : List (qac), y_ = (qcs ++ [(⟨(qae l0 qcQ).f0, qcf⟩ : qac)]) := ⟨_, rfl⟩
   replace H : (qa1.l0 k1 qhD l0 (l0.length : Int) (wrap64 (qcQ + 1))) = some (r1, r2) := qe6; have qhi := ak_ hy_; clear hy_; have H' := ak_ H; clear H; have qss : 0 ≤ (qcQ : Int) := of_decide_eq_true qaU; have qsv : qcQ < (l0.length : Int) := of_decide_eq_true qaU; obtain ⟨ad102, e102, qkh, qoz⟩ := qdV HR0.out qcQ qss qsv
   cases e102
   replace qkh := (HB.out.cell (World.block_lt_of_cell? w _ qkh)).trans qkh; replace qoz := (HB.out.cell (World.block_lt_of_cell? w _ qoz)).trans qoz; replace qss := eq_true qss; replace qsv := eq_true qsv
   try go_wp2_with (first | ((with_reducible refine qak (N := 6) rfl ?_); refine bx_ 6 rfl (cs := #[.int .i64 0, .int .i64 0]) (t := 85) qbb ?_; intro qgP hg w10 hbox hb; replace qdn := ak_ (Kd.qbx (Kd.qhE qjI qgP (Nat.le_of_eq hg.symm)) hb); have qg7 := ak_ (hbox); have GW103 := ak_ (HB.ge hg); have GE103 := ak_ (HB.ge hg); replace HB := HB.mw hb; clear hb hbox hg; obtain ⟨qf5, qf6, qf7, qf8⟩ := qbG qg7.out))
   have n0_ : qag (Kd.R qaN 85 ((w10.setCell ⟨qgP, 0, none⟩ (.int .i64 ((qae l0 qcQ).f0))).setCell ⟨qgP, 1, none⟩ (.int .i64 ((qae l0 qcQ).f1))) w.heap.size (fun k_ => k_ ≠ qgP) u4 qcs) := ⟨by (with_reducible repeat (first | apply Kd.qaq | apply Kd.qar | apply Kd.qaC)); exact Kd.qa8 (Kd.qc7 (p := ⟨qgP, 1, none⟩) (Kd.qc7 (p := ⟨qgP, 0, none⟩) (Kd.qa8 qdn.out (fun k_ hk => (⟨hk, hk.2⟩ : _ ∧ k_ ≠ qgP))) (fun _ hk => hk.2) (.int .i64 ((qae l0 qcQ).f0))) (fun _ hk => hk.2) (.int .i64 ((qae l0 qcQ).f1))) (fun _ hk => hk.1.2)⟩
   have n1_ : qag (((w10.setCell ⟨qgP, 0, none⟩ (.int .i64 ((qae l0 qcQ).f0))).setCell ⟨qgP, 1, none⟩ (.int .i64 ((qae l0 qcQ).f1))).heap[qgP]? = some (.cells #[.int .i64 ((qae l0 qcQ).f0), .int .i64 ((qae l0 qcQ).f1)] 85 (0, 0))) := ⟨by (with_reducible repeat (first | refine qal ?_ _ | refine qan ?_ | refine qaj ?_ _)); refine qbp (cs := #[.int .i64 ((qae l0 qcQ).f0), .int .i64 0]) ?_ 1 _ rfl; (with_reducible repeat (first | refine qal ?_ _ | refine qan ?_ | refine qaj ?_ _)); refine qbp (cs := #[.int .i64 0, .int .i64 0]) ?_ 0 _ rfl; apply_rules only [qg7.out, qal, qan, qaj]⟩
   have n2_ : qag (Below w.heap.size w ((w10.setCell ⟨qgP, 0, none⟩ (.int .i64 ((qae l0 qcQ).f0))).setCell ⟨qgP, 1, none⟩ (.int .i64 ((qae l0 qcQ).f1)))) := ⟨by apply_rules only [HB.out, qai, qaf, qah, qap, GE103.out]⟩
   (try clear qdn); (try clear qg7); (try clear HB)
   generalize ((w10.setCell ⟨qgP, 0, none⟩ (.int .i64 ((qae l0 qcQ).f0))).setCell ⟨qgP, 1, none⟩ (.int .i64 ((qae l0 qcQ).f1))) = w12 at n0_ n1_ n2_ ⊢
   have qdn := n0_; have qg7 := n1_; have HB := n2_; clear n0_ n1_ n2_; replace qdn := ak_ (Kd.qaC qdn.out); replace qg7 := ak_ (qan qg7.out); replace HB := ak_ (qah HB.out); refine qeQ (n := 13) (S := fun w' => w'.cell? ⟨qgP, 0, none⟩ = some (.int .i64 ((qae l0 qcQ).f0)) ∧ w'.cell? ⟨qgP, 1, none⟩ = some (.int .i64 ((qae l0 qcQ).f1))) (ds := []) (rA_ [0, 13]) (by kernel_rfl) rfl rfl ⟨qed qg7.out, qbB qg7.out⟩ (fun hHeld => ?_); refine qdp qa1.tab7 qa1.qlR (fun HT_ HW_ => ?_)
   generalize w12.drew = w13 at qdn qg7 HB hHeld ⊢
   refine pu_ 0 16 [1, 12] ?_; refine pu_ 1 17 [2, 11] ?_; refine pu_ 3 19 [2, 1, 1, 9] ?_; refine pu_ 6 22 [2, 1, 1, 2, 1, 6] ?_; refine qip 2 18 [4, 2, 1, 6] ?_; refine qip 4 20 [5, 1, 1, 6] ?_; refine pu_ 5 21 [7, 6] ?_; refine qip 7 23 [8, 5] ?_; refine qfA (i := 8) (N := some 24) (rA_ [9, 4]) rfl rfl (qc5 HT_.out (by kernel_rfl)) (by decide) (fun K hK => ?_); refine qfz Tryz.func154 (by kernel_rfl) rfl #[.int .i64 (wrap64 (-((qae l0 qcQ).f1))), .int .i64 ((qae l0 qcQ).f0)] (by rfl) rfl rfl qbK ?_
   with_reducible refine (qcw.calls (wrap64 (-((qae l0 qcQ).f1))) ((qae l0 qcQ).f0) qcf _ A8.out).mono ?_
   rintro e w' ⟨rfl, ⟨nd, rfl⟩⟩; refine ⟨_, rfl, ?_⟩; refine hK.out _ _ ⟨qed qg7.out, qbB qg7.out⟩ (fun hHeld => ?_); clear hK K; refine nm_ 24 ?_; refine pu_ 9 25 [10, 3] ?_; refine qfA (i := 10) (N := some 26) (rA_ [11, 2]) rfl rfl (qc5 HT_.out (by kernel_rfl)) (by decide) (fun K hK => ?_); refine qiK (w1 := ?_) (v := ?_) (by rfl) rfl ?_ ?_; rotate_left 2
   ·go_simp; constructor
    ·rfl
    rfl
   refine hK.out _ _ ⟨(qa7 (qaj qg7.out _) 0).trans rfl, (qa7 (qaj qg7.out _) 1).trans rfl⟩ (fun hHeld => ?_); clear hK K; refine nm_ 26 ?_; refine qfA (i := 11) (N := some 27) (rA_ [12, 1]) rfl rfl (qc5 HT_.out (by kernel_rfl)) (by decide) (fun K hK => ?_); refine Kd.qeT qaN (w0 := w) w.heap.size (by rfl) (.tmp 16) (.tmp 26) 26 85 (.agg #[(.int .i64 0), (.int .i64 0)]) 16 rfl Tryz.underlying26 qfQ rfl (by decide) (by omega) u4 qcs (⟨(qae l0 qcQ).f0, qcf⟩ : qac) [.int .i64 ((qae l0 qcQ).f0), .int .i64 qcf] (fun k_ => k_ ≠ qgP) (fun _ => False) rfl rfl ?aP (fun _ hk => hk.elim) ?aF ?aO ?aB ?aS ?aL ?_
   (case aP => exact qdo _ _ _ (⟨(qae l0 qcQ).f0, qcf⟩ : qac))
   (case aB => exact (by apply_rules only [HB.out, qai, qaf, qah, qap, GE103.out]))
   (case aF => exact (fun k_ hk => Kd.qm0 (g := qgP) (o := .cells #[.int .i64 ((qae l0 qcQ).f0), .int .i64 ((qae l0 qcQ).f1)] 85 (0, 0)) (by apply_rules only [qg7.out, qal, qan, qaj]) k_ hk))
   (case aO => exact qjI)
   (case aS => exact (qab (by apply_rules only [HB.out, qai, qaf, qah, qap, GE103.out])))
   (case aL => have := LMc9.out; omega)
   intro qqI w14 ho hb hg hat; rw [← qhi.out] at ho; replace qg7 := ak_ (qev (g := qgP) (o := .cells #[.int .i64 ((qae l0 qcQ).f0), .int .i64 ((qae l0 qcQ).f1)] 85 (0, 0)) (by apply_rules only [qg7.out, qal, qan, qaj]) hg (Kd.qmC qdn.out (fun _ hk => hk))); replace HB := ak_ (hb); have qe2 := ak_ (ho); clear qdn; clear ho hb hg hat; refine hK.out _ _ ⟨qed qg7.out, qbB qg7.out⟩ (fun hHeld => ?_); clear hK K; refine nm_ 27 ?_; refine pu_ 12 4 [13] ?_; refine qf4 (qeC HT_.out (by kernel_rfl)) ?_
   try go_wp2
   go_roundg k1
   case measure => have := HK1.out; omega
   case rel => exact ⟨(qhD), (wrap64 (qcQ + 1)), qav, H', ⟨qc9⟩, ⟨by (with_reducible repeat (first | apply Kd.qaq | apply Kd.qar | apply Kd.qaC)); exact Kd.qa8 qe2.out (fun _ hk => trivial)⟩, ⟨by apply_rules only [HB.out, qai, qaf, qah, qap, GE103.out]⟩⟩
def qbO.l0 : Nat → Int → Int → Option (Int)
 | 0, _, _ => none
 | k + 1, x0, x1 => if x1 > 0 then (if x1 = 0 then (none) else (qbO.l0 k x1 (Int.tmod x0 x1))) else (some x0)
def qbO.f (k : Nat) (a0 : Int) (a1 : Int) : Option (Int) := qbO.l0 k a0 a1
theorem qbO.calls (k : Nat) (a0 : Int) (a1 : Int) (r : Int) (w : World) (h : qbO.f k a0 a1 = some r) :
  Calls Tryz.prog 208 #[.int .i64 a0, .int .i64 a1] w fun e w' => e = .returned (.int .i64 r) ∧ qcX w w' := by
 have H : (qbO.l0 k a0 a1) = some r := h; clear h; have H' := ak_ H; clear H; go_enter Tryz.func208, Tryz.ntmps208; go_wp2
 repeat (go_quiet (fail); try go_wp2)
 go_loopg [0, 1] k (fun kq v0 v1 w' => ∃ (qfq : Int) (qgI : Int), v0 = .int .i64 qfq ∧ v1 = .int .i64 qgI ∧ qag (qbO.l0 kq qfq qgI = some r) ∧ qag (kq ≤ k) ∧ qcX w w')
 case atStart => exact ⟨(a0), (a1), qav, qav, H', ⟨Nat.le_refl _⟩, qc2⟩
 case round =>
  clear H'; obtain ⟨qfq, qgI, rfl, rfl, HA, HK1, ⟨m1, rfl⟩⟩ := hrel
  cases gk with
  | zero => exact absurd HA.out (by simp [qbO.l0])
  | succ k1 =>
   have H := HA.out; clear HA; simp only [qbO.l0] at H; by_cases c3 : qgI > 0; rotate_left
   ·rw [if_neg c3] at H; have qff : decide (0 < qgI) = false := decide_eq_false c3; clear c3; obtain rfl := Option.some.inj H; go_wp2
    repeat (go_quiet (fail); try go_wp2)
    go_ret
    exact ⟨qav, qc2⟩
   rw [if_pos c3] at H; have qff : decide (0 < qgI) = true := decide_eq_true c3; clear c3; by_cases c4 : qgI = 0
   ·rw [if_pos c4] at H; exact absurd H (by simp)
   rw [if_neg c4] at H; have qfx : (qgI == 0) = false := beq_eq_false_iff_ne.mpr c4; have qlW : (qgI != 0) = true := bne_iff_ne.mpr c4; have H' := ak_ H; clear H; go_wp2
   repeat (go_quiet (fail); try go_wp2)
   go_roundg k1
   case measure => have := HK1.out; omega
   case rel => exact ⟨(qgI), (Int.tmod qfq qgI), qav, qav, H', ⟨qc9⟩, qc2⟩
def qbd.l0 : Nat → Int → List (qac) → Int → Int → Option (Int)
 | 0, _, _, _, _ => none
 | k + 1, x3, x6, x7, x8 => if x8 < x7 then (if 0 ≤ x8 then (if x8 < (x6.length : Int) then ((qbO.f k x3 ((qae x6 x8).f0)).bind fun qb7 => (if qb7 = 0 then (none) else (if (wrap64 ((wrap64 (Int.tdiv x3 qb7)) * ((qae x6 x8).f0))) > 100000 then (some 0) else (qbd.l0 k (wrap64 ((wrap64 (Int.tdiv x3 qb7)) * ((qae x6 x8).f0))) x6 x7 (wrap64 (x8 + 1)))))) else (none)) else (none)) else (some x3)
def qbd.f (k : Nat) (l0 : List (qac)) : Option (Int) := qbd.l0 k 1 l0 (l0.length : Int) 0
theorem qbd.calls (k : Nat) (A0 : Option Addr) (c0 : Nat) (l0 : List (qac)) (r : Int) (w : World) (hr0 : Kd.C qaN w A0 l0.length l0) (hc0 : l0.length ≤ c0) (h : qbd.f k l0 = some r) :
  Calls Tryz.prog 155 #[.slice A0 l0.length c0] w fun e w' => e = .returned (.int .i64 r) ∧ Below w.heap.size w w' := by
 have qms := Tryz.underlying85; have HR0 := ak_ hr0; have HC0 := ak_ hc0; clear hr0 hc0; have HB := ak_ (Below.refl w.heap.size w); have H : (qbd.l0 k 1 l0 (l0.length : Int) 0) = some r := h; clear h; have H' := ak_ H; clear H; go_enter Tryz.func155, Tryz.ntmps155; go_wp2
 repeat (go_quiet (fail); try go_wp2)
 go_loopg [3, 8] k (fun kq v3 v8 w' => ∃ (qbg : Int) (qcM : Int), v3 = .int .i64 qbg ∧ v8 = .int .i64 qcM ∧ qag (qbd.l0 kq qbg l0 (l0.length : Int) qcM = some r) ∧ qag (kq ≤ k) ∧ qag (Below w.heap.size w w'))
 case atStart => exact ⟨(1), (0), qav, qav, H', ⟨Nat.le_refl _⟩, ⟨qam⟩⟩
 case round =>
  clear H'; obtain ⟨qbg, qcM, rfl, rfl, HA, HK1, HB⟩ := hrel
  cases gk with
  | zero => exact absurd HA.out (by simp [qbd.l0])
  | succ k1 =>
   have H := HA.out; clear HA; simp only [qbd.l0] at H; by_cases c2 : qcM < (l0.length : Int); rotate_left
   ·rw [if_neg c2] at H; have qfe : decide (qcM < (l0.length : Int)) = false := decide_eq_false c2; clear c2; obtain rfl := Option.some.inj H; go_wp2
    repeat (go_quiet (fail); try go_wp2)
    go_ret
    exact ⟨qce, qam⟩
   rw [if_pos c2] at H; have qfe : decide (qcM < (l0.length : Int)) = true := decide_eq_true c2; clear c2; by_cases c3 : 0 ≤ qcM; rotate_left
   ·rw [if_neg c3] at H; exact absurd H (by simp)
   rw [if_pos c3] at H; have qff : decide (0 ≤ qcM) = true := decide_eq_true c3; clear c3; by_cases c4 : qcM < (l0.length : Int); rotate_left
   ·rw [if_neg c4] at H; exact absurd H (by simp)
   rw [if_pos c4] at H; have qfx : decide (qcM < (l0.length : Int)) = true := decide_eq_true c4; clear c4; obtain ⟨qb7, A5, H⟩ := qaw H; (try dsimp only at H); by_cases c6 : qb7 = 0
   ·rw [if_pos c6] at H; exact absurd H (by simp)
   rw [if_neg c6] at H; have qfY : (qb7 == 0) = false := beq_eq_false_iff_ne.mpr c6; have qmK : (qb7 != 0) = true := bne_iff_ne.mpr c6; by_cases c7 : (wrap64 ((wrap64 (Int.tdiv qbg qb7)) * ((qae l0 qcM).f0))) > 100000
   ·rw [if_pos c7] at H; have qgM : decide (100000 < (wrap64 ((wrap64 (Int.tdiv qbg qb7)) * ((qae l0 qcM).f0)))) = true := decide_eq_true c7; clear c7; obtain rfl := Option.some.inj H; have qeE : 0 ≤ (qcM : Int) := of_decide_eq_true qaU; have qeI : qcM < (l0.length : Int) := of_decide_eq_true qaU; obtain ⟨qgB, qha, qbj, qcp⟩ := qdV HR0.out qcM qeE qeI
    cases qha
    replace qbj := (HB.out.cell (World.block_lt_of_cell? w _ qbj)).trans qbj; replace qcp := (HB.out.cell (World.block_lt_of_cell? w _ qcp)).trans qcp; replace qeE := eq_true qeE; replace qeI := eq_true qeI
    go_wp2_with (first | ((with_reducible refine qak (N := 5) rfl ?_); refine bx_ 5 rfl (cs := #[.int .i64 0, .int .i64 0]) (t := 85) qbb ?_; intro qej hg w8 hbox hb; have qcr := ak_ (hbox); have qgp := ak_ (HB.ge hg); have qgj := ak_ (HB.ge hg); replace HB := HB.mw hb; clear hb hbox hg; obtain ⟨qhq, qhr, qhs, qht⟩ := qbG qcr.out) | (go_at_call 208; (with_reducible refine (qbO.calls k1 qbg ((qae l0 qcM).f0) qb7 _ A5.out).mono ?_); rintro e w' ⟨rfl, ⟨nd, rfl⟩⟩; (try first | exact ⟨rfl, _, World.drewN_drewN _ _ _⟩ | exact ⟨rfl, _, Eq.trans (World.drewN_drewN _ _ _) (congrArg (World.drewN _) (Nat.add_assoc _ _ _))⟩)))
    repeat (go_quiet (first | ((with_reducible refine qak (N := 5) rfl ?_); refine bx_ 5 rfl (cs := #[.int .i64 0, .int .i64 0]) (t := 85) qbb ?_; intro qej hg w8 hbox hb; have qcr := ak_ (hbox); have qgp := ak_ (HB.ge hg); have qgj := ak_ (HB.ge hg); replace HB := HB.mw hb; clear hb hbox hg; obtain ⟨qhq, qhr, qhs, qht⟩ := qbG qcr.out) | (go_at_call 208; (with_reducible refine (qbO.calls k1 qbg ((qae l0 qcM).f0) qb7 _ A5.out).mono ?_); rintro e w' ⟨rfl, ⟨nd, rfl⟩⟩; (try first | exact ⟨rfl, _, World.drewN_drewN _ _ _⟩ | exact ⟨rfl, _, Eq.trans (World.drewN_drewN _ _ _) (congrArg (World.drewN _) (Nat.add_assoc _ _ _))⟩))); try go_wp2_with (first | ((with_reducible refine qak (N := 5) rfl ?_); refine bx_ 5 rfl (cs := #[.int .i64 0, .int .i64 0]) (t := 85) qbb ?_; intro qej hg w8 hbox hb; have qcr := ak_ (hbox); have qgp := ak_ (HB.ge hg); have qgj := ak_ (HB.ge hg); replace HB := HB.mw hb; clear hb hbox hg; obtain ⟨qhq, qhr, qhs, qht⟩ := qbG qcr.out) | (go_at_call 208; (with_reducible refine (qbO.calls k1 qbg ((qae l0 qcM).f0) qb7 _ A5.out).mono ?_); rintro e w' ⟨rfl, ⟨nd, rfl⟩⟩; (try first | exact ⟨rfl, _, World.drewN_drewN _ _ _⟩ | exact ⟨rfl, _, Eq.trans (World.drewN_drewN _ _ _) (congrArg (World.drewN _) (Nat.add_assoc _ _ _))⟩))))
    go_ret
    exact ⟨qce, qmt⟩
   rw [if_neg c7] at H; have qgM : decide (100000 < (wrap64 ((wrap64 (Int.tdiv qbg qb7)) * ((qae l0 qcM).f0)))) = false := decide_eq_false c7; clear c7; have H' := ak_ H; clear H; have qeE : 0 ≤ (qcM : Int) := of_decide_eq_true qaU; have qeI : qcM < (l0.length : Int) := of_decide_eq_true qaU; obtain ⟨qgB, qha, qbj, qcp⟩ := qdV HR0.out qcM qeE qeI
   cases qha
   replace qbj := (HB.out.cell (World.block_lt_of_cell? w _ qbj)).trans qbj; replace qcp := (HB.out.cell (World.block_lt_of_cell? w _ qcp)).trans qcp; replace qeE := eq_true qeE; replace qeI := eq_true qeI
   go_wp2_with (first | ((with_reducible refine qak (N := 5) rfl ?_); refine bx_ 5 rfl (cs := #[.int .i64 0, .int .i64 0]) (t := 85) qbb ?_; intro qej hg w10 hbox hb; have qcr := ak_ (hbox); have qgp := ak_ (HB.ge hg); have qgj := ak_ (HB.ge hg); replace HB := HB.mw hb; clear hb hbox hg; obtain ⟨qf5, qf6, qf7, qf8⟩ := qbG qcr.out) | (go_at_call 208; (with_reducible refine (qbO.calls k1 qbg ((qae l0 qcM).f0) qb7 _ A5.out).mono ?_); rintro e w' ⟨rfl, ⟨nd, rfl⟩⟩; (try first | exact ⟨rfl, _, World.drewN_drewN _ _ _⟩ | exact ⟨rfl, _, Eq.trans (World.drewN_drewN _ _ _) (congrArg (World.drewN _) (Nat.add_assoc _ _ _))⟩)))
   repeat (go_quiet (first | ((with_reducible refine qak (N := 5) rfl ?_); refine bx_ 5 rfl (cs := #[.int .i64 0, .int .i64 0]) (t := 85) qbb ?_; intro qej hg w10 hbox hb; have qcr := ak_ (hbox); have qgp := ak_ (HB.ge hg); have qgj := ak_ (HB.ge hg); replace HB := HB.mw hb; clear hb hbox hg; obtain ⟨qf5, qf6, qf7, qf8⟩ := qbG qcr.out) | (go_at_call 208; (with_reducible refine (qbO.calls k1 qbg ((qae l0 qcM).f0) qb7 _ A5.out).mono ?_); rintro e w' ⟨rfl, ⟨nd, rfl⟩⟩; (try first | exact ⟨rfl, _, World.drewN_drewN _ _ _⟩ | exact ⟨rfl, _, Eq.trans (World.drewN_drewN _ _ _) (congrArg (World.drewN _) (Nat.add_assoc _ _ _))⟩))); try go_wp2_with (first | ((with_reducible refine qak (N := 5) rfl ?_); refine bx_ 5 rfl (cs := #[.int .i64 0, .int .i64 0]) (t := 85) qbb ?_; intro qej hg w10 hbox hb; have qcr := ak_ (hbox); have qgp := ak_ (HB.ge hg); have qgj := ak_ (HB.ge hg); replace HB := HB.mw hb; clear hb hbox hg; obtain ⟨qf5, qf6, qf7, qf8⟩ := qbG qcr.out) | (go_at_call 208; (with_reducible refine (qbO.calls k1 qbg ((qae l0 qcM).f0) qb7 _ A5.out).mono ?_); rintro e w' ⟨rfl, ⟨nd, rfl⟩⟩; (try first | exact ⟨rfl, _, World.drewN_drewN _ _ _⟩ | exact ⟨rfl, _, Eq.trans (World.drewN_drewN _ _ _) (congrArg (World.drewN _) (Nat.add_assoc _ _ _))⟩))))
   go_roundg k1
   case measure => have := HK1.out; omega
   case rel => exact ⟨(wrap64 ((wrap64 (Int.tdiv qbg qb7)) * ((qae l0 qcM).f0))), (wrap64 (qcM + 1)), qav, qav, H', ⟨qc9⟩, ⟨qmt⟩⟩
def qct.l0 : Nat → Int → List (qac) → Int → Int → Option (Int)
 | 0, _, _, _, _ => none
 | k + 1, x1, x7, x8, x9 => if x9 < x8 then (if 0 ≤ x9 then (if x9 < (x7.length : Int) then ((qcw.f x1 ((qae x7 x9).f0)).bind fun qb7 => (if qb7 = ((qae x7 x9).f1) then (some x9) else (qct.l0 k x1 x7 x8 (wrap64 (x9 + 1))))) else (none)) else (none)) else (some (-1))
def qct.f (k : Nat) (l0 : List (qac)) (a1 : Int) : Option (Int) := qct.l0 k a1 l0 (l0.length : Int) 0
theorem qct.calls (k : Nat) (A0 : Option Addr) (c0 : Nat) (l0 : List (qac)) (a1 : Int) (r : Int) (w : World) (hr0 : Kd.C qaN w A0 l0.length l0) (hc0 : l0.length ≤ c0) (h : qct.f k l0 a1 = some r) :
  Calls Tryz.prog 211 #[.slice A0 l0.length c0, .int .i64 a1] w fun e w' => e = .returned (.int .i64 r) ∧ Below w.heap.size w w' := by
 have qms := Tryz.underlying85; have HR0 := ak_ hr0; have HC0 := ak_ hc0; clear hr0 hc0; have HB := ak_ (Below.refl w.heap.size w); have H : (qct.l0 k a1 l0 (l0.length : Int) 0) = some r := h; clear h; have H' := ak_ H; clear H; go_enter Tryz.func211, Tryz.ntmps211; go_wp2
 repeat (go_quiet (fail); try go_wp2)
 go_loopg [9] k (fun kq v9 w' => ∃ (qcE : Int), v9 = .int .i64 qcE ∧ qag (qct.l0 kq a1 l0 (l0.length : Int) qcE = some r) ∧ qag (kq ≤ k) ∧ qag (Below w.heap.size w w'))
 case atStart => exact ⟨(0), qav, H', ⟨Nat.le_refl _⟩, ⟨qam⟩⟩
 case round =>
  clear H'; obtain ⟨qcE, rfl, HA, HK1, HB⟩ := hrel
  cases gk with
  | zero => exact absurd HA.out (by simp [qct.l0])
  | succ k1 =>
   have H := HA.out; clear HA; simp only [qct.l0] at H; by_cases c3 : qcE < (l0.length : Int); rotate_left
   ·rw [if_neg c3] at H; have qff : decide (qcE < (l0.length : Int)) = false := decide_eq_false c3; clear c3; obtain rfl := Option.some.inj H; go_wp2
    repeat (go_quiet (fail); try go_wp2)
    go_ret
    exact ⟨qce, qam⟩
   rw [if_pos c3] at H; have qff : decide (qcE < (l0.length : Int)) = true := decide_eq_true c3; clear c3; by_cases c4 : 0 ≤ qcE; rotate_left
   ·rw [if_neg c4] at H; exact absurd H (by simp)
   rw [if_pos c4] at H; have qfx : decide (0 ≤ qcE) = true := decide_eq_true c4; clear c4; by_cases c5 : qcE < (l0.length : Int); rotate_left
   ·rw [if_neg c5] at H; exact absurd H (by simp)
   rw [if_pos c5] at H; have qgH : decide (qcE < (l0.length : Int)) = true := decide_eq_true c5; clear c5; obtain ⟨qb7, A6, H⟩ := qaw H; (try dsimp only at H); by_cases c7 : qb7 = ((qae l0 qcE).f1)
   ·rw [if_pos c7] at H; have qgM : (qb7 == ((qae l0 qcE).f1)) = true := beq_iff_eq.mpr c7; have qmr : (qb7 != ((qae l0 qcE).f1)) = false := bne_eq_false_iff_eq.mpr c7; clear c7; obtain rfl := Option.some.inj H; have qeE : 0 ≤ (qcE : Int) := of_decide_eq_true qaU; have qeI : qcE < (l0.length : Int) := of_decide_eq_true qaU; obtain ⟨qgB, qha, qbj, qcp⟩ := qdV HR0.out qcE qeE qeI
    cases qha
    replace qbj := (HB.out.cell (World.block_lt_of_cell? w _ qbj)).trans qbj; replace qcp := (HB.out.cell (World.block_lt_of_cell? w _ qcp)).trans qcp; replace qeE := eq_true qeE; replace qeI := eq_true qeI
    go_wp2_with (first | ((with_reducible refine qak (N := 6) rfl ?_); refine bx_ 6 rfl (cs := #[.int .i64 0, .int .i64 0]) (t := 85) qbb ?_; intro qej hg w8 hbox hb; have qcr := ak_ (hbox); have qgp := ak_ (HB.ge hg); have qgj := ak_ (HB.ge hg); replace HB := HB.mw hb; clear hb hbox hg; obtain ⟨qhq, qhr, qhs, qht⟩ := qbG qcr.out) | (go_at_call 154; (with_reducible refine (qcw.calls a1 ((qae l0 qcE).f0) qb7 _ A6.out).mono ?_); rintro e w' ⟨rfl, ⟨nd, rfl⟩⟩; (try first | exact ⟨rfl, _, World.drewN_drewN _ _ _⟩ | exact ⟨rfl, _, Eq.trans (World.drewN_drewN _ _ _) (congrArg (World.drewN _) (Nat.add_assoc _ _ _))⟩)))
    repeat (go_quiet (first | ((with_reducible refine qak (N := 6) rfl ?_); refine bx_ 6 rfl (cs := #[.int .i64 0, .int .i64 0]) (t := 85) qbb ?_; intro qej hg w8 hbox hb; have qcr := ak_ (hbox); have qgp := ak_ (HB.ge hg); have qgj := ak_ (HB.ge hg); replace HB := HB.mw hb; clear hb hbox hg; obtain ⟨qhq, qhr, qhs, qht⟩ := qbG qcr.out) | (go_at_call 154; (with_reducible refine (qcw.calls a1 ((qae l0 qcE).f0) qb7 _ A6.out).mono ?_); rintro e w' ⟨rfl, ⟨nd, rfl⟩⟩; (try first | exact ⟨rfl, _, World.drewN_drewN _ _ _⟩ | exact ⟨rfl, _, Eq.trans (World.drewN_drewN _ _ _) (congrArg (World.drewN _) (Nat.add_assoc _ _ _))⟩))); try go_wp2_with (first | ((with_reducible refine qak (N := 6) rfl ?_); refine bx_ 6 rfl (cs := #[.int .i64 0, .int .i64 0]) (t := 85) qbb ?_; intro qej hg w8 hbox hb; have qcr := ak_ (hbox); have qgp := ak_ (HB.ge hg); have qgj := ak_ (HB.ge hg); replace HB := HB.mw hb; clear hb hbox hg; obtain ⟨qhq, qhr, qhs, qht⟩ := qbG qcr.out) | (go_at_call 154; (with_reducible refine (qcw.calls a1 ((qae l0 qcE).f0) qb7 _ A6.out).mono ?_); rintro e w' ⟨rfl, ⟨nd, rfl⟩⟩; (try first | exact ⟨rfl, _, World.drewN_drewN _ _ _⟩ | exact ⟨rfl, _, Eq.trans (World.drewN_drewN _ _ _) (congrArg (World.drewN _) (Nat.add_assoc _ _ _))⟩))))
    go_ret
    exact ⟨qce, qmt⟩
   rw [if_neg c7] at H; have qgM : (qb7 == ((qae l0 qcE).f1)) = false := beq_eq_false_iff_ne.mpr c7; have qmr : (qb7 != ((qae l0 qcE).f1)) = true := bne_iff_ne.mpr c7; have H' := ak_ H; clear H; have qeE : 0 ≤ (qcE : Int) := of_decide_eq_true qaU; have qeI : qcE < (l0.length : Int) := of_decide_eq_true qaU; obtain ⟨qgB, qha, qbj, qcp⟩ := qdV HR0.out qcE qeE qeI
   cases qha
   replace qbj := (HB.out.cell (World.block_lt_of_cell? w _ qbj)).trans qbj; replace qcp := (HB.out.cell (World.block_lt_of_cell? w _ qcp)).trans qcp; replace qeE := eq_true qeE; replace qeI := eq_true qeI
   go_wp2_with (first | ((with_reducible refine qak (N := 6) rfl ?_); refine bx_ 6 rfl (cs := #[.int .i64 0, .int .i64 0]) (t := 85) qbb ?_; intro qej hg w10 hbox hb; have qcr := ak_ (hbox); have qgp := ak_ (HB.ge hg); have qgj := ak_ (HB.ge hg); replace HB := HB.mw hb; clear hb hbox hg; obtain ⟨qf5, qf6, qf7, qf8⟩ := qbG qcr.out) | (go_at_call 154; (with_reducible refine (qcw.calls a1 ((qae l0 qcE).f0) qb7 _ A6.out).mono ?_); rintro e w' ⟨rfl, ⟨nd, rfl⟩⟩; (try first | exact ⟨rfl, _, World.drewN_drewN _ _ _⟩ | exact ⟨rfl, _, Eq.trans (World.drewN_drewN _ _ _) (congrArg (World.drewN _) (Nat.add_assoc _ _ _))⟩)))
   repeat (go_quiet (first | ((with_reducible refine qak (N := 6) rfl ?_); refine bx_ 6 rfl (cs := #[.int .i64 0, .int .i64 0]) (t := 85) qbb ?_; intro qej hg w10 hbox hb; have qcr := ak_ (hbox); have qgp := ak_ (HB.ge hg); have qgj := ak_ (HB.ge hg); replace HB := HB.mw hb; clear hb hbox hg; obtain ⟨qf5, qf6, qf7, qf8⟩ := qbG qcr.out) | (go_at_call 154; (with_reducible refine (qcw.calls a1 ((qae l0 qcE).f0) qb7 _ A6.out).mono ?_); rintro e w' ⟨rfl, ⟨nd, rfl⟩⟩; (try first | exact ⟨rfl, _, World.drewN_drewN _ _ _⟩ | exact ⟨rfl, _, Eq.trans (World.drewN_drewN _ _ _) (congrArg (World.drewN _) (Nat.add_assoc _ _ _))⟩))); try go_wp2_with (first | ((with_reducible refine qak (N := 6) rfl ?_); refine bx_ 6 rfl (cs := #[.int .i64 0, .int .i64 0]) (t := 85) qbb ?_; intro qej hg w10 hbox hb; have qcr := ak_ (hbox); have qgp := ak_ (HB.ge hg); have qgj := ak_ (HB.ge hg); replace HB := HB.mw hb; clear hb hbox hg; obtain ⟨qf5, qf6, qf7, qf8⟩ := qbG qcr.out) | (go_at_call 154; (with_reducible refine (qcw.calls a1 ((qae l0 qcE).f0) qb7 _ A6.out).mono ?_); rintro e w' ⟨rfl, ⟨nd, rfl⟩⟩; (try first | exact ⟨rfl, _, World.drewN_drewN _ _ _⟩ | exact ⟨rfl, _, Eq.trans (World.drewN_drewN _ _ _) (congrArg (World.drewN _) (Nat.add_assoc _ _ _))⟩))))
   go_roundg k1
   case measure => have := HK1.out; omega
   case rel => exact ⟨(wrap64 (qcE + 1)), qav, H', ⟨qc9⟩, ⟨qmt⟩⟩
def qch.f (k : Nat) (l0 : List (qac)) (a1 : Int) : Option (Bool) := (qct.f k l0 a1).bind fun qas => (some (decide (qas < 0)))
theorem qch.calls (k : Nat) (A0 : Option Addr) (c0 : Nat) (l0 : List (qac)) (a1 : Int) (r : Bool) (w : World) (hr0 : Kd.C qaN w A0 l0.length l0) (hc0 : l0.length ≤ c0) (h : qch.f k l0 a1 = some r) :
  Calls Tryz.prog 173 #[.slice A0 l0.length c0, .int .i64 a1] w fun e w' => e = .returned (.bool r) ∧ Below w.heap.size w w' := by
 have HR0 := ak_ hr0; have HC0 := ak_ hc0; clear hr0 hc0; have HB := ak_ (Below.refl w.heap.size w); have H : ((qct.f k l0 a1).bind fun qas => (some (decide (qas < 0)))) = some r := h; clear h; obtain ⟨qas, A3, H⟩ := qaw H; (try dsimp only at H); obtain rfl := Option.some.inj H; go_enter Tryz.func173, Tryz.ntmps173
 go_wp2_with (first | (refine gl_ 7 Tryz.func211 #[.slice A0 l0.length c0, .int .i64 a1] rfl qbK ?_; (with_reducible refine (qct.calls k _ _ l0 a1 qas _ ?qay ?qaz A3.out).mono ?_); (case qay => exact qfM); (case qaz => exact qb6); rintro e w4 ⟨rfl, hb⟩; refine ⟨_, rfl, ?_⟩; replace HB := HB.mw hb; (try clear hb)))
 go_ret
 exact ⟨qce, qam⟩
def qbD.f (l0 : List (qac)) (a1 : Int) : Option ((List (qac))) := (some (([] : List (qac)) : List (qac))).bind fun qeS => (if 0 ≤ a1 then (if a1 ≤ (l0.length : Int) then ((some (l0.take (a1 : Int).toNat : List (qac))).bind fun qgn => (if qeS.length + qgn.length < 8796093022208 then ((some (qeS ++ qgn : List (qac))).bind fun qir => (if 0 ≤ (wrap64 (a1 + 1)) then (if (wrap64 (a1 + 1)) ≤ (l0.length : Int) then ((some (l0.drop ((wrap64 (a1 + 1)) : Int).toNat : List (qac))).bind fun qio => (if qir.length + qio.length < 8796093022208 then (some (qir ++ qio)) else (none))) else (none)) else (none))) else (none))) else (none)) else (none))
def qbD.T1 : Bool × List (List Nat × List Nat) := (true, [([], []), ([], []), ([], []), ([1, 2], [1, 2]), ([0, 3], [0, 3]), ([], []), ([], []), ([6], [6]), ([5, 7], [5, 7]), ([4, 8, 4], [4, 8]), ([9, 9, 0, 1, 2, 3, 4, 5, 6, 7, 8, 9], [9])])
def qbD.B1 : List Nat := [0, 0, 0, 6, 15, 0, 0, 64, 224, 511, 1023]
theorem qbD.tab1 : qhK .any (opsOf Tryz.f98 1) = qbD.T1 := by kernel_rfl
theorem qbD.bits1 : qeR qbD.T1.2 qbD.B1 = true := by kernel_rfl
theorem qbD.calls (A0 : Option Addr) (c0 : Nat) (l0 : List (qac)) (a1 : Int) (r : List (qac)) (w : World) (hr0 : Kd.C qaN w A0 l0.length l0) (hc0 : l0.length ≤ c0) (h : qbD.f l0 a1 = some r) :
  Calls Tryz.prog 98 #[.slice A0 l0.length c0, .int .i64 a1] w fun e w' => ∃ v0_ : Value, e = .returned (v0_) ∧ Kd.R qaN 85 w' w.heap.size (fun _ => True) v0_ r ∧ Below w.heap.size w w' := by
 have HR0 := ak_ hr0; have HC0 := ak_ hc0; clear hr0 hc0; have HB := ak_ (Below.refl w.heap.size w); have H : ((some (([] : List (qac)) : List (qac))).bind fun qeS => (if 0 ≤ a1 then (if a1 ≤ (l0.length : Int) then ((some (l0.take (a1 : Int).toNat : List (qac))).bind fun qgn => (if qeS.length + qgn.length < 8796093022208 then ((some (qeS ++ qgn : List (qac))).bind fun qir => (if 0 ≤ (wrap64 (a1 + 1)) then (if (wrap64 (a1 + 1)) ≤ (l0.length : Int) then ((some (l0.drop ((wrap64 (a1 + 1)) : Int).toNat : List (qac))).bind fun qio => (if qir.length + qio.length < 8796093022208 then (some (qir ++ qio)) else (none))) else (none)) else (none))) else (none))) else (none)) else (none))) = some r := h; clear h
 obtain ⟨qeS, hy_⟩ : ∃ y_ : List (qac), y_ = (([] : List (qac))) := ⟨_, rfl⟩
 replace H : (if 0 ≤ a1 then (if a1 ≤ (l0.length : Int) then ((some (l0.take (a1 : Int).toNat : List (qac))).bind fun qgn => (if qeS.length + qgn.length < 8796093022208 then ((some (qeS ++ qgn : List (qac))).bind fun qir => (if 0 ≤ (wrap64 (a1 + 1)) then (if (wrap64 (a1 + 1)) ≤ (l0.length : Int) then ((some (l0.drop ((wrap64 (a1 + 1)) : Int).toNat : List (qac))).bind fun qio => (if qir.length + qio.length < 8796093022208 then (some (qir ++ qio)) else (none))) else (none)) else (none))) else (none))) else (none)) else (none)) = some r := qe6; have qeb := ak_ hy_; clear hy_; by_cases c3 : 0 ≤ a1; rotate_left
 ·rw [if_neg c3] at H; exact absurd H (by simp)
 rw [if_pos c3] at H; have qff := eq_true c3; have qlV : decide (0 ≤ a1) = true := decide_eq_true c3; clear c3; by_cases c4 : a1 ≤ (l0.length : Int); rotate_left
 ·rw [if_neg c4] at H; exact absurd H (by simp)
 rw [if_pos c4] at H; have qfx := eq_true c4; have qlW : decide (a1 ≤ (l0.length : Int)) = true := decide_eq_true c4; clear c4
 obtain ⟨qgn, hy_⟩ : ∃ y_ : List (qac), y_ = (l0.take (a1 : Int).toNat) := ⟨_, rfl⟩
 replace H : (if qeS.length + qgn.length < 8796093022208 then ((some (qeS ++ qgn : List (qac))).bind fun qir => (if 0 ≤ (wrap64 (a1 + 1)) then (if (wrap64 (a1 + 1)) ≤ (l0.length : Int) then ((some (l0.drop ((wrap64 (a1 + 1)) : Int).toNat : List (qac))).bind fun qio => (if qir.length + qio.length < 8796093022208 then (some (qir ++ qio)) else (none))) else (none)) else (none))) else (none)) = some r := qe6; have qiu := ak_ hy_; clear hy_; by_cases c5 : qeS.length + qgn.length < 8796093022208; rotate_left
 ·rw [if_neg c5] at H; exact absurd H (by simp)
 rw [if_pos c5] at H; have LMc5 := ak_ c5; clear c5
 obtain ⟨qir, hy_⟩ : ∃ y_ : List (qac), y_ = (qeS ++ qgn) := ⟨_, rfl⟩
 replace H : (if 0 ≤ (wrap64 (a1 + 1)) then (if (wrap64 (a1 + 1)) ≤ (l0.length : Int) then ((some (l0.drop ((wrap64 (a1 + 1)) : Int).toNat : List (qac))).bind fun qio => (if qir.length + qio.length < 8796093022208 then (some (qir ++ qio)) else (none))) else (none)) else (none)) = some r := qe6; have qnX := ak_ hy_; clear hy_
 obtain ⟨ji6, hji6⟩ : ∃ j_ : Int, (wrap64 (a1 + 1)) = j_ := ⟨_, rfl⟩
 replace H : (if 0 ≤ (ji6) then (if (ji6) ≤ (l0.length : Int) then ((some (l0.drop ((ji6) : Int).toNat : List (qac))).bind fun qio => (if qir.length + qio.length < 8796093022208 then (some (qir ++ qio)) else (none))) else (none)) else (none)) = some r := by first | (rw [hji6] at H; exact H) | (simp only [hji6] at H ⊢; exact H)
 have hji6w : (IntKind.i64.wrap (a1 + 1)) = ji6 := (qcF _).trans hji6; by_cases c7 : 0 ≤ (ji6); rotate_left
 ·rw [if_neg c7] at H; exact absurd H (by simp)
 rw [if_pos c7] at H; have qgM := eq_true c7; have qmr : decide (0 ≤ (ji6)) = true := decide_eq_true c7; clear c7; by_cases c8 : (ji6) ≤ (l0.length : Int); rotate_left
 ·rw [if_neg c8] at H; exact absurd H (by simp)
 rw [if_pos c8] at H; have qnK := eq_true c8; have c8b1 : decide ((ji6) ≤ (l0.length : Int)) = true := decide_eq_true c8; clear c8
 obtain ⟨qio, hy_⟩ : ∃ y_ : List (qac), y_ = (l0.drop ((ji6) : Int).toNat) := ⟨_, rfl⟩
 replace H : (if qir.length + qio.length < 8796093022208 then (some (qir ++ qio)) else (none)) = some r := qe6; have Ny111 := ak_ hy_; clear hy_; by_cases c9 : qir.length + qio.length < 8796093022208; rotate_left
 ·rw [if_neg c9] at H; exact absurd H (by simp)
 rw [if_pos c9] at H; have LMc9 := ak_ c9; clear c9
 obtain ⟨y115, hy_⟩ : ∃ y_ : List (qac), y_ = (qir ++ qio) := ⟨_, rfl⟩
 replace H : (some y115) = some r := qe6; have Ny115 := ak_ hy_; clear hy_; obtain rfl := Option.some.inj H; go_enter Tryz.func98, Tryz.ntmps98
 try go_wp2
 replace HB := ak_ (qah HB.out); have q11 : (a1 : Int) ≤ ((l0.length : Int) : Int) := of_decide_eq_true qaU; obtain ⟨i011, hi011, _, hsz11, _⟩ := info_parts qfQ; have qr2 : l0.length ≤ c0 := HC0.out; have hC11 : Kd.C qaN _ A0 l0.length l0 := HR0.out; have hcut11 := qj0 (P := Tryz.prog) 26 85 .i64 Tryz.underlying26 hi011 A0 l0.length c0 a1 (of_decide_eq_true qaU) q11 qr2; have hr11 := Kd.qmw (m := (a1 : Int).toNat) hC11 (by omega)
 have hy11 : qgn.length = (a1 : Int).toNat := (by rw [qiu.out, List.length_take]; omega)
 rw [← qiu.out] at hr11; rw [← hy11] at hcut11; have HR107 := ak_ hr11; have HC107 := ak_ (show qgn.length ≤ c0 from by omega); clear hr11 hC11 qr2 hi011 hsz11; have KY11 := ak_ hy11; clear hy11; replace q11 := eq_true q11; have q12 : ((ji6) : Int) ≤ ((l0.length : Int) : Int) := of_decide_eq_true qaU; obtain ⟨i012, hi012, _, hsz12, _⟩ := info_parts qfQ; have qoy : l0.length ≤ c0 := HC0.out; have hC12 : Kd.C qaN _ A0 l0.length l0 := HR0.out; have q012 : (0 : Int) ≤ ((ji6) : Int) := of_decide_eq_true qaU; have hcut12 := qjE (P := Tryz.prog) 26 85 .i64 Tryz.underlying26 hi012 2 hsz12 A0 l0.length c0 (ji6) q012 q12; have hr12 := Kd.C_drop (m := ((ji6) : Int).toNat) (c := c0) hC12 (by omega) qoy
 obtain ⟨A12, hA12⟩ : ∃ A1, A1 = (if c0 = ((ji6) : Int).toNat then A0 else (A0 : Option Addr).map (·.add (((ji6) : Int).toNat * 2))) := ⟨_, rfl⟩
 obtain ⟨c12, hc12⟩ : ∃ c1, c1 = c0 - ((ji6) : Int).toNat := ⟨_, rfl⟩
 have hy12 : qio.length = l0.length - ((ji6) : Int).toNat := (by rw [Ny111.out, List.length_drop] <;> omega)
 rw [show (l0).drop ((ji6) : Int).toNat = qio from Ny111.out.symm] at hr12
 replace hr12 : Kd.C qaN _ A12 qio.length qio := (by rw [hA12]; exact hr12)
 rw [← hy12, ← hA12, ← hc12] at hcut12; have HR114 := ak_ hr12; have HC114 := ak_ (show qio.length ≤ c12 from by rw [hy12, hc12]; exact Nat.sub_le_sub_right qoy _); clear hr12 hC12 qoy hi012 hsz12 hc12; have KY12 := ak_ hy12; have KA12 := ak_ hA12; clear hy12 hA12; replace q12 := eq_true q12; refine qeQ (n := 11) (S := fun w' => True) (ds := []) (rA_ [0, 11]) (by kernel_rfl) rfl rfl trivial (fun hHeld => ?_); refine qdp qbD.tab1 qbD.bits1 (fun HT_ HW_ => ?_)
 generalize w.drew = w10 at HB HR107 HR114 hHeld ⊢
 refine pu_ 1 6 [0, 1, 1, 9] ?_; refine pu_ 2 7 [0, 1, 2, 8] ?_; refine pu_ 3 8 [0, 1, 3, 7] ?_; refine pu_ 5 10 [0, 1, 3, 1, 1, 5] ?_; refine pu_ 6 11 [0, 1, 3, 1, 2, 4] ?_; refine pu_ 7 12 [0, 1, 3, 1, 3, 3] ?_; refine pu_ 8 13 [0, 1, 3, 1, 4, 2] ?_; refine qfA (i := 0) (N := some 5) (rA_ [4, 1, 4, 2]) rfl rfl (qc5 HT_.out (by kernel_rfl)) (by decide) (fun K hK => ?_); refine Kd.qdR qaN _ 85 ?hg (N := 5) ?hd (xs := ([] : List (qac))) (inner := []) (ok := fun _ => True) (okp := fun _ => True) ?hr ?hp (fun _ hk => hk) trivial (Below.refl _ _) (Nat.le_refl _) (by simp) ?_; (case hd => rfl); (case hg => rfl); (case hr => exact qbb); (case hp => exact (qd9.none _ _)); intro qiq w13 qrY hb hg_ hnew_; clear hg_ hnew_; (first | rw [← qeb.out] at qrY | (simp only [Int.reduceToNat] at qrY; rw [← qeb.out] at qrY)); have qdi := ak_ (Kd.qau qrY (qab qam)); replace HB := HB.mw hb; clear hb qrY; refine hK.out _ _ trivial (fun hHeld => ?_); clear hK K; refine nm_ 5 ?_; refine qfA (i := 4) (N := some 9) (rA_ [9, 2]) rfl rfl (qc5 HT_.out (by kernel_rfl)) (by decide) (fun K hK => ?_); refine Kd.qb0 qaN (w0 := w) w.heap.size (by rfl) (.tmp 5) (.tmp 8) 26 85 (.agg #[(.int .i64 0), (.int .i64 0)]) 16 rfl Tryz.underlying26 qfQ rfl (by decide) (by omega) qiq qeS qgn _ _ _ (fun _ => True) (fun _ => False) rfl rfl ?aO ?aR (fun _ _ h => h) (fun _ h => h.elim) ?aF ?aB ?aS ?aL ?_
 (case aR => repeat (first | exact (Kd.qei HR107.out HB.out) | (with_reducible refine Kd.C_alloc ?_ _) | (with_reducible refine Kd.C_drewN ?_ _) | (with_reducible refine Kd.C_drew ?_)))
 (case aB => exact qam)
 (case aF => exact (fun _ _ => trivial))
 (case aO => exact qpM)
 (case aS => exact (qab qam))
 (case aL => have := LMc5.out; omega)
 intro v109 w15 ho hb hg hat; rw [← qnX.out] at ho; replace HB := ak_ (hb); have qmA := ak_ (ho); clear qdi; clear ho hb hg hat; refine hK.out _ _ trivial (fun hHeld => ?_); clear hK K; refine nm_ 9 ?_; refine qfA (i := 9) (N := some 14) (rA_ [10, 1]) rfl rfl (qc5 HT_.out (by kernel_rfl)) (by decide) (fun K hK => ?_); refine Kd.qb0 qaN (w0 := w) w.heap.size (by rfl) (.tmp 9) (.tmp 13) 26 85 (.agg #[(.int .i64 0), (.int .i64 0)]) 16 rfl Tryz.underlying26 qfQ rfl (by decide) (by omega) v109 qir qio _ _ _ (fun _ => True) (fun _ => False) rfl rfl ?aO ?aR (fun _ _ h => h) (fun _ h => h.elim) ?aF ?aB ?aS ?aL ?_
 (case aR => repeat (first | exact (Kd.qei HR114.out HB.out) | (with_reducible refine Kd.C_alloc ?_ _) | (with_reducible refine Kd.C_drewN ?_ _) | (with_reducible refine Kd.C_drew ?_)))
 (case aB => exact qam)
 (case aF => exact (fun _ _ => trivial))
 (case aO => exact (by apply_rules only [qmA.out, Kd.qaq, Kd.qar, Kd.qaC]))
 (case aS => exact (qab qam))
 (case aL => have := LMc9.out; omega)
 intro v116 w16 ho hb hg hat; rw [← Ny115.out] at ho; replace HB := ak_ (hb); have HO117 := ak_ (ho); clear qmA; clear ho hb hg hat; refine hK.out _ _ trivial (fun hHeld => ?_); clear hK K; refine nm_ 14 ?_; refine pu_ 10 4 [11] ?_; refine qf4 (qeC HT_.out (by kernel_rfl)) ?_
 try go_wp2
 go_ret
 exact ⟨_, by first | rfl | (simp [qdZ, qd0] <;> rfl) | (simp only [← hji6]; first | rfl | (simp [qdZ, qd0] <;> rfl)) | (simp [*, qdZ, qd0] <;> rfl), by (with_reducible repeat (first | apply Kd.qaq | apply Kd.qar | apply Kd.qaC)); exact HO117.out, qam⟩
def qbu.l0 : Nat → List (qac) → Int → Int → List (qac) → Int → Option (Bool)
 | 0, _, _, _, _, _ => none
 | k + 1, x0, x1, x2, x7, x8 => if x8 < x2 then ((qch.f k x7 x8).bind fun t105 => (if t105 = true then (some false) else (if 0 ≤ x1 then (if x1 < (x0.length : Int) then (qbu.l0 k x0 x1 x2 x7 (wrap64 (x8 + ((qae x0 x1).f0)))) else (none)) else (none)))) else (some true)
def qbu.f (k : Nat) (l0 : List (qac)) (a1 : Int) (a2 : Int) : Option (Bool) := (qbD.f l0 a1).bind fun qas => (if 0 ≤ a1 then (if a1 < (l0.length : Int) then (qbu.l0 k l0 a1 a2 qas ((qae l0 a1).f1)) else (none)) else (none))
theorem qbu.calls (k : Nat) (A0 : Option Addr) (c0 : Nat) (l0 : List (qac)) (a1 : Int) (a2 : Int) (r : Bool) (w : World) (hr0 : Kd.C qaN w A0 l0.length l0) (hc0 : l0.length ≤ c0) (h : qbu.f k l0 a1 a2 = some r) :
  Calls Tryz.prog 156 #[.slice A0 l0.length c0, .int .i64 a1, .int .i64 a2] w fun e w' => e = .returned (.bool r) ∧ Below w.heap.size w w' := by
 have HR0 := ak_ hr0; have HC0 := ak_ hc0; clear hr0 hc0; have HB := ak_ (Below.refl w.heap.size w); have H : ((qbD.f l0 a1).bind fun qas => (if 0 ≤ a1 then (if a1 < (l0.length : Int) then (qbu.l0 k l0 a1 a2 qas ((qae l0 a1).f1)) else (none)) else (none))) = some r := h; clear h; obtain ⟨qas, A4, H⟩ := qaw H; (try dsimp only at H); by_cases c5 : 0 ≤ a1; rotate_left
 ·rw [if_neg c5] at H; exact absurd H (by simp)
 rw [if_pos c5] at H; have qgH : decide (0 ≤ a1) = true := decide_eq_true c5; clear c5; by_cases c6 : a1 < (l0.length : Int); rotate_left
 ·rw [if_neg c6] at H; exact absurd H (by simp)
 rw [if_pos c6] at H; have qfY : decide (a1 < (l0.length : Int)) = true := decide_eq_true c6; clear c6; have H' := ak_ H; clear H; go_enter Tryz.func156, Tryz.ntmps156
 go_wp2_with (first | (refine gl_ 11 Tryz.func98 #[.slice A0 l0.length c0, .int .i64 a1] rfl qbK ?_; (with_reducible refine (qbD.calls _ _ l0 a1 qas _ ?qay ?qaz A4.out).mono ?_); (case qay => exact qfM); (case qaz => exact qb6); rintro e w7 ⟨qiq, rfl, ho0, hb⟩; refine ⟨_, rfl, ?_⟩; have qdi := ak_ (Kd.qau ho0 (qab qam)); replace HB := HB.mw hb; (try clear hb ho0); have qhc : 0 ≤ (a1 : Int) := of_decide_eq_true qaU; have qhd : a1 < (l0.length : Int) := of_decide_eq_true qaU; obtain ⟨qhP, qmU, qdW, qia⟩ := qdV HR0.out a1 qhc qhd; cases qmU; replace qdW := (HB.out.cell (World.block_lt_of_cell? w _ qdW)).trans qdW; replace qia := (HB.out.cell (World.block_lt_of_cell? w _ qia)).trans qia; replace qhc := eq_true qhc; replace qhd := eq_true qhd))
 go_loopg [8] k (fun kq v8 w' => ∃ (qcM : Int), v8 = .int .i64 qcM ∧ qag (qbu.l0 kq l0 a1 a2 qas qcM = some r) ∧ qag (kq ≤ k) ∧ qag (Kd.R qaN 85 w' w.heap.size (fun _ => True) qiq qas) ∧ qag (Below w.heap.size w w'))
 case atStart => exact ⟨((qae l0 a1).f1), qav, H', ⟨Nat.le_refl _⟩, ⟨qpM⟩, ⟨qam⟩⟩
 case round =>
  clear H'
  skip
  obtain ⟨qcM, rfl, HA, HK1, qit, HB⟩ := hrel
  cases gk with
  | zero => exact absurd HA.out (by simp [qbu.l0])
  | succ k1 =>
   have H := HA.out; clear HA; simp only [qbu.l0] at H; by_cases c8 : qcM < a2; rotate_left
   ·rw [if_neg c8] at H; have qnK : decide (qcM < a2) = false := decide_eq_false c8; clear c8; obtain rfl := Option.some.inj H; go_wp2
    go_ret
    exact ⟨qce, qam⟩
   rw [if_pos c8] at H; have qnK : decide (qcM < a2) = true := decide_eq_true c8; clear c8; obtain ⟨t105, A9, H⟩ := qaw H; (try dsimp only at H); by_cases c10 : t105 = true
   ·subst c10; rw [if_pos rfl] at H; obtain rfl := Option.some.inj H; obtain ⟨Ao11, co11, qrs⟩ := Kd.qaJ qit.out; subst qrs
    go_wp2_with (first | (refine gl_ 29 Tryz.func173 #[.slice Ao11 qas.length co11, .int .i64 qcM] rfl qbK ?_; (with_reducible refine (qch.calls k1 _ _ qas qcM true _ ?qay ?qaz A9.out).mono ?_); (case qay => exact k44_); (case qaz => exact (Kd.R_reads' qit.out).2.1); rintro e w12 ⟨rfl, hb⟩; refine ⟨_, rfl, ?_⟩; replace qit := qit.mw hb; replace HB := HB.mw hb; (try clear hb)))
    go_ret
    exact ⟨qce, qam⟩
   replace c10 := Bool.eq_false_iff.mpr c10; subst c10; rw [if_neg (show ¬ (false = true) by decide)] at H; by_cases c13 : 0 ≤ a1; rotate_left
   ·rw [if_neg c13] at H; exact absurd H (by simp)
   rw [if_pos c13] at H; have qlU : decide (0 ≤ a1) = true := decide_eq_true c13; clear c13; by_cases c14 : a1 < (l0.length : Int); rotate_left
   ·rw [if_neg c14] at H; exact absurd H (by simp)
   rw [if_pos c14] at H; have qn9 : decide (a1 < (l0.length : Int)) = true := decide_eq_true c14; clear c14; have H' := ak_ H; clear H; obtain ⟨Ao15, co15, eo15⟩ := Kd.qaJ qit.out; subst eo15
   go_wp2_with (first | (refine gl_ 29 Tryz.func173 #[.slice Ao15 qas.length co15, .int .i64 qcM] rfl qbK ?_; (with_reducible refine (qch.calls k1 _ _ qas qcM false _ ?qay ?qaz A9.out).mono ?_); (case qay => exact k44_); (case qaz => exact (Kd.R_reads' qit.out).2.1); rintro e w16 ⟨rfl, hb⟩; refine ⟨_, rfl, ?_⟩; replace qit := qit.mw hb; replace HB := HB.mw hb; (try clear hb); have qfH : 0 ≤ (a1 : Int) := of_decide_eq_true qaU; have qfJ : a1 < (l0.length : Int) := of_decide_eq_true qaU; obtain ⟨qgL, qjx, qcq, qib⟩ := qdV HR0.out a1 qfH qfJ; obtain rfl : qhP = qgL := (by injection qjx); replace qcq := (HB.out.cell (World.block_lt_of_cell? w _ qcq)).trans qcq; replace qib := (HB.out.cell (World.block_lt_of_cell? w _ qib)).trans qib; replace qfH := eq_true qfH; replace qfJ := eq_true qfJ))
   go_roundg k1
   case measure => have := HK1.out; omega
   case rel => exact ⟨(wrap64 (qcM + ((qae l0 a1).f0))), qav, H', ⟨qc9⟩, ⟨k91_⟩, ⟨qam⟩⟩
mutual
def qaK.j0 : Nat → List (qac) → Bool → Option ((List (qac)) × Bool)
 | 0, _, _ => none
 | k + 1, x0, x14 => if x14 = true then (some (([] : List (qac)), false)) else ((qbd.f k x0).bind fun qb7 => ((some (([] : List (qac)) : List (qac))).bind fun qgn => (if qgn.length + x0.length < 8796093022208 then ((some (qgn ++ x0 : List (qac))).bind fun qfr => (qaK.l0 k qb7 qfr (wrap64 ((qfr.length : Int) - 1)))) else (none))))
def qaK.l0 : Nat → Int → List (qac) → Int → Option ((List (qac)) × Bool)
 | 0, _, _, _ => none
 | k + 1, x4, x5, x6 => if x6 ≥ 0 then ((qbu.f k x5 x6 x4).bind fun qlF => (if qlF = true then ((qbD.f x5 x6).bind fun qlG => (qaK.l0 k x4 qlG (wrap64 (x6 - 1)))) else (qaK.l0 k x4 x5 (wrap64 (x6 - 1))))) else (some (x5, true))
end
def qaK.f (k : Nat) (l0 : List (qac)) : Option ((List (qac)) × Bool) := (qaO.f k l0).bind fun qas => (if qas = true then ((qbd.f k l0).bind fun qaI => (qaK.j0 k l0 (qaI == 0))) else (qaK.j0 k l0 true))
theorem qaK.calls (k : Nat) (A0 : Option Addr) (c0 : Nat) (l0 : List (qac)) (r1 : List (qac)) (r2 : Bool) (w : World) (hr0 : Kd.C qaN w A0 l0.length l0) (hc0 : l0.length ≤ c0) (h : qaK.f k l0 = some (r1, r2)) :
  Calls Tryz.prog 102 #[.slice A0 l0.length c0] w fun e w' => ∃ v0_ : Value, e = .returned (.tuple #[v0_, .bool r2]) ∧ Kd.R qaN 85 w' w.heap.size (fun _ => True) v0_ r1 ∧ Below w.heap.size w w' := by
 have HR0 := ak_ hr0; have HC0 := ak_ hc0; clear hr0 hc0; have HB := ak_ (Below.refl w.heap.size w); have H : ((qaO.f k l0).bind fun qas => (if qas = true then ((qbd.f k l0).bind fun qaI => (qaK.j0 k l0 (qaI == 0))) else (qaK.j0 k l0 true))) = some (r1, r2) := h; clear h; have HC2 := ak_ H; clear H; go_enter Tryz.func102, Tryz.ntmps102
 go_upto_region 1 with (fail)
 go_cut [14] (fun v14 wc => ∃ (kq : Nat) (qdq : Bool), v14 = .bool qdq ∧ qag (qaK.j0 kq l0 qdq = some (r1, r2)) ∧ qag (kq ≤ k) ∧ qag (Below w.heap.size w wc))
 case first =>
  have H := HC2.out; clear HC2; obtain ⟨qas, A3, H⟩ := qaw H; (try dsimp only at H); by_cases c4 : qas = true
  ·subst c4; rw [if_pos rfl] at H; obtain ⟨qaI, A5, H⟩ := qaw H; (try dsimp only at H); have H' := ak_ H; clear H
   go_wp2_with (first | (refine gl_ 8 Tryz.func60 #[.slice A0 l0.length c0] rfl qbK ?_; (with_reducible refine (qaO.calls k _ _ l0 true _ ?qay ?qaz A3.out).mono ?_); (case qay => exact qg3); (case qaz => exact qb6); rintro e w6 ⟨rfl, hb⟩; refine ⟨_, rfl, ?_⟩; replace HB := HB.mw hb; (try clear hb)) | (go_at_call 155; (with_reducible refine (qbd.calls k _ _ l0 qaI _ ?qay ?qaz A5.out).mono ?_); (case qay => exact qg3); (case qaz => exact qb6); rintro e w7 ⟨rfl, hb⟩; replace HB := HB.mw hb; (try clear hb)))
   go_meet
   case rel => exact ⟨_, ((qaI == 0)), qav, H', ⟨qid⟩, ⟨qam⟩⟩
  replace c4 := Bool.eq_false_iff.mpr c4; subst c4; rw [if_neg (show ¬ (false = true) by decide)] at H; have H' := ak_ H; clear H
  go_wp2_with (first | (refine gl_ 8 Tryz.func60 #[.slice A0 l0.length c0] rfl qbK ?_; (with_reducible refine (qaO.calls k _ _ l0 false _ ?qay ?qaz A3.out).mono ?_); (case qay => exact qg3); (case qaz => exact qb6); rintro e w8 ⟨rfl, hb⟩; refine ⟨_, rfl, ?_⟩; replace HB := HB.mw hb; (try clear hb)))
  go_meet
  case rel => exact ⟨_, (true), qav, H', ⟨qid⟩, ⟨qam⟩⟩
 case rest =>
  clear HC2; obtain ⟨kq, qdq, rfl, HA, HJ1, HB⟩ := hcut
  cases kq with
  | zero => exact absurd HA.out (by simp [qaK.j0])
  | succ kj1 =>
   have H := HA.out; clear HA; simp only [qaK.j0] at H; by_cases c9 : qdq = true
   ·subst c9; rw [if_pos rfl] at H; obtain ⟨rfl, rfl⟩ := qdI H; go_wp2
    go_ret2
    exact ⟨_, qce, qg4, qam⟩
   replace c9 := Bool.eq_false_iff.mpr c9; subst c9; rw [if_neg (show ¬ (false = true) by decide)] at H; obtain ⟨qb7, A10, H⟩ := qaw H; (try dsimp only at H)
   obtain ⟨qgn, hy_⟩ : ∃ y_ : List (qac), y_ = (([] : List (qac))) := ⟨_, rfl⟩
   replace H : (if qgn.length + l0.length < 8796093022208 then ((some (qgn ++ l0 : List (qac))).bind fun qfr => (qaK.l0 kj1 qb7 qfr (wrap64 ((qfr.length : Int) - 1)))) else (none)) = some (r1, r2) := qe6; have qiu := ak_ hy_; clear hy_; by_cases c11 : qgn.length + l0.length < 8796093022208; rotate_left
   ·rw [if_neg c11] at H; exact absurd H (by simp)
   rw [if_pos c11] at H; have qnT := ak_ c11; clear c11
   obtain ⟨qfr, hy_⟩ : ∃ y_ : List (qac), y_ = (qgn ++ l0) := ⟨_, rfl⟩
   replace H : (qaK.l0 kj1 qb7 qfr (wrap64 ((qfr.length : Int) - 1))) = some (r1, r2) := qe6; have qjv := ak_ hy_; clear hy_; have H' := ak_ H; clear H
   go_wp2_with (first | (refine gl_ 16 Tryz.func155 #[.slice A0 l0.length c0] rfl qbK ?_; (with_reducible refine (qbd.calls kj1 _ _ l0 qb7 _ ?qay ?qaz A10.out).mono ?_); (case qay => exact qg3); (case qaz => exact qb6); rintro e w12 ⟨rfl, hb⟩; refine ⟨_, rfl, ?_⟩; replace HB := HB.mw hb; (try clear hb)) | ((with_reducible refine qak (N := 17) rfl ?_); refine Kd.qg9 qaN _ 85 ?hg (N := 17) ?hd (xs := ([] : List (qac))) (inner := []) (ok := fun _ => True) (okp := fun _ => True) ?hr ?hp (fun _ hk => hk) trivial (Below.refl _ _) (Nat.le_refl _) (by simp) ?_; (case hd => rfl); (case hg => rfl); (case hr => exact qbb); (case hp => exact (qd9.none _ _)); intro v105 w13 qrY hb hg_ hnew_; clear hg_ hnew_; (first | rw [← qiu.out] at qrY | (simp only [Int.reduceToNat] at qrY; rw [← qiu.out] at qrY)); have qeK := ak_ (Kd.qau qrY (qab qam)); replace HB := HB.mw hb; clear hb qrY) | ((with_reducible refine qa3 (b := .append) (xs := #[.tmp 17, .tmp 18]) rfl ?_); at_builtin; refine Kd.qdK qaN (w0 := w) w.heap.size rfl (.tmp 17) (.tmp 18) 26 85 (.agg #[(.int .i64 0), (.int .i64 0)]) 16 rfl Tryz.underlying26 qfQ rfl (by decide) (by omega) v105 qgn l0 _ _ _ (fun _ => True) (fun _ => False) rfl rfl ?aO ?aR (fun _ _ h => h) (fun _ h => h.elim) ?aF ?aB ?aS ?aL ?_; (case aR => repeat (first | exact (Kd.qei HR0.out HB.out) | (with_reducible refine Kd.C_alloc ?_ _) | (with_reducible refine Kd.C_drewN ?_ _) | (with_reducible refine Kd.C_drew ?_))); (case aB => exact qam); (case aF => exact (fun _ _ => trivial)); (case aO => exact k84_); (case aS => exact (qab qam)); (case aL => have := qnT.out; omega); intro v108 w15 ho hb hg hat; rw [← qjv.out] at ho; replace HB := ak_ (hb); have qiN := ak_ (ho); clear qeK; clear ho hb hg hat; obtain ⟨Ao16, co16, eo16⟩ := Kd.qaJ qiN.out; subst eo16))
   go_loopg [5, 6] kj1 (fun kq v5 v6 w' => ∃ (qfL : List (qac)) (qgz : Int), v6 = .int .i64 qgz ∧ qag (qaK.l0 kq qb7 qfL qgz = some (r1, r2)) ∧ qag (kq ≤ kj1) ∧ qag (Kd.R qaN 85 w' w.heap.size (fun _ => True) v5 qfL) ∧ qag (Below w.heap.size w w'))
   case atStart => exact ⟨(qfr), (wrap64 ((qfr.length : Int) - 1)), qav, H', ⟨Nat.le_refl _⟩, ⟨by apply_rules only [qiN.out, Kd.qaq, Kd.qar, Kd.qaC]⟩, ⟨qam⟩⟩
   case round =>
    clear H'; (try clear c9); (try clear c11); obtain ⟨qfL, qgz, rfl, HA, HK2, qgy, HB⟩ := hrel
    cases gk with
    | zero => exact absurd HA.out (by simp [qaK.l0])
    | succ k2 =>
     have H := HA.out; clear HA; simp only [qaK.l0] at H; by_cases c17 : qgz ≥ 0; rotate_left
     ·rw [if_neg c17] at H; have c17b0 : decide (0 ≤ qgz) = false := decide_eq_false c17; clear c17; obtain ⟨rfl, rfl⟩ := qdI H; go_wp2
      go_ret2
      exact ⟨_, qce, k65_, qam⟩
     rw [if_pos c17] at H; have c17b0 : decide (0 ≤ qgz) = true := decide_eq_true c17; clear c17; obtain ⟨qlF, A18, H⟩ := qaw H; (try dsimp only at H); by_cases c19 : qlF = true
     ·subst c19; rw [if_pos rfl] at H; obtain ⟨qlG, A20, H⟩ := qaw H; (try dsimp only at H); have H' := ak_ H; clear H; obtain ⟨Ao21, co21, eo21⟩ := Kd.qaJ qgy.out; subst eo21
      go_wp2_with (first | (refine gl_ 30 Tryz.func156 #[.slice Ao21 qfL.length co21, .int .i64 qgz, .int .i64 qb7] rfl qbK ?_; (with_reducible refine (qbu.calls k2 _ _ qfL qgz qb7 true _ ?qay ?qaz A18.out).mono ?_); (case qay => exact k43_); (case qaz => exact (Kd.R_reads' qgy.out).2.1); rintro e w22 ⟨rfl, hb⟩; refine ⟨_, rfl, ?_⟩; replace qgy := qgy.mw hb; replace HB := HB.mw hb; (try clear hb)) | (refine gl_ 33 Tryz.func98 #[.slice Ao21 qfL.length co21, .int .i64 qgz] rfl qbK ?_; (with_reducible refine (qbD.calls _ _ qfL qgz qlG _ ?qay ?qaz A20.out).mono ?_); (case qay => exact k43_); (case qaz => exact (Kd.R_reads' qgy.out).2.1); rintro e w23 ⟨v112, rfl, ho0, hb⟩; refine ⟨_, rfl, ?_⟩; have HO113 := ak_ (Kd.qau (Kd.R_new' ho0 (Kd.qjA qnM)) (qab qam)); replace qgy := ak_ (Kd.R_elder' qnM (Kd.qfk ho0) hb); replace HB := HB.mw hb; (try clear hb ho0)))
      go_roundg k2
      case measure => have := HJ1.out; have := HK2.out; omega
      case rel => exact ⟨(qlG), (wrap64 (qgz - 1)), qav, H', ⟨by have := HJ1.out; have := HK2.out; omega⟩, ⟨by (with_reducible repeat (first | apply Kd.qaq | apply Kd.qar | apply Kd.qaC)); exact Kd.qa8 HO113.out (fun _ hk => trivial)⟩, ⟨qam⟩⟩
     replace c19 := Bool.eq_false_iff.mpr c19; subst c19; rw [if_neg (show ¬ (false = true) by decide)] at H; have H' := ak_ H; clear H; obtain ⟨Ao24, co24, eo24⟩ := Kd.qaJ qgy.out; subst eo24
     go_wp2_with (first | (refine gl_ 30 Tryz.func156 #[.slice Ao24 qfL.length co24, .int .i64 qgz, .int .i64 qb7] rfl qbK ?_; (with_reducible refine (qbu.calls k2 _ _ qfL qgz qb7 false _ ?qay ?qaz A18.out).mono ?_); (case qay => exact k43_); (case qaz => exact (Kd.R_reads' qgy.out).2.1); rintro e w25 ⟨rfl, hb⟩; refine ⟨_, rfl, ?_⟩; replace qgy := qgy.mw hb; replace HB := HB.mw hb; (try clear hb)))
     go_roundg k2
     case measure => have := HJ1.out; have := HK2.out; omega
     case rel => exact ⟨(qfL), (wrap64 (qgz - 1)), qav, H', ⟨by have := HJ1.out; have := HK2.out; omega⟩, ⟨qnM⟩, ⟨qam⟩⟩
def qco.l0 : Nat → Int → Int → Option (Int)
 | 0, _, _ => none
 | k + 1, x0, x3 => if (wrap64 (x3 * x3)) ≤ x0 then (if x3 = 0 then (none) else (if (Int.tmod x0 x3) = 0 then (some x3) else (qco.l0 k x0 (wrap64 (x3 + 1))))) else (some x0)
def qco.f (k : Nat) (a0 : Int) : Option (Int) := qco.l0 k a0 2
theorem qco.calls (k : Nat) (a0 : Int) (r : Int) (w : World) (h : qco.f k a0 = some r) :
  Calls Tryz.prog 209 #[.int .i64 a0] w fun e w' => e = .returned (.int .i64 r) ∧ qcX w w' := by
 have H : (qco.l0 k a0 2) = some r := h; clear h; have H' := ak_ H; clear H; go_enter Tryz.func209, Tryz.ntmps209; go_wp2
 go_loopg [3] k (fun kq v3 w' => ∃ (qbg : Int), v3 = .int .i64 qbg ∧ qag (qco.l0 kq a0 qbg = some r) ∧ qag (kq ≤ k) ∧ qcX w w')
 case atStart => exact ⟨(2), qav, H', ⟨Nat.le_refl _⟩, qc2⟩
 case round =>
  clear H'; obtain ⟨qbg, rfl, HA, HK1, ⟨m1, rfl⟩⟩ := hrel
  cases gk with
  | zero => exact absurd HA.out (by simp [qco.l0])
  | succ k1 =>
   have H := HA.out; clear HA; simp only [qco.l0] at H; by_cases c2 : (wrap64 (qbg * qbg)) ≤ a0; rotate_left
   ·rw [if_neg c2] at H; have qfe : decide ((wrap64 (qbg * qbg)) ≤ a0) = false := decide_eq_false c2; clear c2; obtain rfl := Option.some.inj H; go_wp2
    go_ret
    exact ⟨qav, qc2⟩
   rw [if_pos c2] at H; have qfe : decide ((wrap64 (qbg * qbg)) ≤ a0) = true := decide_eq_true c2; clear c2; by_cases c3 : qbg = 0
   ·rw [if_pos c3] at H; exact absurd H (by simp)
   rw [if_neg c3] at H; have qff : (qbg == 0) = false := beq_eq_false_iff_ne.mpr c3; have qlV : (qbg != 0) = true := bne_iff_ne.mpr c3; by_cases c4 : (Int.tmod a0 qbg) = 0
   ·rw [if_pos c4] at H; have qfx : ((Int.tmod a0 qbg) == 0) = true := beq_iff_eq.mpr c4; have qlW : ((Int.tmod a0 qbg) != 0) = false := bne_eq_false_iff_eq.mpr c4; clear c4; obtain rfl := Option.some.inj H; go_wp2
    go_ret
    exact ⟨qav, qc2⟩
   rw [if_neg c4] at H; have qfx : ((Int.tmod a0 qbg) == 0) = false := beq_eq_false_iff_ne.mpr c4; have qlW : ((Int.tmod a0 qbg) != 0) = true := bne_iff_ne.mpr c4; have H' := ak_ H; clear H; go_wp2
   go_roundg k1
   case measure => have := HK1.out; omega
   case rel => exact ⟨(wrap64 (qbg + 1)), qav, H', ⟨qc9⟩, qc2⟩
def qe1.f (k : Nat) (a0 : Int) : Option (Bool) := if a0 ≥ 2 then ((qco.f k a0).bind fun qas => (some (qas == a0))) else (some false)
theorem qe1.calls (k : Nat) (a0 : Int) (r : Bool) (w : World) (h : qe1.f k a0 = some r) :
  Calls Tryz.prog 210 #[.int .i64 a0] w fun e w' => e = .returned (.bool r) ∧ qcX w w' := by
 have H : (if a0 ≥ 2 then ((qco.f k a0).bind fun qas => (some (qas == a0))) else (some false)) = some r := h; clear h; by_cases c2 : a0 ≥ 2
 ·rw [if_pos c2] at H; have qfe : decide (2 ≤ a0) = true := decide_eq_true c2; clear c2; obtain ⟨qas, A3, H⟩ := qaw H; (try dsimp only at H); obtain rfl := Option.some.inj H; go_enter Tryz.func210, Tryz.ntmps210
  go_wp2_with (first | (go_at_call 209; (with_reducible refine (qco.calls k a0 qas _ A3.out).mono ?_); rintro e w' ⟨rfl, ⟨nd, rfl⟩⟩))
  go_ret
  exact ⟨qav, qc2⟩
 rw [if_neg c2] at H; have qfe : decide (2 ≤ a0) = false := decide_eq_false c2; clear c2; obtain rfl := Option.some.inj H; go_enter Tryz.func210, Tryz.ntmps210; go_wp2
 go_ret
 exact ⟨qav, qc2⟩
def qcT.l0 : Nat → Int → List Int → Int → Option (List Int)
 | 0, _, _, _ => none
 | k + 1, x0, x3, x4 => if (x3.length : Int) < x0 then ((qe1.f k x4).bind fun qas => (if qas = true then (if x3.length < 17592186044416 then (qcT.l0 k x0 (x3 ++ [x4]) (wrap64 (x4 + 1))) else (none)) else (qcT.l0 k x0 x3 (wrap64 (x4 + 1))))) else (some x3)
def qcT.f (k : Nat) (a0 : Int) : Option (List Int) := qcT.l0 k a0 ([] : List Int) 2
theorem qcT.calls (k : Nat) (a0 : Int) (r : List Int) (w : World) (h : qcT.f k a0 = some r) :
  Calls Tryz.prog 202 #[.int .i64 a0] w fun e w' => ∃ v0_ : Value, e = .returned (v0_) ∧ Kd.R (Kd.int .i64) 3 w' w.heap.size (fun _ => True) v0_ r ∧ Below w.heap.size w w' := by
 have HB := ak_ (Below.refl w.heap.size w); have H : (qcT.l0 k a0 ([] : List Int) 2) = some r := h; clear h; have H' := ak_ H; clear H; go_enter Tryz.func202, Tryz.ntmps202; go_wp2
 go_loopg [3, 4] k (fun kq v3 v4 w' => ∃ (qbg : List Int) (qcs : Int), v4 = .int .i64 qcs ∧ qag (qcT.l0 kq a0 qbg qcs = some r) ∧ qag (kq ≤ k) ∧ qag (Kd.R (Kd.int .i64) 3 w' w.heap.size (fun _ => True) v3 qbg) ∧ qag (Below w.heap.size w w'))
 case atStart => exact ⟨(([] : List Int)), (2), qav, H', ⟨Nat.le_refl _⟩, ⟨qg4⟩, ⟨qam⟩⟩
 case round =>
  clear H'; obtain ⟨qbg, qcs, rfl, HA, HK1, qdr, HB⟩ := hrel
  cases gk with
  | zero => exact absurd HA.out (by simp [qcT.l0])
  | succ k1 =>
   have H := HA.out; clear HA; simp only [qcT.l0] at H; by_cases c2 : (qbg.length : Int) < a0; rotate_left
   ·rw [if_neg c2] at H; have qfe : decide ((qbg.length : Int) < a0) = false := decide_eq_false c2; clear c2; obtain rfl := Option.some.inj H; obtain ⟨Ao9, co9, eo9⟩ := Kd.qaJ qdr.out; subst eo9; go_wp2
    go_ret
    exact ⟨_, qce, k64_, qam⟩
   rw [if_pos c2] at H; have qfe : decide ((qbg.length : Int) < a0) = true := decide_eq_true c2; clear c2; obtain ⟨qas, A3, H⟩ := qaw H; (try dsimp only at H); by_cases c4 : qas = true; rotate_left
   ·replace c4 := Bool.eq_false_iff.mpr c4; subst c4; rw [if_neg (show ¬ (false = true) by decide)] at H; have H' := ak_ H; clear H; obtain ⟨Ao8, co8, eo8⟩ := Kd.qaJ qdr.out; subst eo8
    go_wp2_with (first | (refine gl_ 12 Tryz.func210 #[.int .i64 qcs] rfl qbK ?_; (with_reducible refine (qe1.calls k1 qcs false _ A3.out).mono ?_); rintro e w' ⟨rfl, ⟨nd, rfl⟩⟩; refine ⟨_, rfl, ?_⟩))
    go_roundg k1
    case measure => have := HK1.out; omega
    case rel => exact ⟨(qbg), (wrap64 (qcs + 1)), qav, H', ⟨qc9⟩, ⟨qhQ⟩, ⟨qam⟩⟩
   subst c4; rw [if_pos rfl] at H; by_cases c5 : qbg.length < 17592186044416; rotate_left
   ·rw [if_neg c5] at H; exact absurd H (by simp)
   rw [if_pos c5] at H; have LMc5 := ak_ c5; clear c5
   obtain ⟨qh1, hy_⟩ : ∃ y_ : List Int, y_ = (qbg ++ [qcs]) := ⟨_, rfl⟩
   replace H : (qcT.l0 k1 a0 qh1 (wrap64 (qcs + 1))) = some r := qe6; have qgq := ak_ hy_; clear hy_; have H' := ak_ H; clear H; obtain ⟨Ao6, co6, eo6⟩ := Kd.qaJ qdr.out; subst eo6
   go_wp2_with (first | (refine gl_ 12 Tryz.func210 #[.int .i64 qcs] rfl qbK ?_; (with_reducible refine (qe1.calls k1 qcs true _ A3.out).mono ?_); rintro e w' ⟨rfl, ⟨nd, rfl⟩⟩; refine ⟨_, rfl, ?_⟩) | ((with_reducible refine qa3 (b := .append) (xs := #[.tmp 13, .tmp 15]) rfl ?_); at_builtin; refine Kd.qc8 (Kd.int .i64) (w0 := w) w.heap.size rfl (.tmp 13) (.tmp 15) 48 3 (.int .i64 0) 8 rfl Tryz.underlying48 info3 rfl (by decide) (by omega) (.slice Ao6 qbg.length co6) qbg qcs [.int .i64 qcs] (fun _ => True) (fun _ => False) rfl rfl ?aP (fun _ hk => hk.elim) ?aF ?aO ?aB ?aS ?aL ?_; (case aP => exact rfl); (case aB => exact qam); (case aF => exact (fun _ _ => trivial)); (case aO => exact qhQ); (case aS => exact (qab qam)); (case aL => have := LMc5.out; omega); intro qhg w7 ho hb hg hat; rw [← qgq.out] at ho; replace HB := ak_ (hb); have qbW := ak_ (ho); clear qdr; clear ho hb hg hat))
   go_roundg k1
   case measure => have := HK1.out; omega
   case rel => exact ⟨(qh1), (wrap64 (qcs + 1)), qav, H', ⟨qc9⟩, ⟨qqL⟩, ⟨qam⟩⟩
def qcj.l0 : Nat → List (qac) → List Int → Int → Int → Option ((List (qac)))
 | 0, _, _, _, _ => none
 | k + 1, x3, x7, x8, x9 => if x9 < x8 then (if 0 ≤ x9 then (if x9 < (x7.length : Int) then (if x3.length < 8796093022208 then (qcj.l0 k (x3 ++ [(⟨rd x7 x9, 0⟩ : qac)]) x7 x8 (wrap64 (x9 + 1))) else (none)) else (none)) else (none)) else (some x3)
def qcj.f (k : Nat) (a0 : Int) : Option ((List (qac))) := (qcT.f k a0).bind fun qas => (qcj.l0 k ([] : List (qac)) qas (qas.length : Int) 0)
theorem qcj.calls (k : Nat) (a0 : Int) (r : List (qac)) (w : World) (h : qcj.f k a0 = some r) :
  Calls Tryz.prog 143 #[.int .i64 a0] w fun e w' => ∃ v0_ : Value, e = .returned (v0_) ∧ Kd.R qaN 85 w' w.heap.size (fun _ => True) v0_ r ∧ Below w.heap.size w w' := by
 have qms := Tryz.underlying85; have HB := ak_ (Below.refl w.heap.size w); have H : ((qcT.f k a0).bind fun qas => (qcj.l0 k ([] : List (qac)) qas (qas.length : Int) 0)) = some r := h; clear h; obtain ⟨qas, A2, H⟩ := qaw H; (try dsimp only at H); have H' := ak_ H; clear H; go_enter Tryz.func143, Tryz.ntmps143
 go_wp2_with (first | (refine gl_ 7 Tryz.func202 #[.int .i64 a0] rfl qbK ?_; (with_reducible refine (qcT.calls k a0 qas _ A2.out).mono ?_); rintro e w3 ⟨qiq, rfl, ho0, hb⟩; refine ⟨_, rfl, ?_⟩; have qdi := ak_ (Kd.qau ho0 (qab qam)); replace HB := HB.mw hb; (try clear hb ho0); obtain ⟨Ao4, co4, eo4⟩ := Kd.qaJ qdi.out; subst eo4))
 go_loopg [3, 9] k (fun kq v3 v9 w' => ∃ (qbg : List (qac)) (qcE : Int), v9 = .int .i64 qcE ∧ qag (qcj.l0 kq qbg qas (qas.length : Int) qcE = some r) ∧ qag (kq ≤ k) ∧ qag (Kd.R qaN 85 w' w.heap.size (fun _ => True) v3 qbg) ∧ qag (Kd.R (Kd.int .i64) 3 w' w.heap.size (fun _ => True) (.slice Ao4 qas.length co4) qas) ∧ qag (Below w.heap.size w w'))
 case atStart => exact ⟨(([] : List (qac))), (0), qav, H', ⟨Nat.le_refl _⟩, ⟨qg4⟩, ⟨qpM⟩, ⟨qam⟩⟩
 case round =>
  clear H'; obtain ⟨qbg, qcE, rfl, HA, HK1, qdr, qit, HB⟩ := hrel
  cases gk with
  | zero => exact absurd HA.out (by simp [qcj.l0])
  | succ k1 =>
   have H := HA.out; clear HA; simp only [qcj.l0] at H; by_cases c5 : qcE < (qas.length : Int); rotate_left
   ·rw [if_neg c5] at H; have qgH : decide (qcE < (qas.length : Int)) = false := decide_eq_false c5; clear c5; obtain rfl := Option.some.inj H; go_wp2
    go_ret
    exact ⟨_, qce, k64_, qam⟩
   rw [if_pos c5] at H; have qgH : decide (qcE < (qas.length : Int)) = true := decide_eq_true c5; clear c5; by_cases c6 : 0 ≤ qcE; rotate_left
   ·rw [if_neg c6] at H; exact absurd H (by simp)
   rw [if_pos c6] at H; have qfY : decide (0 ≤ qcE) = true := decide_eq_true c6; clear c6; by_cases c7 : qcE < (qas.length : Int); rotate_left
   ·rw [if_neg c7] at H; exact absurd H (by simp)
   rw [if_pos c7] at H; have qgM : decide (qcE < (qas.length : Int)) = true := decide_eq_true c7; clear c7; by_cases c8 : qbg.length < 8796093022208; rotate_left
   ·rw [if_neg c8] at H; exact absurd H (by simp)
   rw [if_pos c8] at H; have LMc8 := ak_ c8; clear c8
   obtain ⟨qhD, hy_⟩ : ∃ y_ : List (qac), y_ = (qbg ++ [(⟨rd qas qcE, 0⟩ : qac)]) := ⟨_, rfl⟩
   replace H : (qcj.l0 k1 qhD qas (qas.length : Int) (wrap64 (qcE + 1))) = some r := qe6; have qhi := ak_ hy_; clear hy_; have H' := ak_ H; clear H; have qhc : 0 ≤ (qcE : Int) := of_decide_eq_true qaU; have qhd : qcE < (qas.length : Int) := of_decide_eq_true qaU; obtain ⟨qhP, qmU, qdW⟩ := Kd.qem (Kd.R_reads' qit.out).2.2 qcE qhc qhd
   cases qmU
   replace qhc := eq_true qhc; replace qhd := eq_true qhd
   go_wp2_with (first | ((with_reducible refine qa3 (b := .append) (xs := #[.tmp 13, .tmp 16]) rfl ?_); at_builtin; refine Kd.qc8 qaN (w0 := w) w.heap.size rfl (.tmp 13) (.tmp 16) 26 85 (.agg #[(.int .i64 0), (.int .i64 0)]) 16 rfl Tryz.underlying26 qfQ rfl (by decide) (by omega) u3 qbg (⟨rd qas qcE, 0⟩ : qac) [.int .i64 (rd qas qcE), .int .i64 0] (fun _ => True) (fun _ => False) rfl rfl ?aP (fun _ hk => hk.elim) ?aF ?aO ?aB ?aS ?aL ?_; (case aP => exact qdo _ _ _ (⟨rd qas qcE, 0⟩ : qac)); (case aB => exact qam); (case aF => exact (fun _ _ => trivial)); (case aO => exact qhQ); (case aS => exact (qab qam)); (case aL => have := LMc8.out; omega); intro qqI w9 ho hb hg hat; rw [← qhi.out] at ho; replace qit := ak_ (Kd.R_over' k91_ (Kd.qh3 qhQ) (by decide) hg); replace HB := ak_ (hb); have qe2 := ak_ (ho); clear qdr; clear ho hb hg hat))
   go_roundg k1
   case measure => have := HK1.out; omega
   case rel => exact ⟨(qhD), (wrap64 (qcE + 1)), qav, H', ⟨qc9⟩, ⟨by apply_rules only [qe2.out, Kd.qaq, Kd.qar, Kd.qaC]⟩, ⟨k91_⟩, ⟨qam⟩⟩
def qgl.f (a0 : Int) : Option (Bool) := (qbf.f a0 0 12).bind fun qas => (some qas)
theorem qgl.calls (a0 : Int) (r : Bool) (w : World) (h : qgl.f a0 = some r) :
  Calls Tryz.prog 157 #[.int .i64 a0] w fun e w' => e = .returned (.bool r) ∧ qcX w w' := by
 have H : ((qbf.f a0 0 12).bind fun qas => (some qas)) = some r := h; clear h; obtain ⟨qas, A2, H⟩ := qaw H; (try dsimp only at H); obtain rfl := Option.some.inj H; go_enter Tryz.func157, Tryz.ntmps157
 go_wp2_with (first | (refine gl_ 4 Tryz.func93 #[.int .i64 a0, .int .i64 0, .int .i64 12] rfl qbK ?_; (with_reducible refine (qbf.calls a0 0 12 qas _ A2.out).mono ?_); rintro e w' ⟨rfl, ⟨nd, rfl⟩⟩; refine ⟨_, rfl, ?_⟩))
 go_ret
 exact ⟨qav, qc2⟩
def qcC.f (k : Nat) (a0 : Int) : Option ((List (qac)) × Bool) := (qgl.f a0).bind fun qas => (if qas = true then ((qcj.f k a0).bind fun qaI => (some (qaI, true))) else (some (([] : List (qac)), false)))
theorem qcC.calls (k : Nat) (a0 : Int) (r1 : List (qac)) (r2 : Bool) (w : World) (h : qcC.f k a0 = some (r1, r2)) :
  Calls Tryz.prog 103 #[.int .i64 a0] w fun e w' => ∃ v0_ : Value, e = .returned (.tuple #[v0_, .bool r2]) ∧ Kd.R qaN 85 w' w.heap.size (fun _ => True) v0_ r1 ∧ Below w.heap.size w w' := by
 have HB := ak_ (Below.refl w.heap.size w); have H : ((qgl.f a0).bind fun qas => (if qas = true then ((qcj.f k a0).bind fun qaI => (some (qaI, true))) else (some (([] : List (qac)), false)))) = some (r1, r2) := h; clear h; obtain ⟨qas, A2, H⟩ := qaw H; (try dsimp only at H); by_cases c3 : qas = true
 ·subst c3; rw [if_pos rfl] at H; obtain ⟨qaI, A4, H⟩ := qaw H; (try dsimp only at H); obtain ⟨rfl, rfl⟩ := qdI H; go_enter Tryz.func103, Tryz.ntmps103
  go_wp2_with (first | (refine gl_ 5 Tryz.func157 #[.int .i64 a0] rfl qbK ?_; (with_reducible refine (qgl.calls a0 true _ A2.out).mono ?_); rintro e w' ⟨rfl, ⟨nd, rfl⟩⟩; refine ⟨_, rfl, ?_⟩) | (refine gl_ 8 Tryz.func143 #[.int .i64 a0] rfl qbK ?_; (with_reducible refine (qcj.calls k a0 qaI _ A4.out).mono ?_); rintro e w5 ⟨qhg, rfl, ho0, hb⟩; refine ⟨_, rfl, ?_⟩; have qbW := ak_ (Kd.qau ho0 (qab qam)); replace HB := HB.mw hb; (try clear hb ho0)))
  go_ret2
  exact ⟨_, qce, k63_, qam⟩
 replace c3 := Bool.eq_false_iff.mpr c3; subst c3; rw [if_neg (show ¬ (false = true) by decide)] at H; obtain ⟨rfl, rfl⟩ := qdI H; go_enter Tryz.func103, Tryz.ntmps103
 go_wp2_with (first | (refine gl_ 5 Tryz.func157 #[.int .i64 a0] rfl qbK ?_; (with_reducible refine (qgl.calls a0 false _ A2.out).mono ?_); rintro e w' ⟨rfl, ⟨nd, rfl⟩⟩; refine ⟨_, rfl, ?_⟩))
 go_ret2
 exact ⟨_, qce, qg4, qam⟩
def qe9.f (a0 : Int) : Option (Bool) := (qbf.f a0 0 600).bind fun qas => (some qas)
theorem qe9.calls (a0 : Int) (r : Bool) (w : World) (h : qe9.f a0 = some r) :
  Calls Tryz.prog 61 #[.int .i64 a0] w fun e w' => e = .returned (.bool r) ∧ qcX w w' := by
 have H : ((qbf.f a0 0 600).bind fun qas => (some qas)) = some r := h; clear h; obtain ⟨qas, A2, H⟩ := qaw H; (try dsimp only at H); obtain rfl := Option.some.inj H; go_enter Tryz.func61, Tryz.ntmps61
 go_wp2_with (first | (refine gl_ 4 Tryz.func93 #[.int .i64 a0, .int .i64 0, .int .i64 600] rfl qbK ?_; (with_reducible refine (qbf.calls a0 0 600 qas _ A2.out).mono ?_); rintro e w' ⟨rfl, ⟨nd, rfl⟩⟩; refine ⟨_, rfl, ?_⟩))
 go_ret
 exact ⟨qav, qc2⟩
def qey.f (k : Nat) (l0 : List (qac)) : Option (ByteArray × Bool) := (qaO.f k l0).bind fun qas => (if qas = true then ((qbm.f k l0).bind fun qaI => (some (qaI, true))) else (some ((⟨#[]⟩ : ByteArray), false)))
theorem qey.calls (k : Nat) (A0 : Option Addr) (c0 : Nat) (l0 : List (qac)) (r1 : ByteArray) (r2 : Bool) (w : World) (hr0 : Kd.C qaN w A0 l0.length l0) (hc0 : l0.length ≤ c0) (h : qey.f k l0 = some (r1, r2)) :
  Calls Tryz.prog 152 #[.slice A0 l0.length c0] w fun e w' => e = .returned (.tuple #[.string r1, .bool r2]) ∧ Below w.heap.size w w' := by
 have HR0 := ak_ hr0; have HC0 := ak_ hc0; clear hr0 hc0; have HB := ak_ (Below.refl w.heap.size w); have H : ((qaO.f k l0).bind fun qas => (if qas = true then ((qbm.f k l0).bind fun qaI => (some (qaI, true))) else (some ((⟨#[]⟩ : ByteArray), false)))) = some (r1, r2) := h; clear h; obtain ⟨qas, A2, H⟩ := qaw H; (try dsimp only at H); by_cases c3 : qas = true
 ·subst c3; rw [if_pos rfl] at H; obtain ⟨qaI, A4, H⟩ := qaw H; (try dsimp only at H); obtain ⟨rfl, rfl⟩ := qdI H; go_enter Tryz.func152, Tryz.ntmps152
  go_wp2_with (first | (refine gl_ 5 Tryz.func60 #[.slice A0 l0.length c0] rfl qbK ?_; (with_reducible refine (qaO.calls k _ _ l0 true _ ?qay ?qaz A2.out).mono ?_); (case qay => exact qfM); (case qaz => exact qb6); rintro e w5 ⟨rfl, hb⟩; refine ⟨_, rfl, ?_⟩; replace HB := HB.mw hb; (try clear hb)) | (refine gl_ 8 Tryz.func207 #[.slice A0 l0.length c0] rfl qbK ?_; (with_reducible refine (qbm.calls k _ _ l0 qaI _ ?qay ?qaz A4.out).mono ?_); (case qay => exact qg3); (case qaz => exact qb6); rintro e w6 ⟨rfl, hb⟩; refine ⟨_, rfl, ?_⟩; replace HB := HB.mw hb; (try clear hb)))
  go_ret2
  exact ⟨qce, qam⟩
 replace c3 := Bool.eq_false_iff.mpr c3; subst c3; rw [if_neg (show ¬ (false = true) by decide)] at H; obtain ⟨rfl, rfl⟩ := qdI H; go_enter Tryz.func152, Tryz.ntmps152
 go_wp2_with (first | (refine gl_ 5 Tryz.func60 #[.slice A0 l0.length c0] rfl qbK ?_; (with_reducible refine (qaO.calls k _ _ l0 false _ ?qay ?qaz A2.out).mono ?_); (case qay => exact qfM); (case qaz => exact qb6); rintro e w7 ⟨rfl, hb⟩; refine ⟨_, rfl, ?_⟩; replace HB := HB.mw hb; (try clear hb)))
 go_ret2
 exact ⟨qce, qam⟩
def qci.f (k : Nat) (l0 : List (qac)) (a1 : Bool) : Option (ByteArray) := if a1 = true then ((qey.f k l0).bind fun qc6 => (some qc6.1)) else (some (⟨#[110, 111]⟩ : ByteArray))
theorem qci.calls (k : Nat) (A0 : Option Addr) (c0 : Nat) (l0 : List (qac)) (a1 : Bool) (r : ByteArray) (w : World) (hr0 : Kd.C qaN w A0 l0.length l0) (hc0 : l0.length ≤ c0) (h : qci.f k l0 a1 = some r) :
  Calls Tryz.prog 99 #[.slice A0 l0.length c0, .bool a1] w fun e w' => e = .returned (.string r) ∧ Below w.heap.size w w' := by
 have HR0 := ak_ hr0; have HC0 := ak_ hc0; clear hr0 hc0; have HB := ak_ (Below.refl w.heap.size w); have H : (if a1 = true then ((qey.f k l0).bind fun qc6 => (some qc6.1)) else (some (⟨#[110, 111]⟩ : ByteArray))) = some r := h; clear h; by_cases c3 : a1 = true
 ·subst c3; rw [if_pos rfl] at H; obtain ⟨⟨qas, qaI⟩, A4, H⟩ := qaw H; (try dsimp only at H); obtain rfl := Option.some.inj H; go_enter Tryz.func99, Tryz.ntmps99
  go_wp2_with (first | (refine gl_ 11 Tryz.func152 #[.slice A0 l0.length c0] rfl qbK ?_; (with_reducible refine (qey.calls k _ _ l0 qas qaI _ ?qay ?qaz A4.out).mono ?_); (case qay => exact qfM); (case qaz => exact qb6); rintro e w5 ⟨rfl, hb⟩; refine ⟨_, rfl, ?_⟩; replace HB := HB.mw hb; (try clear hb)))
  go_ret
  exact ⟨qce, qam⟩
 replace c3 := Bool.eq_false_iff.mpr c3; subst c3; rw [if_neg (show ¬ (false = true) by decide)] at H; obtain rfl := Option.some.inj H; go_enter Tryz.func99, Tryz.ntmps99; go_wp2
 go_ret
 exact ⟨qce, qam⟩
def qjQ (w : World) (base g : Nat) (rs : List qac) (mo : Int) (lr : List qac) (tx : ByteArray) (n : Int) : Prop := ∃ A0 c0 A1 c1, w.heap[g]? = some (.cells #[.slice A0 rs.length c0, .int .i64 mo, .slice A1 lr.length c1, .string tx, .int .i64 n] 81 (0, 0)) ∧ Kd.R qaN 85 w base (fun _ => True) (.slice A0 rs.length c0) rs ∧ Kd.R qaN 85 w base (fun _ => True) (.slice A1 lr.length c1) lr
def qiW (k : Nat) (rs xs : List qac) (ok : Bool) : Option (List qac × ByteArray) := (qci.f k xs ok).bind fun s => some (if ok = true then xs else rs, s)
theorem qfy (k base g : Nat) (A : Option Addr) (c : Nat) (xs : List qac) (ok : Bool) (rs : List qac) (mo : Int) (lr : List qac) (tx : ByteArray) (n : Int) (rs' : List qac) (txt : ByteArray) (w : World) (hD : qjQ w base g rs mo lr tx n) (hR : Kd.R qaN 85 w base (fun _ => True) (.slice A xs.length c) xs) (h : qiW k rs xs ok = some (rs', txt)) :
    Calls Tryz.prog 97 #[.pointer (some ⟨g, 0, none⟩), .slice A xs.length c, .bool ok] w fun e w' => e = .returned (.string txt) ∧ qjQ w' base g rs' mo lr tx n ∧ qcu w w' g := by
  obtain ⟨A0, c0, A1_, c1, hC, hO, hL⟩ := hD; have HCw := ak_ hC; have HOw := ak_ hO; have HLw := ak_ hL; have HC := ak_ hC; have HO := ak_ hO; have HL := ak_ hL; have HB := ak_ (Below.refl w.heap.size w); obtain ⟨qqm, qqg⟩ := qcv HC.out; have qqn := qbB HC.out; have qqh := qad HC.out 1; have hzw_2 := qfl HC.out; have hfw_2 := qad HC.out 2; have hzw_3 := qft HC.out; have hfw_3 := qad HC.out 3; have hzw_4 := qfu HC.out; have hfw_4 := qad HC.out 4; clear hC hO hL; have HX := ak_ hR; clear hR; unfold qiW at h; obtain ⟨s, A1, h⟩ := qaw h; simp only [Option.some.injEq, Prod.mk.injEq] at h
  cases ok with
  | false =>
    rw [if_neg (by decide)] at h; obtain ⟨rfl, rfl⟩ := h; go_enter Tryz.func97, Tryz.ntmps97
    go_wp2_with (first | (refine gl_ 15 Tryz.func99 #[.slice A xs.length c, .bool false] rfl qb1 ?_; (refine (qci.calls k _ _ xs false s _ qqq (Kd.R_reads' HX.out).2.1 A1.out).mono ?_); rintro e wa ⟨rfl, hb⟩; refine ⟨_, rfl, ?_⟩; have HB2 := ak_ hb; clear hb))
    go_ret
    exact ⟨rfl, ⟨A0, c0, A1_, c1, qao qqs HB2.out, Kd.qbx k94_ HB2.out, Kd.qbx (by apply_rules only [HL.out, Kd.qaq, Kd.qar, Kd.qaC]) HB2.out⟩, (qcu.qbN qam g).trans (qcu.qbN HB2.out g)⟩
  | true =>
    rw [if_pos rfl] at h; obtain ⟨rfl, rfl⟩ := h; go_enter Tryz.func97, Tryz.ntmps97
    go_wp2_with (first | (refine gl_ 15 Tryz.func99 #[.slice A xs.length c, .bool true] rfl qb1 ?_; (refine (qci.calls k _ _ xs true s _ k23_ (Kd.R_reads' HX.out).2.1 A1.out).mono ?_); rintro e wa ⟨rfl, hb⟩; refine ⟨_, rfl, ?_⟩; have HB2 := ak_ hb; clear hb))
    go_ret
    exact ⟨rfl, ⟨A, c, A1_, c1, qao (qbp qqs 0 _ rfl) HB2.out, Kd.qbx (Kd.qgJ qmv qqs (by decide) 0 _) HB2.out, Kd.qbx (Kd.qgJ (by apply_rules only [HL.out, Kd.qaq, Kd.qar, Kd.qaC]) qqs (by decide) 0 _) HB2.out⟩, (qcu.set_ (qcu.qbN qam g) 0 _).trans (qcu.qbN HB2.out g)⟩
theorem R_empty (w : World) : Kd.R qaN 85 (w.alloc (.cells #[] 85)) w.heap.size (fun _ => True) (.slice (some ⟨w.heap.size, 0, none⟩) 0 0) [] := by
  have h := World.ownsRow_lit (base := w.heap.size) (e := 85) (size := 2) w #[] 0 (Nat.le_refl _) (by decide) rfl; exact ⟨fun _ _ => trivial, [], h, qd9.none _ _⟩
def qdC.f (k : Nat) (rs : List qac) (mo : Int) (lr : List qac) (n : Int) (c : Cmd) : Option (List qac × Int × ByteArray) := match c with
  | .cRules => (qiW k rs lr true).bind fun p => some (p.1, mo, p.2)
  | .cAdd => if rs.length + lr.length < 8796093022208 then (qiW k rs (rs ++ lr) (decide (((rs ++ lr).length : Int) ≤ 12))).bind fun p => some (p.1, mo, p.2) else none
  | .cDrop => if n ≥ (rs.length : Int) then some (rs, mo, (⟨#[110, 111]⟩ : ByteArray)) else (qbD.f rs n).bind fun xs => (qiW k rs xs true).bind fun p => some (p.1, mo, p.2)
  | .cMost => (qe9.f n).bind fun t => if t = true then ((qci.f k rs true).bind fun s => some (rs, n, s)) else some (rs, mo, (⟨#[110, 111]⟩ : ByteArray))
  | .cMove => (qaM.f k rs n).bind fun q => (qiW k rs q.1 q.2).bind fun p => some (p.1, mo, p.2)
  | .cMirror => (qa1.f k rs).bind fun q => (qiW k rs q.1 q.2).bind fun p => some (p.1, mo, p.2)
  | .cTidy => (qaK.f k rs).bind fun q => (qiW k rs q.1 q.2).bind fun p => some (p.1, mo, p.2)
  | .cPrimes => (qcC.f k n).bind fun q => (qiW k rs q.1 q.2).bind fun p => some (p.1, mo, p.2)
  | _ => none
theorem qoR (k base g : Nat) (rs : List qac) (mo : Int) (lr : List qac) (tx : ByteArray) (n : Int) (c : Cmd) (rs' : List qac) (mo' : Int) (txt : ByteArray) (w : World) (hbase : base ≤ w.heap.size) (hD : qjQ w base g rs mo lr tx n) (hl : rs.length < 8796093022208) (h : qdC.f k rs mo lr n c = some (rs', mo', txt)) :
    Calls Tryz.prog 63 #[.pointer (some ⟨g, 0, none⟩), .string c.word] w fun e w' => e = .returned (.string txt) ∧ qjQ w' base g rs' mo' lr tx n ∧ qcu w w' g := by
  obtain ⟨A0, c0, A1_, c1, hC, hO, hL⟩ := hD; have HCw := ak_ hC; have HOw := ak_ hO; have HLw := ak_ hL; have HC := ak_ hC; have HO := ak_ hO; have HL := ak_ hL; have HB := ak_ (Below.refl w.heap.size w); obtain ⟨qqm, qqg⟩ := qcv HC.out; have qqn := qbB HC.out; have qqh := qad HC.out 1; have hzw_2 := qfl HC.out; have hfw_2 := qad HC.out 2; have hzw_3 := qft HC.out; have hfw_3 := qad HC.out 3; have hzw_4 := qfu HC.out; have hfw_4 := qad HC.out 4; have HBS := ak_ hbase; have HLn := ak_ hl; have SM := ak_ (show ∀ w' : World, Below w.heap.size w w' → qjQ w' base g rs mo lr tx n ∧ qcu w w' g from fun w' h_ => ⟨⟨A0, c0, A1_, c1, qao HCw.out h_, Kd.qbx HOw.out h_, Kd.qbx HLw.out h_⟩, qcu.qbN h_ g⟩); clear hC hO hL hbase hl; unfold qdC.f at h
  match c, h with
  | .cRules, h =>
    simp only [Cmd.word, Cmd.bytes]; dsimp only at h; obtain ⟨⟨rs1, qi8⟩, A1, h⟩ := qaw h; (try dsimp only at h); obtain ⟨rfl, rfl, rfl⟩ := qfI h; have HX := HL; go_enter Tryz.func63, Tryz.ntmps63
    go_wp2_with (first | (refine gl_ 20 Tryz.func97 #[.pointer (some ⟨g, 0, none⟩), .slice A1_ lr.length c1, .bool true] rfl qb1 ?_; (refine (qfy k base g A1_ c1 lr true rs mo lr tx n rs1 qi8 _ (SM.out _ qam).1 qmv A1.out).mono ?_); rintro e w9 ⟨rfl, hD, hk⟩; refine ⟨_, rfl, ?_⟩; have HD := ak_ hD; have HKb := ak_ (qcu.trans (qcu.qbN qam g) hk); clear hD hk))
    go_ret
    exact ⟨rfl, HD.out, HKb.out⟩
  | .cAdd, h =>
    simp only [Cmd.word, Cmd.bytes]; dsimp only at h; by_cases hlq : rs.length + lr.length < 8796093022208; rotate_left
    ·rw [if_neg hlq] at h; exact absurd h (by simp)
    rw [if_pos hlq] at h; have HLq := ak_ hlq
    obtain ⟨ys, hys⟩ : ∃ ys, rs ++ lr = ys := ⟨_, rfl⟩
    rw [hys] at h; have HYE := ak_ hys; clear hlq hys; obtain ⟨⟨rs1, qi8⟩, A1, h⟩ := qaw h; (try dsimp only at h); obtain ⟨rfl, rfl, rfl⟩ := qfI h; have hqA_ : (w.alloc (.cells #[] 85)).cell? ⟨g, 2, none⟩ = some (.slice A1_ lr.length c1) := (qa7 (qao HCw.out (qai (Below.refl _ _) _)) 2).trans rfl; have hnA_ := World.new_ne w _ hzw_2; go_enter Tryz.func63, Tryz.ntmps63; go_wp2
    go_region_law (first | (refine Kd.qb0 qaN (w0 := w) w.heap.size ?hw (.tmp 23) (.tmp 24) 26 85 (.agg #[(.int .i64 0), (.int .i64 0)]) 16 rfl Tryz.underlying26 qcW rfl ?h2 ?h3 (.slice (some ⟨w.heap.size, 0, none⟩) 0 0) [] rs _ _ _ (fun _ => True) (fun _ => False) rfl rfl ?aO ?aR (fun _ _ h => h) (fun _ h => h.elim) ?aF ?aB ?aS ?aL ?_; (case hw => rfl); (case h2 => decide); (case h3 => omega); (case aR => exact (Kd.R_reads' (Kd.qbx HOw.out qam)).2.2); (case aB => exact qam); (case aF => exact (fun _ _ => trivial)); (case aO => exact (by apply_rules only [R_empty, Kd.qaq, Kd.qar, Kd.qaC])); (case aS => exact (qab qam)); (case aL => have := HLn.out; have := HLq.out; (try simp only [List.length_nil]); omega); intro v25 w25 ho hb _ _; rw [List.nil_append] at ho; have HV2 := ak_ ho; obtain ⟨Ay, cy, ey⟩ := Kd.qaJ HV2.out; subst ey; replace HB := ak_ hb; have hqw25_2 : w25.cell? ⟨g, 2, none⟩ = some (.slice A1_ lr.length c1) := (qa7 (qao HCw.out hb) 2).trans rfl; clear ho hb) | (refine Kd.qb0 qaN (w0 := w) w.heap.size ?hw (.tmp 25) (.tmp 29) 26 85 (.agg #[(.int .i64 0), (.int .i64 0)]) 16 rfl Tryz.underlying26 qcW rfl ?h2 ?h3 (.slice Ay rs.length cy) rs lr _ _ _ (fun _ => True) (fun _ => False) rfl rfl ?aO ?aR (fun _ _ h => h) (fun _ h => h.elim) ?aF ?aB ?aS ?aL ?_; (case hw => rfl); (case h2 => decide); (case h3 => omega); (case aR => exact (Kd.R_reads' (Kd.qbx HLw.out qam)).2.2); (case aB => exact qam); (case aF => exact (fun _ _ => trivial)); (case aO => exact (by apply_rules only [HV2.out, Kd.qaq, Kd.qar, Kd.qaC])); (case aS => exact (qab qam)); (case aL => have := HLn.out; have := HLq.out; (try simp only [List.length_nil]); omega); intro v30 w30 ho hb _ _; rw [HYE.out] at ho; have HX := ak_ (Kd.qau ho HBS.out); obtain ⟨Ax, cx, ex⟩ := Kd.qaJ HX.out; subst ex; replace HB := ak_ hb; have hqw30_2 : w30.cell? ⟨g, 2, none⟩ = some (.slice A1_ lr.length c1) := (qa7 (qao HCw.out hb) 2).trans rfl; clear ho hb))
    all_goals (go_wp2_with (first | (refine gl_ 36 Tryz.func97 #[.pointer (some ⟨g, 0, none⟩), .slice Ax ys.length cx, .bool (decide ((ys.length : Int) ≤ 12))] rfl qb1 ?_; (refine (qfy k base g Ax cx ys (decide ((ys.length : Int) ≤ 12)) rs mo lr tx n rs1 qi8 _ (SM.out _ qam).1 qmv A1.out).mono ?_); rintro e w9 ⟨rfl, hD, hk⟩; refine ⟨_, rfl, ?_⟩; have HD := ak_ hD; have HKb := ak_ (qcu.trans (qcu.qbN qam g) hk); clear hD hk)); go_ret; exact ⟨rfl, HD.out, HKb.out⟩)
  | .cDrop, h =>
    simp only [Cmd.word, Cmd.bytes]; dsimp only at h; by_cases hn : n ≥ (rs.length : Int)
    ·rw [if_pos hn] at h; obtain ⟨rfl, rfl, rfl⟩ := qfI h; have hnb : decide ((rs.length : Int) ≤ n) = true := decide_eq_true hn; clear hn; go_enter Tryz.func63, Tryz.ntmps63; go_wp2
     go_ret
     exact ⟨rfl, SM.out _ qam⟩
    rw [if_neg hn] at h; obtain ⟨xs, A1, h⟩ := qaw h; (try dsimp only at h); obtain ⟨⟨rs1, qi8⟩, A2, h⟩ := qaw h; (try dsimp only at h); obtain ⟨rfl, rfl, rfl⟩ := qfI h; have hnb : decide ((rs.length : Int) ≤ n) = false := decide_eq_false hn; clear hn; go_enter Tryz.func63, Tryz.ntmps63
    go_wp2_with (first | (refine gl_ 52 Tryz.func98 #[.slice A0 rs.length c0, .int .i64 n] rfl qb1 ?_; (refine (qbD.calls _ _ rs n xs _ qjk (Kd.R_reads' HO.out).2.1 A1.out).mono ?_); rintro e w2 ⟨vx, rfl, hox, hb⟩; refine ⟨_, rfl, ?_⟩; have HX := ak_ (Kd.qau hox (Nat.le_trans HBS.out (qab qam))); clear hox; obtain ⟨Ax, cx, ex⟩ := Kd.qaJ HX.out; subst ex; replace HB := ak_ (qaa qam hb); clear hb) | (refine gl_ 53 Tryz.func97 #[.pointer (some ⟨g, 0, none⟩), .slice Ax xs.length cx, .bool true] rfl qb1 ?_; (refine (qfy k base g Ax cx xs true rs mo lr tx n rs1 qi8 _ (SM.out _ qam).1 qmv A2.out).mono ?_); rintro e w9 ⟨rfl, hD, hk⟩; refine ⟨_, rfl, ?_⟩; have HD := ak_ hD; have HKb := ak_ (qcu.trans (qcu.qbN qam g) hk); clear hD hk))
    go_ret
    exact ⟨rfl, HD.out, HKb.out⟩
  | .cMost, h =>
    simp only [Cmd.word, Cmd.bytes]; dsimp only at h; obtain ⟨t, A1, h⟩ := qaw h
    cases t with
    | false =>
      rw [if_neg (by decide)] at h; obtain ⟨rfl, rfl, rfl⟩ := qfI h; go_enter Tryz.func63, Tryz.ntmps63
      go_wp2_with (first | (refine gl_ 60 Tryz.func61 #[.int .i64 n] rfl qb1 ?_; (refine ((qe9.calls n false _ A1.out)).mono ?_); rintro e w4 ⟨rfl, hd_⟩; refine ⟨_, rfl, ?_⟩; have hb := hd_.below; clear hd_; replace HB := ak_ (qaa qam hb); clear HC HO HL; have HC := ak_ (qao HCw.out HB.out); have HO := ak_ (Kd.qbx HOw.out HB.out); have HL := ak_ (Kd.qbx HLw.out HB.out); obtain ⟨qr9, qrO⟩ := qcv HC.out; have qsa := qbB HC.out; have qrP := qad HC.out 1; have hzw4_2 := qfl HC.out; have hfw4_2 := qad HC.out 2; have hzw4_3 := qft HC.out; have hfw4_3 := qad HC.out 3; have hzw4_4 := qfu HC.out; have hfw4_4 := qad HC.out 4; clear hb))
      go_ret
      exact ⟨rfl, SM.out _ qam⟩
    | true =>
      rw [if_pos rfl] at h; obtain ⟨s, A2, h⟩ := qaw h; obtain ⟨rfl, rfl, rfl⟩ := qfI h; go_enter Tryz.func63, Tryz.ntmps63
      go_wp2_with (first | (refine gl_ 60 Tryz.func61 #[.int .i64 n] rfl qb1 ?_; (refine ((qe9.calls n true _ A1.out)).mono ?_); rintro e w4 ⟨rfl, hd_⟩; refine ⟨_, rfl, ?_⟩; have hb := hd_.below; clear hd_; replace HB := ak_ (qaa qam hb); clear HC HO HL; have HC := ak_ (qao HCw.out HB.out); have HO := ak_ (Kd.qbx HOw.out HB.out); have HL := ak_ (Kd.qbx HLw.out HB.out); obtain ⟨qr9, qrO⟩ := qcv HC.out; have qsa := qbB HC.out; have qrP := qad HC.out 1; have hzw4_2 := qfl HC.out; have hfw4_2 := qad HC.out 2; have hzw4_3 := qft HC.out; have hfw4_3 := qad HC.out 3; have hzw4_4 := qfu HC.out; have hfw4_4 := qad HC.out 4; clear hb) | (refine gl_ 71 Tryz.func99 #[.slice A0 rs.length c0, .bool true] rfl qb1 ?_; (refine (qci.calls k _ _ rs true s _ k22_ (Kd.R_reads' HO.out).2.1 A2.out).mono ?_); rintro e wb ⟨rfl, hb⟩; refine ⟨_, rfl, ?_⟩; have HB2 := ak_ hb; clear hb))
      go_ret
      exact ⟨rfl, ⟨A0, c0, A1_, c1, qao (qbp qqs 1 _ rfl) HB2.out, Kd.qbx (Kd.qgJ k94_ qqs (by decide) 1 _) HB2.out, Kd.qbx (Kd.qgJ (by apply_rules only [HL.out, Kd.qaq, Kd.qar, Kd.qaC]) qqs (by decide) 1 _) HB2.out⟩, (qcu.set_ (qcu.qbN qam g) 1 _).trans (qcu.qbN HB2.out g)⟩
  | .cMove, h =>
    simp only [Cmd.word, Cmd.bytes]; dsimp only at h; obtain ⟨⟨xs, ok⟩, A1, h⟩ := qaw h; (try dsimp only at h); obtain ⟨⟨rs1, qi8⟩, A2, h⟩ := qaw h; (try dsimp only at h); obtain ⟨rfl, rfl, rfl⟩ := qfI h; go_enter Tryz.func63, Tryz.ntmps63
    go_wp2_with (first | (refine gl_ 80 Tryz.func100 #[.slice A0 rs.length c0, .int .i64 n] rfl qb1 ?_; (refine (qaM.calls k _ _ rs n xs ok _ qjk (Kd.R_reads' HO.out).2.1 A1.out).mono ?_); rintro e w2 ⟨vx, rfl, hox, hb⟩; refine ⟨_, rfl, ?_⟩; have HX := ak_ (Kd.qau hox (Nat.le_trans HBS.out (qab qam))); clear hox; obtain ⟨Ax, cx, ex⟩ := Kd.qaJ HX.out; subst ex; replace HB := ak_ (qaa qam hb); clear hb) | (refine gl_ 83 Tryz.func97 #[.pointer (some ⟨g, 0, none⟩), .slice Ax xs.length cx, .bool ok] rfl qb1 ?_; (refine (qfy k base g Ax cx xs ok rs mo lr tx n rs1 qi8 _ (SM.out _ qam).1 qmv A2.out).mono ?_); rintro e w9 ⟨rfl, hD, hk⟩; refine ⟨_, rfl, ?_⟩; have HD := ak_ hD; have HKb := ak_ (qcu.trans (qcu.qbN qam g) hk); clear hD hk))
    go_ret
    exact ⟨rfl, HD.out, HKb.out⟩
  | .cMirror, h =>
    simp only [Cmd.word, Cmd.bytes]; dsimp only at h; obtain ⟨⟨xs, ok⟩, A1, h⟩ := qaw h; (try dsimp only at h); obtain ⟨⟨rs1, qi8⟩, A2, h⟩ := qaw h; (try dsimp only at h); obtain ⟨rfl, rfl, rfl⟩ := qfI h; go_enter Tryz.func63, Tryz.ntmps63
    go_wp2_with (first | (refine gl_ 88 Tryz.func101 #[.slice A0 rs.length c0] rfl qb1 ?_; (refine (qa1.calls k _ _ rs xs ok _ qjk (Kd.R_reads' HO.out).2.1 A1.out).mono ?_); rintro e w2 ⟨vx, rfl, hox, hb⟩; refine ⟨_, rfl, ?_⟩; have HX := ak_ (Kd.qau hox (Nat.le_trans HBS.out (qab qam))); clear hox; obtain ⟨Ax, cx, ex⟩ := Kd.qaJ HX.out; subst ex; replace HB := ak_ (qaa qam hb); clear hb) | (refine gl_ 91 Tryz.func97 #[.pointer (some ⟨g, 0, none⟩), .slice Ax xs.length cx, .bool ok] rfl qb1 ?_; (refine (qfy k base g Ax cx xs ok rs mo lr tx n rs1 qi8 _ (SM.out _ qam).1 qmv A2.out).mono ?_); rintro e w9 ⟨rfl, hD, hk⟩; refine ⟨_, rfl, ?_⟩; have HD := ak_ hD; have HKb := ak_ (qcu.trans (qcu.qbN qam g) hk); clear hD hk))
    go_ret
    exact ⟨rfl, HD.out, HKb.out⟩
  | .cTidy, h =>
    simp only [Cmd.word, Cmd.bytes]; dsimp only at h; obtain ⟨⟨xs, ok⟩, A1, h⟩ := qaw h; (try dsimp only at h); obtain ⟨⟨rs1, qi8⟩, A2, h⟩ := qaw h; (try dsimp only at h); obtain ⟨rfl, rfl, rfl⟩ := qfI h; go_enter Tryz.func63, Tryz.ntmps63
    go_wp2_with (first | (refine gl_ 96 Tryz.func102 #[.slice A0 rs.length c0] rfl qb1 ?_; (refine (qaK.calls k _ _ rs xs ok _ qjk (Kd.R_reads' HO.out).2.1 A1.out).mono ?_); rintro e w2 ⟨vx, rfl, hox, hb⟩; refine ⟨_, rfl, ?_⟩; have HX := ak_ (Kd.qau hox (Nat.le_trans HBS.out (qab qam))); clear hox; obtain ⟨Ax, cx, ex⟩ := Kd.qaJ HX.out; subst ex; replace HB := ak_ (qaa qam hb); clear hb) | (refine gl_ 99 Tryz.func97 #[.pointer (some ⟨g, 0, none⟩), .slice Ax xs.length cx, .bool ok] rfl qb1 ?_; (refine (qfy k base g Ax cx xs ok rs mo lr tx n rs1 qi8 _ (SM.out _ qam).1 qmv A2.out).mono ?_); rintro e w9 ⟨rfl, hD, hk⟩; refine ⟨_, rfl, ?_⟩; have HD := ak_ hD; have HKb := ak_ (qcu.trans (qcu.qbN qam g) hk); clear hD hk))
    go_ret
    exact ⟨rfl, HD.out, HKb.out⟩
  | .cPrimes, h =>
    simp only [Cmd.word, Cmd.bytes]; dsimp only at h; obtain ⟨⟨xs, ok⟩, A1, h⟩ := qaw h; (try dsimp only at h); obtain ⟨⟨rs1, qi8⟩, A2, h⟩ := qaw h; (try dsimp only at h); obtain ⟨rfl, rfl, rfl⟩ := qfI h; go_enter Tryz.func63, Tryz.ntmps63
    go_wp2_with (first | (refine gl_ 105 Tryz.func103 #[.int .i64 n] rfl qb1 ?_; (refine (qcC.calls k n xs ok _ A1.out).mono ?_); rintro e w2 ⟨vx, rfl, hox, hb⟩; refine ⟨_, rfl, ?_⟩; have HX := ak_ (Kd.qau hox (Nat.le_trans HBS.out (qab qam))); clear hox; obtain ⟨Ax, cx, ex⟩ := Kd.qaJ HX.out; subst ex; replace HB := ak_ (qaa qam hb); clear hb) | (refine gl_ 108 Tryz.func97 #[.pointer (some ⟨g, 0, none⟩), .slice Ax xs.length cx, .bool ok] rfl qb1 ?_; (refine (qfy k base g Ax cx xs ok rs mo lr tx n rs1 qi8 _ (SM.out _ qam).1 qmv A2.out).mono ?_); rintro e w9 ⟨rfl, hD, hk⟩; refine ⟨_, rfl, ?_⟩; have HD := ak_ hD; have HKb := ak_ (qcu.trans (qcu.qbN qam g) hk); clear hD hk))
    go_ret
    exact ⟨rfl, HD.out, HKb.out⟩
def qbU.l0 : Nat → ByteArray → List Int → Int → Int → Option (ByteArray)
 | 0, _, _, _, _ => none
 | k + 1, x3, x9, x10, x11 => if x11 < x10 then (if 0 ≤ x11 then (if x11 < (x9.length : Int) then (if x11 > 0 then (if x3.size + 1 ≤ 9223372036854775807 then ((qbr.f k (rd x9 x11)).bind fun qaI => (if (x3 ++ (⟨#[44]⟩ : ByteArray)).size + qaI.size ≤ 9223372036854775807 then (qbU.l0 k ((x3 ++ (⟨#[44]⟩ : ByteArray)) ++ qaI) x9 x10 (wrap64 (x11 + 1))) else (none))) else (none)) else ((qbr.f k (rd x9 x11)).bind fun qb7 => (if x3.size + qb7.size ≤ 9223372036854775807 then (qbU.l0 k (x3 ++ qb7) x9 x10 (wrap64 (x11 + 1))) else (none)))) else (none)) else (none)) else (some x3)
def qbU.f (k : Nat) (l0 : List Int) : Option (ByteArray) := if (l0.length : Int) = 0 then (some (⟨#[45]⟩ : ByteArray)) else (qbU.l0 k (⟨#[]⟩ : ByteArray) l0 (l0.length : Int) 0)
theorem qbU.calls (k : Nat) (A0 : Option Addr) (c0 : Nat) (l0 : List Int) (r : ByteArray) (w : World) (hr0 : Kd.C (Kd.int .i64) w A0 l0.length l0) (hc0 : l0.length ≤ c0) (h : qbU.f k l0 = some r) :
  Calls Tryz.prog 158 #[.slice A0 l0.length c0] w fun e w' => e = .returned (.string r) ∧ Below w.heap.size w w' := by
 have HR0 := ak_ hr0; have HC0 := ak_ hc0; clear hr0 hc0; have HB := ak_ (Below.refl w.heap.size w); have H : (if (l0.length : Int) = 0 then (some (⟨#[45]⟩ : ByteArray)) else (qbU.l0 k (⟨#[]⟩ : ByteArray) l0 (l0.length : Int) 0)) = some r := h; clear h; by_cases c2 : (l0.length : Int) = 0
 ·rw [if_pos c2] at H; have qfe : ((l0.length : Int) == 0) = true := beq_iff_eq.mpr c2; have qmJ : ((l0.length : Int) != 0) = false := bne_eq_false_iff_eq.mpr c2; clear c2; obtain rfl := Option.some.inj H; go_enter Tryz.func158, Tryz.ntmps158; go_wp2
  go_ret
  exact ⟨qce, qam⟩
 rw [if_neg c2] at H; have qfe : ((l0.length : Int) == 0) = false := beq_eq_false_iff_ne.mpr c2; have qmJ : ((l0.length : Int) != 0) = true := bne_iff_ne.mpr c2
 have c2b2 : ¬ (l0 = []) := fun h_ => c2 (by rw [h_]; rfl)
 have H' := ak_ H; clear H; go_enter Tryz.func158, Tryz.ntmps158; go_wp2
 go_loopg [3, 11] k (fun kq v3 v11 w' => ∃ (qbg : ByteArray) (qb2 : Int), v3 = .string qbg ∧ v11 = .int .i64 qb2 ∧ qag (qbU.l0 kq qbg l0 (l0.length : Int) qb2 = some r) ∧ qag (kq ≤ k) ∧ qag (Below w.heap.size w w'))
 case atStart => exact ⟨((⟨#[]⟩ : ByteArray)), (0), qav, qav, H', ⟨Nat.le_refl _⟩, ⟨qam⟩⟩
 case round =>
  clear H'; (try clear c2); (try clear qfe); (try clear qmJ); (try clear c2b2); obtain ⟨qbg, qb2, rfl, rfl, HA, HK1, HB⟩ := hrel
  cases gk with
  | zero => exact absurd HA.out (by simp [qbU.l0])
  | succ k1 =>
   have H := HA.out; clear HA; simp only [qbU.l0] at H; by_cases c3 : qb2 < (l0.length : Int); rotate_left
   ·rw [if_neg c3] at H; have qff : decide (qb2 < (l0.length : Int)) = false := decide_eq_false c3; clear c3; obtain rfl := Option.some.inj H; go_wp2
    go_ret
    exact ⟨qce, qam⟩
   rw [if_pos c3] at H; have qff : decide (qb2 < (l0.length : Int)) = true := decide_eq_true c3; clear c3; by_cases c4 : 0 ≤ qb2; rotate_left
   ·rw [if_neg c4] at H; exact absurd H (by simp)
   rw [if_pos c4] at H; have qfx : decide (0 ≤ qb2) = true := decide_eq_true c4; clear c4; by_cases c5 : qb2 < (l0.length : Int); rotate_left
   ·rw [if_neg c5] at H; exact absurd H (by simp)
   rw [if_pos c5] at H; have qgH : decide (qb2 < (l0.length : Int)) = true := decide_eq_true c5; clear c5; by_cases c6 : qb2 > 0; rotate_left
   ·rw [if_neg c6] at H; have qfY : decide (0 < qb2) = false := decide_eq_false c6; clear c6; obtain ⟨qb7, A11, H⟩ := qaw H; (try dsimp only at H); by_cases c12 : qbg.size + qb7.size ≤ 9223372036854775807; rotate_left
    ·rw [if_neg c12] at H; exact absurd H (by simp)
    rw [if_pos c12] at H; have qhm := eq_true c12; have c12b1 : decide (qbg.size + qb7.size ≤ 9223372036854775807) = true := decide_eq_true c12
    try have c12b2 : (9223372036854775807 < qbg.size + qb7.size) = False := eq_false (Nat.not_lt.2 c12)
    have H' := ak_ H; clear H; have qeE : 0 ≤ (qb2 : Int) := of_decide_eq_true qaU; have qeI : qb2 < (l0.length : Int) := of_decide_eq_true qaU; obtain ⟨qgB, qha, qbj⟩ := Kd.qem HR0.out qb2 qeE qeI
    cases qha
    replace qbj := (HB.out.cell (World.block_lt_of_cell? w _ qbj)).trans qbj; replace qeE := eq_true qeE; replace qeI := eq_true qeI
    go_wp2_with (first | (refine gl_ 22 Tryz.func83 #[.int .i64 (rd l0 qb2)] rfl qbK ?_; (with_reducible refine (qbr.calls k1 (rd l0 qb2) qb7 _ A11.out).mono ?_); rintro e w13 ⟨rfl, hb⟩; refine ⟨_, rfl, ?_⟩; replace HB := HB.mw hb; (try clear hb)))
    go_roundg k1
    case measure => have := HK1.out; omega
    case rel => exact ⟨(qbg ++ qb7), (wrap64 (qb2 + 1)), qav, qav, H', ⟨qc9⟩, ⟨qam⟩⟩
   rw [if_pos c6] at H; have qfY : decide (0 < qb2) = true := decide_eq_true c6; clear c6; by_cases c7 : qbg.size + 1 ≤ 9223372036854775807; rotate_left
   ·rw [if_neg c7] at H; exact absurd H (by simp)
   rw [if_pos c7] at H; have qgM := eq_true c7; have qmr : decide (qbg.size + 1 ≤ 9223372036854775807) = true := decide_eq_true c7
   try have c7b2 : (9223372036854775807 < qbg.size + 1) = False := eq_false (Nat.not_lt.2 c7)
   obtain ⟨qaI, A8, H⟩ := qaw H; (try dsimp only at H); by_cases c9 : (qbg ++ (⟨#[44]⟩ : ByteArray)).size + qaI.size ≤ 9223372036854775807; rotate_left
   ·rw [if_neg c9] at H; exact absurd H (by simp)
   rw [if_pos c9] at H; have qlX := eq_true c9; have c9b1 : decide ((qbg ++ (⟨#[44]⟩ : ByteArray)).size + qaI.size ≤ 9223372036854775807) = true := decide_eq_true c9
   try have c9b2 : (9223372036854775807 < (qbg ++ (⟨#[44]⟩ : ByteArray)).size + qaI.size) = False := eq_false (Nat.not_lt.2 c9)
   have c9b3 := c9b2; simp only [ByteArray.size_append, show (⟨#[44]⟩ : ByteArray).size = 1 from rfl, show (⟨#[47]⟩ : ByteArray).size = 1 from rfl, show (⟨#[58]⟩ : ByteArray).size = 1 from rfl] at c9b3; have H' := ak_ H; clear H; have qeE : 0 ≤ (qb2 : Int) := of_decide_eq_true qaU; have qeI : qb2 < (l0.length : Int) := of_decide_eq_true qaU; obtain ⟨qgB, qha, qbj⟩ := Kd.qem HR0.out qb2 qeE qeI
   cases qha
   replace qbj := (HB.out.cell (World.block_lt_of_cell? w _ qbj)).trans qbj; replace qeE := eq_true qeE; replace qeI := eq_true qeI
   go_wp2_with (first | (refine gl_ 22 Tryz.func83 #[.int .i64 (rd l0 qb2)] rfl qbK ?_; (with_reducible refine (qbr.calls k1 (rd l0 qb2) qaI _ A8.out).mono ?_); rintro e w10 ⟨rfl, hb⟩; refine ⟨_, rfl, ?_⟩; replace HB := HB.mw hb; (try clear hb)))
   go_roundg k1
   case measure => have := HK1.out; omega
   case rel => exact ⟨((qbg ++ (⟨#[44]⟩ : ByteArray)) ++ qaI), (wrap64 (qb2 + 1)), qav, qav, H', ⟨qc9⟩, ⟨qam⟩⟩
def qdE.f (k : Nat) (l0 : List Int) (a1 : Bool) : Option (ByteArray) := if a1 = true then ((qbU.f k l0).bind fun qas => (some qas)) else (some (⟨#[110, 111]⟩ : ByteArray))
theorem qdE.calls (k : Nat) (A0 : Option Addr) (c0 : Nat) (l0 : List Int) (a1 : Bool) (r : ByteArray) (w : World) (hr0 : Kd.C (Kd.int .i64) w A0 l0.length l0) (hc0 : l0.length ≤ c0) (h : qdE.f k l0 a1 = some r) :
  Calls Tryz.prog 104 #[.slice A0 l0.length c0, .bool a1] w fun e w' => e = .returned (.string r) ∧ Below w.heap.size w w' := by
 have HR0 := ak_ hr0; have HC0 := ak_ hc0; clear hr0 hc0; have HB := ak_ (Below.refl w.heap.size w); have H : (if a1 = true then ((qbU.f k l0).bind fun qas => (some qas)) else (some (⟨#[110, 111]⟩ : ByteArray))) = some r := h; clear h; by_cases c3 : a1 = true
 ·subst c3; rw [if_pos rfl] at H; obtain ⟨qas, A4, H⟩ := qaw H; (try dsimp only at H); obtain rfl := Option.some.inj H; go_enter Tryz.func104, Tryz.ntmps104
  go_wp2_with (first | (refine gl_ 8 Tryz.func158 #[.slice A0 l0.length c0] rfl qbK ?_; (with_reducible refine (qbU.calls k _ _ l0 qas _ ?qay ?qaz A4.out).mono ?_); (case qay => exact qfM); (case qaz => exact qb6); rintro e w5 ⟨rfl, hb⟩; refine ⟨_, rfl, ?_⟩; replace HB := HB.mw hb; (try clear hb)))
  go_ret
  exact ⟨qce, qam⟩
 replace c3 := Bool.eq_false_iff.mpr c3; subst c3; rw [if_neg (show ¬ (false = true) by decide)] at H; obtain rfl := Option.some.inj H; go_enter Tryz.func104, Tryz.ntmps104; go_wp2
 go_ret
 exact ⟨qce, qam⟩
def qdF.f (k : Nat) (l0 : List (qac)) (a1 : Int) : Option (Bool) := (qaO.f k l0).bind fun qas => (if qas = true then ((qbf.f a1 0 600).bind fun qaI => (some qaI)) else (some false))
theorem qdF.calls (k : Nat) (A0 : Option Addr) (c0 : Nat) (l0 : List (qac)) (a1 : Int) (r : Bool) (w : World) (hr0 : Kd.C qaN w A0 l0.length l0) (hc0 : l0.length ≤ c0) (h : qdF.f k l0 a1 = some r) :
  Calls Tryz.prog 159 #[.slice A0 l0.length c0, .int .i64 a1] w fun e w' => e = .returned (.bool r) ∧ Below w.heap.size w w' := by
 have HR0 := ak_ hr0; have HC0 := ak_ hc0; clear hr0 hc0; have HB := ak_ (Below.refl w.heap.size w); have H : ((qaO.f k l0).bind fun qas => (if qas = true then ((qbf.f a1 0 600).bind fun qaI => (some qaI)) else (some false))) = some r := h; clear h; obtain ⟨qas, A3, H⟩ := qaw H; (try dsimp only at H); by_cases c4 : qas = true
 ·subst c4; rw [if_pos rfl] at H; obtain ⟨qaI, A5, H⟩ := qaw H; (try dsimp only at H); obtain rfl := Option.some.inj H; go_enter Tryz.func159, Tryz.ntmps159
  go_wp2_with (first | (refine gl_ 6 Tryz.func60 #[.slice A0 l0.length c0] rfl qbK ?_; (with_reducible refine (qaO.calls k _ _ l0 true _ ?qay ?qaz A3.out).mono ?_); (case qay => exact qfM); (case qaz => exact qb6); rintro e w6 ⟨rfl, hb⟩; refine ⟨_, rfl, ?_⟩; replace HB := HB.mw hb; (try clear hb)) | (go_at_call 93; (with_reducible refine (qbf.calls a1 0 600 qaI _ A5.out).mono ?_); rintro e w' ⟨rfl, ⟨nd, rfl⟩⟩))
  go_ret
  exact ⟨qce, qam⟩
 replace c4 := Bool.eq_false_iff.mpr c4; subst c4; rw [if_neg (show ¬ (false = true) by decide)] at H; obtain rfl := Option.some.inj H; go_enter Tryz.func159, Tryz.ntmps159
 go_wp2_with (first | (refine gl_ 6 Tryz.func60 #[.slice A0 l0.length c0] rfl qbK ?_; (with_reducible refine (qaO.calls k _ _ l0 false _ ?qay ?qaz A3.out).mono ?_); (case qay => exact qfM); (case qaz => exact qb6); rintro e w7 ⟨rfl, hb⟩; refine ⟨_, rfl, ?_⟩; replace HB := HB.mw hb; (try clear hb)))
 go_ret
 exact ⟨qce, qam⟩
def qbV.l0 : Nat → List (qac) → Int → List Int → Int → Option (List Int)
 | 0, _, _, _, _ => none
 | k + 1, x0, x1, x5, x6 => if x6 ≤ x1 then ((qch.f k x0 x6).bind fun qas => (if qas = true then (if x5.length < 17592186044416 then (qbV.l0 k x0 x1 (x5 ++ [x6]) (wrap64 (x6 + 1))) else (none)) else (qbV.l0 k x0 x1 x5 (wrap64 (x6 + 1))))) else (some x5)
def qbV.f (k : Nat) (l0 : List (qac)) (a1 : Int) : Option (List Int) := qbV.l0 k l0 a1 ([] : List Int) 1
theorem qbV.calls (k : Nat) (A0 : Option Addr) (c0 : Nat) (l0 : List (qac)) (a1 : Int) (r : List Int) (w : World) (hr0 : Kd.C qaN w A0 l0.length l0) (hc0 : l0.length ≤ c0) (h : qbV.f k l0 a1 = some r) :
  Calls Tryz.prog 160 #[.slice A0 l0.length c0, .int .i64 a1] w fun e w' => ∃ v0_ : Value, e = .returned (v0_) ∧ Kd.R (Kd.int .i64) 3 w' w.heap.size (fun _ => True) v0_ r ∧ Below w.heap.size w w' := by
 have HR0 := ak_ hr0; have HC0 := ak_ hc0; clear hr0 hc0; have HB := ak_ (Below.refl w.heap.size w); have H : (qbV.l0 k l0 a1 ([] : List Int) 1) = some r := h; clear h; have H' := ak_ H; clear H; go_enter Tryz.func160, Tryz.ntmps160; go_wp2
 go_loopg [5, 6] k (fun kq v5 v6 w' => ∃ (qbP : List Int) (qcU : Int), v6 = .int .i64 qcU ∧ qag (qbV.l0 kq l0 a1 qbP qcU = some r) ∧ qag (kq ≤ k) ∧ qag (Kd.R (Kd.int .i64) 3 w' w.heap.size (fun _ => True) v5 qbP) ∧ qag (Below w.heap.size w w'))
 case atStart => exact ⟨(([] : List Int)), (1), qav, H', ⟨Nat.le_refl _⟩, ⟨qg4⟩, ⟨qam⟩⟩
 case round =>
  clear H'; obtain ⟨qbP, qcU, rfl, HA, HK1, qgy, HB⟩ := hrel
  cases gk with
  | zero => exact absurd HA.out (by simp [qbV.l0])
  | succ k1 =>
   have H := HA.out; clear HA; simp only [qbV.l0] at H; by_cases c3 : qcU ≤ a1; rotate_left
   ·rw [if_neg c3] at H; have qff : decide (qcU ≤ a1) = false := decide_eq_false c3; clear c3; obtain rfl := Option.some.inj H; go_wp2
    go_ret
    exact ⟨_, qce, k65_, qam⟩
   rw [if_pos c3] at H; have qff : decide (qcU ≤ a1) = true := decide_eq_true c3; clear c3; obtain ⟨qas, A4, H⟩ := qaw H; (try dsimp only at H); by_cases c5 : qas = true; rotate_left
   ·replace c5 := Bool.eq_false_iff.mpr c5; subst c5; rw [if_neg (show ¬ (false = true) by decide)] at H; have H' := ak_ H; clear H
    go_wp2_with (first | (refine gl_ 14 Tryz.func173 #[.slice A0 l0.length c0, .int .i64 qcU] rfl qbK ?_; (with_reducible refine (qch.calls k1 _ _ l0 qcU false _ ?qay ?qaz A4.out).mono ?_); (case qay => exact qg3); (case qaz => exact qb6); rintro e w9 ⟨rfl, hb⟩; refine ⟨_, rfl, ?_⟩; replace qgy := qgy.mw hb; replace HB := HB.mw hb; (try clear hb)))
    go_roundg k1
    case measure => have := HK1.out; omega
    case rel => exact ⟨(qbP), (wrap64 (qcU + 1)), qav, H', ⟨qc9⟩, ⟨qnM⟩, ⟨qam⟩⟩
   subst c5; rw [if_pos rfl] at H; by_cases c6 : qbP.length < 17592186044416; rotate_left
   ·rw [if_neg c6] at H; exact absurd H (by simp)
   rw [if_pos c6] at H; have LMc6 := ak_ c6; clear c6
   obtain ⟨qh1, hy_⟩ : ∃ y_ : List Int, y_ = (qbP ++ [qcU]) := ⟨_, rfl⟩
   replace H : (qbV.l0 k1 l0 a1 qh1 (wrap64 (qcU + 1))) = some r := qe6; have qgq := ak_ hy_; clear hy_; have H' := ak_ H; clear H
   go_wp2_with (first | (refine gl_ 14 Tryz.func173 #[.slice A0 l0.length c0, .int .i64 qcU] rfl qbK ?_; (with_reducible refine (qch.calls k1 _ _ l0 qcU true _ ?qay ?qaz A4.out).mono ?_); (case qay => exact qg3); (case qaz => exact qb6); rintro e w7 ⟨rfl, hb⟩; refine ⟨_, rfl, ?_⟩; replace qgy := qgy.mw hb; replace HB := HB.mw hb; (try clear hb)) | ((with_reducible refine qa3 (b := .append) (xs := #[.tmp 15, .tmp 17]) rfl ?_); at_builtin; refine Kd.qc8 (Kd.int .i64) (w0 := w) w.heap.size rfl (.tmp 15) (.tmp 17) 48 3 (.int .i64 0) 8 rfl Tryz.underlying48 info3 rfl (by decide) (by omega) u5 qbP qcU [.int .i64 qcU] (fun _ => True) (fun _ => False) rfl rfl ?aP (fun _ hk => hk.elim) ?aF ?aO ?aB ?aS ?aL ?_; (case aP => exact rfl); (case aB => exact qam); (case aF => exact (fun _ _ => trivial)); (case aO => exact qnM); (case aS => exact (qab qam)); (case aL => have := LMc6.out; omega); intro qhg w8 ho hb hg hat; rw [← qgq.out] at ho; replace HB := ak_ (hb); have qbW := ak_ (ho); clear qgy; clear ho hb hg hat))
   go_roundg k1
   case measure => have := HK1.out; omega
   case rel => exact ⟨(qh1), (wrap64 (qcU + 1)), qav, H', ⟨qc9⟩, ⟨qqL⟩, ⟨qam⟩⟩
def qes.f (k : Nat) (l0 : List (qac)) (a1 : Int) : Option (List Int × Bool) := (qdF.f k l0 a1).bind fun qas => (if qas = true then ((qbV.f k l0 a1).bind fun qaI => (some (qaI, true))) else (some (([] : List Int), false)))
theorem qes.calls (k : Nat) (A0 : Option Addr) (c0 : Nat) (l0 : List (qac)) (a1 : Int) (r1 : List Int) (r2 : Bool) (w : World) (hr0 : Kd.C qaN w A0 l0.length l0) (hc0 : l0.length ≤ c0) (h : qes.f k l0 a1 = some (r1, r2)) :
  Calls Tryz.prog 105 #[.slice A0 l0.length c0, .int .i64 a1] w fun e w' => ∃ v0_ : Value, e = .returned (.tuple #[v0_, .bool r2]) ∧ Kd.R (Kd.int .i64) 3 w' w.heap.size (fun _ => True) v0_ r1 ∧ Below w.heap.size w w' := by
 have HR0 := ak_ hr0; have HC0 := ak_ hc0; clear hr0 hc0; have HB := ak_ (Below.refl w.heap.size w); have H : ((qdF.f k l0 a1).bind fun qas => (if qas = true then ((qbV.f k l0 a1).bind fun qaI => (some (qaI, true))) else (some (([] : List Int), false)))) = some (r1, r2) := h; clear h; obtain ⟨qas, A3, H⟩ := qaw H; (try dsimp only at H); by_cases c4 : qas = true
 ·subst c4; rw [if_pos rfl] at H; obtain ⟨qaI, A5, H⟩ := qaw H; (try dsimp only at H); obtain ⟨rfl, rfl⟩ := qdI H; go_enter Tryz.func105, Tryz.ntmps105
  go_wp2_with (first | (refine gl_ 8 Tryz.func159 #[.slice A0 l0.length c0, .int .i64 a1] rfl qbK ?_; (with_reducible refine (qdF.calls k _ _ l0 a1 true _ ?qay ?qaz A3.out).mono ?_); (case qay => exact qfM); (case qaz => exact qb6); rintro e w6 ⟨rfl, hb⟩; refine ⟨_, rfl, ?_⟩; replace HB := HB.mw hb; (try clear hb)) | (refine gl_ 12 Tryz.func160 #[.slice A0 l0.length c0, .int .i64 a1] rfl qbK ?_; (with_reducible refine (qbV.calls k _ _ l0 a1 qaI _ ?qay ?qaz A5.out).mono ?_); (case qay => exact qg3); (case qaz => exact qb6); rintro e w7 ⟨qhg, rfl, ho0, hb⟩; refine ⟨_, rfl, ?_⟩; have qbW := ak_ (Kd.qau ho0 (qab qam)); replace HB := HB.mw hb; (try clear hb ho0)))
  go_ret2
  exact ⟨_, qce, k63_, qam⟩
 replace c4 := Bool.eq_false_iff.mpr c4; subst c4; rw [if_neg (show ¬ (false = true) by decide)] at H; obtain ⟨rfl, rfl⟩ := qdI H; go_enter Tryz.func105, Tryz.ntmps105
 go_wp2_with (first | (refine gl_ 8 Tryz.func159 #[.slice A0 l0.length c0, .int .i64 a1] rfl qbK ?_; (with_reducible refine (qdF.calls k _ _ l0 a1 false _ ?qay ?qaz A3.out).mono ?_); (case qay => exact qfM); (case qaz => exact qb6); rintro e w8 ⟨rfl, hb⟩; refine ⟨_, rfl, ?_⟩; replace HB := HB.mw hb; (try clear hb)))
 go_ret2
 exact ⟨_, qce, qg4, qam⟩
def qfc.f (k : Nat) (a0 : Int) : Option (ByteArray) := if a0 < 0 then ((qbr.f k (wrap64 (-a0))).bind fun qas => (if 1 + qas.size ≤ 9223372036854775807 then (some ((⟨#[45]⟩ : ByteArray) ++ qas)) else (none))) else ((qbr.f k a0).bind fun qaI => (some qaI))
theorem qfc.calls (k : Nat) (a0 : Int) (r : ByteArray) (w : World) (h : qfc.f k a0 = some r) :
  Calls Tryz.prog 161 #[.int .i64 a0] w fun e w' => e = .returned (.string r) ∧ Below w.heap.size w w' := by
 have HB := ak_ (Below.refl w.heap.size w); have H : (if a0 < 0 then ((qbr.f k (wrap64 (-a0))).bind fun qas => (if 1 + qas.size ≤ 9223372036854775807 then (some ((⟨#[45]⟩ : ByteArray) ++ qas)) else (none))) else ((qbr.f k a0).bind fun qaI => (some qaI))) = some r := h; clear h; by_cases c2 : a0 < 0; rotate_left
 ·rw [if_neg c2] at H; have qfe : decide (a0 < 0) = false := decide_eq_false c2; clear c2; obtain ⟨qaI, A6, H⟩ := qaw H; (try dsimp only at H); obtain rfl := Option.some.inj H; go_enter Tryz.func161, Tryz.ntmps161
  go_wp2_with (first | (refine gl_ 10 Tryz.func83 #[.int .i64 a0] rfl qbK ?_; (with_reducible refine (qbr.calls k a0 qaI _ A6.out).mono ?_); rintro e w7 ⟨rfl, hb⟩; refine ⟨_, rfl, ?_⟩; replace HB := HB.mw hb; (try clear hb)))
  go_ret
  exact ⟨qce, qam⟩
 rw [if_pos c2] at H; have qfe : decide (a0 < 0) = true := decide_eq_true c2; clear c2; obtain ⟨qas, A3, H⟩ := qaw H; (try dsimp only at H); by_cases c4 : 1 + qas.size ≤ 9223372036854775807; rotate_left
 ·rw [if_neg c4] at H; exact absurd H (by simp)
 rw [if_pos c4] at H; have qfx := eq_true c4; have qlW : decide (1 + qas.size ≤ 9223372036854775807) = true := decide_eq_true c4
 try have c4b2 : (9223372036854775807 < 1 + qas.size) = False := eq_false (Nat.not_lt.2 c4)
 obtain rfl := Option.some.inj H; go_enter Tryz.func161, Tryz.ntmps161
 go_wp2_with (first | (refine gl_ 7 Tryz.func83 #[.int .i64 (wrap64 (-a0))] rfl qbK ?_; (with_reducible refine (qbr.calls k (wrap64 (-a0)) qas _ A3.out).mono ?_); rintro e w5 ⟨rfl, hb⟩; refine ⟨_, rfl, ?_⟩; replace HB := HB.mw hb; (try clear hb)))
 go_ret
 exact ⟨qce, qam⟩
def qcD.f (k : Nat) (a0 : Int) (a1 : Bool) : Option (ByteArray) := if a1 = true then ((qfc.f k a0).bind fun qas => (some qas)) else (some (⟨#[110, 111]⟩ : ByteArray))
theorem qcD.calls (k : Nat) (a0 : Int) (a1 : Bool) (r : ByteArray) (w : World) (h : qcD.f k a0 a1 = some r) :
  Calls Tryz.prog 106 #[.int .i64 a0, .bool a1] w fun e w' => e = .returned (.string r) ∧ Below w.heap.size w w' := by
 have HB := ak_ (Below.refl w.heap.size w); have H : (if a1 = true then ((qfc.f k a0).bind fun qas => (some qas)) else (some (⟨#[110, 111]⟩ : ByteArray))) = some r := h; clear h; by_cases c3 : a1 = true
 ·subst c3; rw [if_pos rfl] at H; obtain ⟨qas, A4, H⟩ := qaw H; (try dsimp only at H); obtain rfl := Option.some.inj H; go_enter Tryz.func106, Tryz.ntmps106
  go_wp2_with (first | (refine gl_ 8 Tryz.func161 #[.int .i64 a0] rfl qbK ?_; (with_reducible refine (qfc.calls k a0 qas _ A4.out).mono ?_); rintro e w5 ⟨rfl, hb⟩; refine ⟨_, rfl, ?_⟩; replace HB := HB.mw hb; (try clear hb)))
  go_ret
  exact ⟨qce, qam⟩
 replace c3 := Bool.eq_false_iff.mpr c3; subst c3; rw [if_neg (show ¬ (false = true) by decide)] at H; obtain rfl := Option.some.inj H; go_enter Tryz.func106, Tryz.ntmps106; go_wp2
 go_ret
 exact ⟨qce, qam⟩
def qd6.f (k : Nat) (l0 : List (qac)) (a1 : Int) : Option (Int × Bool) := (qdF.f k l0 a1).bind fun qas => (if qas = true then ((qbV.f k l0 a1).bind fun qaI => (some ((qaI.length : Int), true))) else (some (0, false)))
theorem qd6.calls (k : Nat) (A0 : Option Addr) (c0 : Nat) (l0 : List (qac)) (a1 : Int) (r1 : Int) (r2 : Bool) (w : World) (hr0 : Kd.C qaN w A0 l0.length l0) (hc0 : l0.length ≤ c0) (h : qd6.f k l0 a1 = some (r1, r2)) :
  Calls Tryz.prog 107 #[.slice A0 l0.length c0, .int .i64 a1] w fun e w' => e = .returned (.tuple #[.int .i64 r1, .bool r2]) ∧ Below w.heap.size w w' := by
 have HR0 := ak_ hr0; have HC0 := ak_ hc0; clear hr0 hc0; have HB := ak_ (Below.refl w.heap.size w); have H : ((qdF.f k l0 a1).bind fun qas => (if qas = true then ((qbV.f k l0 a1).bind fun qaI => (some ((qaI.length : Int), true))) else (some (0, false)))) = some (r1, r2) := h; clear h; obtain ⟨qas, A3, H⟩ := qaw H; (try dsimp only at H); by_cases c4 : qas = true
 ·subst c4; rw [if_pos rfl] at H; obtain ⟨qaI, A5, H⟩ := qaw H; (try dsimp only at H); obtain ⟨rfl, rfl⟩ := qdI H; go_enter Tryz.func107, Tryz.ntmps107
  go_wp2_with (first | (refine gl_ 8 Tryz.func159 #[.slice A0 l0.length c0, .int .i64 a1] rfl qbK ?_; (with_reducible refine (qdF.calls k _ _ l0 a1 true _ ?qay ?qaz A3.out).mono ?_); (case qay => exact qfM); (case qaz => exact qb6); rintro e w6 ⟨rfl, hb⟩; refine ⟨_, rfl, ?_⟩; replace HB := HB.mw hb; (try clear hb)) | (refine gl_ 12 Tryz.func160 #[.slice A0 l0.length c0, .int .i64 a1] rfl qbK ?_; (with_reducible refine (qbV.calls k _ _ l0 a1 qaI _ ?qay ?qaz A5.out).mono ?_); (case qay => exact qg3); (case qaz => exact qb6); rintro e w7 ⟨qhg, rfl, ho0, hb⟩; refine ⟨_, rfl, ?_⟩; have qbW := ak_ (Kd.qau ho0 (qab qam)); replace HB := HB.mw hb; (try clear hb ho0); obtain ⟨Ao8, co8, eo8⟩ := Kd.qaJ qbW.out; subst eo8))
  go_ret2
  exact ⟨qce, qam⟩
 replace c4 := Bool.eq_false_iff.mpr c4; subst c4; rw [if_neg (show ¬ (false = true) by decide)] at H; obtain ⟨rfl, rfl⟩ := qdI H; go_enter Tryz.func107, Tryz.ntmps107
 go_wp2_with (first | (refine gl_ 8 Tryz.func159 #[.slice A0 l0.length c0, .int .i64 a1] rfl qbK ?_; (with_reducible refine (qdF.calls k _ _ l0 a1 false _ ?qay ?qaz A3.out).mono ?_); (case qay => exact qfM); (case qaz => exact qb6); rintro e w9 ⟨rfl, hb⟩; refine ⟨_, rfl, ?_⟩; replace HB := HB.mw hb; (try clear hb)))
 go_ret2
 exact ⟨qce, qam⟩
def qcB.f (k : Nat) (l0 : List (qac)) : Option (Int × Bool) := (qaO.f k l0).bind fun qas => (if qas = true then ((qbd.f k l0).bind fun qaI => (if qaI = 0 then (some (0, false)) else ((qbd.f k l0).bind fun qb7 => (some (qb7, true))))) else (some (0, false)))
theorem qcB.calls (k : Nat) (A0 : Option Addr) (c0 : Nat) (l0 : List (qac)) (r1 : Int) (r2 : Bool) (w : World) (hr0 : Kd.C qaN w A0 l0.length l0) (hc0 : l0.length ≤ c0) (h : qcB.f k l0 = some (r1, r2)) :
  Calls Tryz.prog 108 #[.slice A0 l0.length c0] w fun e w' => e = .returned (.tuple #[.int .i64 r1, .bool r2]) ∧ Below w.heap.size w w' := by
 have HR0 := ak_ hr0; have HC0 := ak_ hc0; clear hr0 hc0; have HB := ak_ (Below.refl w.heap.size w); have H : ((qaO.f k l0).bind fun qas => (if qas = true then ((qbd.f k l0).bind fun qaI => (if qaI = 0 then (some (0, false)) else ((qbd.f k l0).bind fun qb7 => (some (qb7, true))))) else (some (0, false)))) = some (r1, r2) := h; clear h; obtain ⟨qas, A2, H⟩ := qaw H; (try dsimp only at H); by_cases c3 : qas = true; rotate_left
 ·replace c3 := Bool.eq_false_iff.mpr c3; subst c3; rw [if_neg (show ¬ (false = true) by decide)] at H; obtain ⟨rfl, rfl⟩ := qdI H; go_enter Tryz.func108, Tryz.ntmps108
  go_wp2_with (first | (refine gl_ 5 Tryz.func60 #[.slice A0 l0.length c0] rfl qbK ?_; (with_reducible refine (qaO.calls k _ _ l0 false _ ?qay ?qaz A2.out).mono ?_); (case qay => exact qfM); (case qaz => exact qb6); rintro e w12 ⟨rfl, hb⟩; refine ⟨_, rfl, ?_⟩; replace HB := HB.mw hb; (try clear hb)))
  go_ret2
  exact ⟨qce, qam⟩
 subst c3; rw [if_pos rfl] at H; obtain ⟨qaI, A4, H⟩ := qaw H; (try dsimp only at H); by_cases c5 : qaI = 0
 ·rw [if_pos c5] at H; have qgH : (qaI == 0) = true := beq_iff_eq.mpr c5; have c5b1 : (qaI != 0) = false := bne_eq_false_iff_eq.mpr c5; clear c5; obtain ⟨rfl, rfl⟩ := qdI H; go_enter Tryz.func108, Tryz.ntmps108
  go_wp2_with (first | (refine gl_ 5 Tryz.func60 #[.slice A0 l0.length c0] rfl qbK ?_; (with_reducible refine (qaO.calls k _ _ l0 true _ ?qay ?qaz A2.out).mono ?_); (case qay => exact qfM); (case qaz => exact qb6); rintro e w6 ⟨rfl, hb⟩; refine ⟨_, rfl, ?_⟩; replace HB := HB.mw hb; (try clear hb)) | (go_at_call 155; (with_reducible refine (qbd.calls k _ _ l0 qaI _ ?qay ?qaz A4.out).mono ?_); (case qay => exact qg3); (case qaz => exact qb6); rintro e w7 ⟨rfl, hb⟩; replace HB := HB.mw hb; (try clear hb)))
  go_ret2
  exact ⟨qce, qam⟩
 rw [if_neg c5] at H; have qgH : (qaI == 0) = false := beq_eq_false_iff_ne.mpr c5; have c5b1 : (qaI != 0) = true := bne_iff_ne.mpr c5; obtain ⟨qb7, A8, H⟩ := qaw H; (try dsimp only at H); obtain ⟨rfl, rfl⟩ := qdI H; go_enter Tryz.func108, Tryz.ntmps108
 go_wp2_with (first | (refine gl_ 5 Tryz.func60 #[.slice A0 l0.length c0] rfl qbK ?_; (with_reducible refine (qaO.calls k _ _ l0 true _ ?qay ?qaz A2.out).mono ?_); (case qay => exact qfM); (case qaz => exact qb6); rintro e w9 ⟨rfl, hb⟩; refine ⟨_, rfl, ?_⟩; replace HB := HB.mw hb; (try clear hb)) | (go_at_call 155; (with_reducible refine (qbd.calls k _ _ l0 qaI _ ?qay ?qaz A4.out).mono ?_); (case qay => exact qg3); (case qaz => exact qb6); rintro e w10 ⟨rfl, hb⟩; replace HB := HB.mw hb; (try clear hb)) | (refine gl_ 13 Tryz.func155 #[.slice A0 l0.length c0] rfl qbK ?_; (with_reducible refine (qbd.calls k _ _ l0 qb7 _ ?qay ?qaz A8.out).mono ?_); (case qay => exact qg3); (case qaz => exact qb6); rintro e w11 ⟨rfl, hb⟩; refine ⟨_, rfl, ?_⟩; replace HB := HB.mw hb; (try clear hb)))
 go_ret2
 exact ⟨qce, qam⟩
def qaS.l0 : Nat → List (qac) → Int → Int → Option (Int)
 | 0, _, _, _ => none
 | k + 1, x0, x3, x4 => if x4 < x3 then ((qch.f k x0 x4).bind fun qb7 => (if qb7 = true then (some x3) else (qaS.l0 k x0 x3 (wrap64 (x4 + 1))))) else (some 0)
def qaS.f (k : Nat) (l0 : List (qac)) : Option (Int) := (qaO.f k l0).bind fun qas => (if qas = true then ((qbd.f k l0).bind fun qaI => (if qaI > 5000 then (some 0) else (qaS.l0 k l0 qaI 0))) else (some 0))
theorem qaS.calls (k : Nat) (A0 : Option Addr) (c0 : Nat) (l0 : List (qac)) (r : Int) (w : World) (hr0 : Kd.C qaN w A0 l0.length l0) (hc0 : l0.length ≤ c0) (h : qaS.f k l0 = some r) :
  Calls Tryz.prog 162 #[.slice A0 l0.length c0] w fun e w' => e = .returned (.int .i64 r) ∧ Below w.heap.size w w' := by
 have HR0 := ak_ hr0; have HC0 := ak_ hc0; clear hr0 hc0; have HB := ak_ (Below.refl w.heap.size w); have H : ((qaO.f k l0).bind fun qas => (if qas = true then ((qbd.f k l0).bind fun qaI => (if qaI > 5000 then (some 0) else (qaS.l0 k l0 qaI 0))) else (some 0))) = some r := h; clear h; obtain ⟨qas, A2, H⟩ := qaw H; (try dsimp only at H); by_cases c3 : qas = true; rotate_left
 ·replace c3 := Bool.eq_false_iff.mpr c3; subst c3; rw [if_neg (show ¬ (false = true) by decide)] at H; obtain rfl := Option.some.inj H; go_enter Tryz.func162, Tryz.ntmps162
  go_wp2_with (first | (refine gl_ 6 Tryz.func60 #[.slice A0 l0.length c0] rfl qbK ?_; (with_reducible refine (qaO.calls k _ _ l0 false _ ?qay ?qaz A2.out).mono ?_); (case qay => exact qfM); (case qaz => exact qb6); rintro e w15 ⟨rfl, hb⟩; refine ⟨_, rfl, ?_⟩; replace HB := HB.mw hb; (try clear hb)))
  go_ret
  exact ⟨qce, qam⟩
 subst c3; rw [if_pos rfl] at H; obtain ⟨qaI, A4, H⟩ := qaw H; (try dsimp only at H); by_cases c5 : qaI > 5000
 ·rw [if_pos c5] at H; have qgH : decide (5000 < qaI) = true := decide_eq_true c5; clear c5; obtain rfl := Option.some.inj H; go_enter Tryz.func162, Tryz.ntmps162
  go_wp2_with (first | (refine gl_ 6 Tryz.func60 #[.slice A0 l0.length c0] rfl qbK ?_; (with_reducible refine (qaO.calls k _ _ l0 true _ ?qay ?qaz A2.out).mono ?_); (case qay => exact qfM); (case qaz => exact qb6); rintro e w6 ⟨rfl, hb⟩; refine ⟨_, rfl, ?_⟩; replace HB := HB.mw hb; (try clear hb)) | (refine gl_ 9 Tryz.func155 #[.slice A0 l0.length c0] rfl qbK ?_; (with_reducible refine (qbd.calls k _ _ l0 qaI _ ?qay ?qaz A4.out).mono ?_); (case qay => exact qg3); (case qaz => exact qb6); rintro e w7 ⟨rfl, hb⟩; refine ⟨_, rfl, ?_⟩; replace HB := HB.mw hb; (try clear hb)))
  go_ret
  exact ⟨qce, qam⟩
 rw [if_neg c5] at H; have qgH : decide (5000 < qaI) = false := decide_eq_false c5; clear c5; have H' := ak_ H; clear H; go_enter Tryz.func162, Tryz.ntmps162
 go_wp2_with (first | (refine gl_ 6 Tryz.func60 #[.slice A0 l0.length c0] rfl qbK ?_; (with_reducible refine (qaO.calls k _ _ l0 true _ ?qay ?qaz A2.out).mono ?_); (case qay => exact qfM); (case qaz => exact qb6); rintro e w8 ⟨rfl, hb⟩; refine ⟨_, rfl, ?_⟩; replace HB := HB.mw hb; (try clear hb)) | (refine gl_ 9 Tryz.func155 #[.slice A0 l0.length c0] rfl qbK ?_; (with_reducible refine (qbd.calls k _ _ l0 qaI _ ?qay ?qaz A4.out).mono ?_); (case qay => exact qg3); (case qaz => exact qb6); rintro e w9 ⟨rfl, hb⟩; refine ⟨_, rfl, ?_⟩; replace HB := HB.mw hb; (try clear hb)))
 go_loopg [4] k (fun kq v4 w' => ∃ (qcs : Int), v4 = .int .i64 qcs ∧ qag (qaS.l0 kq l0 qaI qcs = some r) ∧ qag (kq ≤ k) ∧ qag (Below w.heap.size w w'))
 case atStart => exact ⟨(0), qav, H', ⟨Nat.le_refl _⟩, ⟨qam⟩⟩
 case round =>
  clear H'
  skip
  obtain ⟨qcs, rfl, HA, HK1, HB⟩ := hrel
  cases gk with
  | zero => exact absurd HA.out (by simp [qaS.l0])
  | succ k1 =>
   have H := HA.out; clear HA; simp only [qaS.l0] at H; by_cases c10 : qcs < qaI; rotate_left
   ·rw [if_neg c10] at H; have qgC : decide (qcs < qaI) = false := decide_eq_false c10; clear c10; obtain rfl := Option.some.inj H; go_wp2
    go_ret
    exact ⟨qce, qam⟩
   rw [if_pos c10] at H; have qgC : decide (qcs < qaI) = true := decide_eq_true c10; clear c10; obtain ⟨qb7, A11, H⟩ := qaw H; (try dsimp only at H); by_cases c12 : qb7 = true
   ·subst c12; rw [if_pos rfl] at H; obtain rfl := Option.some.inj H
    go_wp2_with (first | (refine gl_ 19 Tryz.func173 #[.slice A0 l0.length c0, .int .i64 qcs] rfl qbK ?_; (with_reducible refine (qch.calls k1 _ _ l0 qcs true _ ?qay ?qaz A11.out).mono ?_); (case qay => exact qg3); (case qaz => exact qb6); rintro e w13 ⟨rfl, hb⟩; refine ⟨_, rfl, ?_⟩; replace HB := HB.mw hb; (try clear hb)))
    go_ret
    exact ⟨qce, qam⟩
   replace c12 := Bool.eq_false_iff.mpr c12; subst c12; rw [if_neg (show ¬ (false = true) by decide)] at H; have H' := ak_ H; clear H
   go_wp2_with (first | (refine gl_ 19 Tryz.func173 #[.slice A0 l0.length c0, .int .i64 qcs] rfl qbK ?_; (with_reducible refine (qch.calls k1 _ _ l0 qcs false _ ?qay ?qaz A11.out).mono ?_); (case qay => exact qg3); (case qaz => exact qb6); rintro e w14 ⟨rfl, hb⟩; refine ⟨_, rfl, ?_⟩; replace HB := HB.mw hb; (try clear hb)))
   go_roundg k1
   case measure => have := HK1.out; omega
   case rel => exact ⟨(wrap64 (qcs + 1)), qav, H', ⟨qc9⟩, ⟨qam⟩⟩
def qbo.l0 : Nat → List (qac) → Int → List Int → Int → Option (List Int)
 | 0, _, _, _, _ => none
 | k + 1, x0, x1, x5, x6 => if x6 ≤ x1 then ((qch.f k x0 x6).bind fun qas => (if qas = true then (if x5.length < 17592186044416 then (qbo.l0 k x0 x1 (x5 ++ [x6]) (wrap64 (x6 + 1))) else (none)) else (qbo.l0 k x0 x1 x5 (wrap64 (x6 + 1))))) else (some x5)
def qbo.f (k : Nat) (l0 : List (qac)) (a1 : Int) : Option (List Int) := qbo.l0 k l0 a1 ([] : List Int) 1
theorem qbo.calls (k : Nat) (A0 : Option Addr) (c0 : Nat) (l0 : List (qac)) (a1 : Int) (r : List Int) (w : World) (hr0 : Kd.C qaN w A0 l0.length l0) (hc0 : l0.length ≤ c0) (h : qbo.f k l0 a1 = some r) :
  Calls Tryz.prog 163 #[.slice A0 l0.length c0, .int .i64 a1] w fun e w' => ∃ v0_ : Value, e = .returned (v0_) ∧ Kd.R (Kd.int .i64) 3 w' w.heap.size (fun _ => True) v0_ r ∧ Below w.heap.size w w' := by
 have HR0 := ak_ hr0; have HC0 := ak_ hc0; clear hr0 hc0; have HB := ak_ (Below.refl w.heap.size w); have H : (qbo.l0 k l0 a1 ([] : List Int) 1) = some r := h; clear h; have H' := ak_ H; clear H; go_enter Tryz.func163, Tryz.ntmps163; go_wp2
 go_loopg [5, 6] k (fun kq v5 v6 w' => ∃ (qbP : List Int) (qcU : Int), v6 = .int .i64 qcU ∧ qag (qbo.l0 kq l0 a1 qbP qcU = some r) ∧ qag (kq ≤ k) ∧ qag (Kd.R (Kd.int .i64) 3 w' w.heap.size (fun _ => True) v5 qbP) ∧ qag (Below w.heap.size w w'))
 case atStart => exact ⟨(([] : List Int)), (1), qav, H', ⟨Nat.le_refl _⟩, ⟨qg4⟩, ⟨qam⟩⟩
 case round =>
  clear H'; obtain ⟨qbP, qcU, rfl, HA, HK1, qgy, HB⟩ := hrel
  cases gk with
  | zero => exact absurd HA.out (by simp [qbo.l0])
  | succ k1 =>
   have H := HA.out; clear HA; simp only [qbo.l0] at H; by_cases c3 : qcU ≤ a1; rotate_left
   ·rw [if_neg c3] at H; have qff : decide (qcU ≤ a1) = false := decide_eq_false c3; clear c3; obtain rfl := Option.some.inj H; go_wp2
    go_ret
    exact ⟨_, qce, k65_, qam⟩
   rw [if_pos c3] at H; have qff : decide (qcU ≤ a1) = true := decide_eq_true c3; clear c3; obtain ⟨qas, A4, H⟩ := qaw H; (try dsimp only at H); by_cases c5 : qas = true; rotate_left
   ·replace c5 := Bool.eq_false_iff.mpr c5; subst c5; rw [if_neg (show ¬ (false = true) by decide)] at H; have H' := ak_ H; clear H
    go_wp2_with (first | (refine gl_ 14 Tryz.func173 #[.slice A0 l0.length c0, .int .i64 qcU] rfl qbK ?_; (with_reducible refine (qch.calls k1 _ _ l0 qcU false _ ?qay ?qaz A4.out).mono ?_); (case qay => exact qg3); (case qaz => exact qb6); rintro e w9 ⟨rfl, hb⟩; refine ⟨_, rfl, ?_⟩; replace qgy := qgy.mw hb; replace HB := HB.mw hb; (try clear hb)))
    go_roundg k1
    case measure => have := HK1.out; omega
    case rel => exact ⟨(qbP), (wrap64 (qcU + 1)), qav, H', ⟨qc9⟩, ⟨qnM⟩, ⟨qam⟩⟩
   subst c5; rw [if_pos rfl] at H; by_cases c6 : qbP.length < 17592186044416; rotate_left
   ·rw [if_neg c6] at H; exact absurd H (by simp)
   rw [if_pos c6] at H; have LMc6 := ak_ c6; clear c6
   obtain ⟨qh1, hy_⟩ : ∃ y_ : List Int, y_ = (qbP ++ [qcU]) := ⟨_, rfl⟩
   replace H : (qbo.l0 k1 l0 a1 qh1 (wrap64 (qcU + 1))) = some r := qe6; have qgq := ak_ hy_; clear hy_; have H' := ak_ H; clear H
   go_wp2_with (first | (refine gl_ 14 Tryz.func173 #[.slice A0 l0.length c0, .int .i64 qcU] rfl qbK ?_; (with_reducible refine (qch.calls k1 _ _ l0 qcU true _ ?qay ?qaz A4.out).mono ?_); (case qay => exact qg3); (case qaz => exact qb6); rintro e w7 ⟨rfl, hb⟩; refine ⟨_, rfl, ?_⟩; replace qgy := qgy.mw hb; replace HB := HB.mw hb; (try clear hb)) | ((with_reducible refine qa3 (b := .append) (xs := #[.tmp 15, .tmp 17]) rfl ?_); at_builtin; refine Kd.qc8 (Kd.int .i64) (w0 := w) w.heap.size rfl (.tmp 15) (.tmp 17) 48 3 (.int .i64 0) 8 rfl Tryz.underlying48 info3 rfl (by decide) (by omega) u5 qbP qcU [.int .i64 qcU] (fun _ => True) (fun _ => False) rfl rfl ?aP (fun _ hk => hk.elim) ?aF ?aO ?aB ?aS ?aL ?_; (case aP => exact rfl); (case aB => exact qam); (case aF => exact (fun _ _ => trivial)); (case aO => exact qnM); (case aS => exact (qab qam)); (case aL => have := LMc6.out; omega); intro qhg w8 ho hb hg hat; rw [← qgq.out] at ho; replace HB := ak_ (hb); have qbW := ak_ (ho); clear qgy; clear ho hb hg hat))
   go_roundg k1
   case measure => have := HK1.out; omega
   case rel => exact ⟨(qh1), (wrap64 (qcU + 1)), qav, H', ⟨qc9⟩, ⟨qqL⟩, ⟨qam⟩⟩
def qdN.f (k : Nat) (l0 : List (qac)) : Option (List Int × Bool) := (qaS.f k l0).bind fun qas => (if qas = 0 then (some (([] : List Int), false)) else ((qbo.f k l0 qas).bind fun qaI => (some (qaI, true))))
theorem qdN.calls (k : Nat) (A0 : Option Addr) (c0 : Nat) (l0 : List (qac)) (r1 : List Int) (r2 : Bool) (w : World) (hr0 : Kd.C qaN w A0 l0.length l0) (hc0 : l0.length ≤ c0) (h : qdN.f k l0 = some (r1, r2)) :
  Calls Tryz.prog 109 #[.slice A0 l0.length c0] w fun e w' => ∃ v0_ : Value, e = .returned (.tuple #[v0_, .bool r2]) ∧ Kd.R (Kd.int .i64) 3 w' w.heap.size (fun _ => True) v0_ r1 ∧ Below w.heap.size w w' := by
 have HR0 := ak_ hr0; have HC0 := ak_ hc0; clear hr0 hc0; have HB := ak_ (Below.refl w.heap.size w); have H : ((qaS.f k l0).bind fun qas => (if qas = 0 then (some (([] : List Int), false)) else ((qbo.f k l0 qas).bind fun qaI => (some (qaI, true))))) = some (r1, r2) := h; clear h; obtain ⟨qas, A2, H⟩ := qaw H; (try dsimp only at H); by_cases c3 : qas = 0
 ·rw [if_pos c3] at H; have qff : (qas == 0) = true := beq_iff_eq.mpr c3; have qlV : (qas != 0) = false := bne_eq_false_iff_eq.mpr c3; clear c3; obtain ⟨rfl, rfl⟩ := qdI H; go_enter Tryz.func109, Tryz.ntmps109
  go_wp2_with (first | (refine gl_ 6 Tryz.func162 #[.slice A0 l0.length c0] rfl qbK ?_; (with_reducible refine (qaS.calls k _ _ l0 qas _ ?qay ?qaz A2.out).mono ?_); (case qay => exact qfM); (case qaz => exact qb6); rintro e w4 ⟨rfl, hb⟩; refine ⟨_, rfl, ?_⟩; replace HB := HB.mw hb; (try clear hb)))
  go_ret2
  exact ⟨_, qce, qg4, qam⟩
 rw [if_neg c3] at H; have qff : (qas == 0) = false := beq_eq_false_iff_ne.mpr c3; have qlV : (qas != 0) = true := bne_iff_ne.mpr c3; obtain ⟨qaI, A5, H⟩ := qaw H; (try dsimp only at H); obtain ⟨rfl, rfl⟩ := qdI H; go_enter Tryz.func109, Tryz.ntmps109
 go_wp2_with (first | (refine gl_ 6 Tryz.func162 #[.slice A0 l0.length c0] rfl qbK ?_; (with_reducible refine (qaS.calls k _ _ l0 qas _ ?qay ?qaz A2.out).mono ?_); (case qay => exact qfM); (case qaz => exact qb6); rintro e w6 ⟨rfl, hb⟩; refine ⟨_, rfl, ?_⟩; replace HB := HB.mw hb; (try clear hb)) | (refine gl_ 11 Tryz.func163 #[.slice A0 l0.length c0, .int .i64 qas] rfl qbK ?_; (with_reducible refine (qbo.calls k _ _ l0 qas qaI _ ?qay ?qaz A5.out).mono ?_); (case qay => exact qg3); (case qaz => exact qb6); rintro e w7 ⟨qhg, rfl, ho0, hb⟩; refine ⟨_, rfl, ?_⟩; have qbW := ak_ (Kd.qau ho0 (qab qam)); replace HB := HB.mw hb; (try clear hb ho0)))
 go_ret2
 exact ⟨_, qce, k63_, qam⟩
def qbT.l0 : Nat → Int → List Int → List Int → List Int → Int → Int → Option (List Int)
 | 0, _, _, _, _, _, _ => none
 | k + 1, x1, x5, x6, x13, x14, x15 => if x15 < x14 then (if 0 ≤ x15 then (if x15 < (x13.length : Int) then (if 0 < (x5.length : Int) then (if (wrap64 (x15 + 1)) < (x5.length : Int) then (if 0 ≤ (wrap64 (x15 + 1)) then (if x6.length < 17592186044416 then (qbT.l0 k x1 x5 (x6 ++ [wrap64 ((rd x5 (wrap64 (x15 + 1))) - (rd x13 x15))]) x13 x14 (wrap64 (x15 + 1))) else (none)) else (none)) else (if x6.length < 17592186044416 then (qbT.l0 k x1 x5 (x6 ++ [wrap64 ((wrap64 ((rd x5 0) + x1)) - (rd x13 x15))]) x13 x14 (wrap64 (x15 + 1))) else (none))) else (none)) else (none)) else (none)) else (some x6)
def qbT.f (k : Nat) (l0 : List (qac)) (a1 : Int) : Option (List Int) := (qbo.f k l0 a1).bind fun qas => (qbT.l0 k a1 qas ([] : List Int) qas (qas.length : Int) 0)
theorem qbT.calls (k : Nat) (A0 : Option Addr) (c0 : Nat) (l0 : List (qac)) (a1 : Int) (r : List Int) (w : World) (hr0 : Kd.C qaN w A0 l0.length l0) (hc0 : l0.length ≤ c0) (h : qbT.f k l0 a1 = some r) :
  Calls Tryz.prog 164 #[.slice A0 l0.length c0, .int .i64 a1] w fun e w' => ∃ v0_ : Value, e = .returned (v0_) ∧ Kd.R (Kd.int .i64) 3 w' w.heap.size (fun _ => True) v0_ r ∧ Below w.heap.size w w' := by
 have HR0 := ak_ hr0; have HC0 := ak_ hc0; clear hr0 hc0; have HB := ak_ (Below.refl w.heap.size w); have H : ((qbo.f k l0 a1).bind fun qas => (qbT.l0 k a1 qas ([] : List Int) qas (qas.length : Int) 0)) = some r := h; clear h; obtain ⟨qas, A3, H⟩ := qaw H; (try dsimp only at H); have H' := ak_ H; clear H; go_enter Tryz.func164, Tryz.ntmps164
 go_wp2_with (first | (refine gl_ 12 Tryz.func163 #[.slice A0 l0.length c0, .int .i64 a1] rfl qbK ?_; (with_reducible refine (qbo.calls k _ _ l0 a1 qas _ ?qay ?qaz A3.out).mono ?_); (case qay => exact qfM); (case qaz => exact qb6); rintro e w4 ⟨qiq, rfl, ho0, hb⟩; refine ⟨_, rfl, ?_⟩; have qdi := ak_ (Kd.qau ho0 (qab qam)); replace HB := HB.mw hb; (try clear hb ho0); obtain ⟨Ao5, co5, eo5⟩ := Kd.qaJ qdi.out; subst eo5))
 go_loopg [6, 15] k (fun kq v6 v15 w' => ∃ (qcU : List Int) (qfh : Int), v15 = .int .i64 qfh ∧ qag (qbT.l0 kq a1 qas qcU qas (qas.length : Int) qfh = some r) ∧ qag (kq ≤ k) ∧ qag (Kd.R (Kd.int .i64) 3 w' w.heap.size (fun k_ => some k_ ≠ (v6 : Value).ownBlock) (.slice Ao5 qas.length co5) qas) ∧ qag (Kd.R (Kd.int .i64) 3 w' w.heap.size (fun k_ => some k_ ≠ ((.slice Ao5 qas.length co5) : Value).ownBlock ∧ some k_ ≠ ((.slice Ao5 qas.length co5) : Value).ownBlock) v6 qcU) ∧ qag (Kd.R (Kd.int .i64) 3 w' w.heap.size (fun k_ => some k_ ≠ (v6 : Value).ownBlock) (.slice Ao5 qas.length co5) qas) ∧ qag (Below w.heap.size w w'))
 case atStart => exact ⟨(([] : List Int)), (0), qav, H', ⟨Nat.le_refl _⟩, ⟨by (with_reducible repeat (first | apply Kd.qaq | apply Kd.qar | apply Kd.qaC)); exact Kd.qa8 qdi.out (fun _ hk => (by simp [Value.ownBlock]))⟩, ⟨qg4⟩, ⟨by (with_reducible repeat (first | apply Kd.qaq | apply Kd.qar | apply Kd.qaC)); exact Kd.qa8 qdi.out (fun _ hk => (by simp [Value.ownBlock]))⟩, ⟨qam⟩⟩
 case round =>
  clear H'; obtain ⟨qcU, qfh, rfl, HA, HK1, qgy, qfv, qkO, HB⟩ := hrel
  cases gk with
  | zero => exact absurd HA.out (by simp [qbT.l0])
  | succ k1 =>
   have H := HA.out; clear HA; simp only [qbT.l0] at H; by_cases c6 : qfh < (qas.length : Int); rotate_left
   ·rw [if_neg c6] at H; have qfY : decide (qfh < (qas.length : Int)) = false := decide_eq_false c6; clear c6; obtain rfl := Option.some.inj H; go_wp2
    go_ret
    exact ⟨_, qce, by (with_reducible repeat (first | apply Kd.qaq | apply Kd.qar | apply Kd.qaC)); exact Kd.qa8 qfv.out (fun _ hk => trivial), qam⟩
   rw [if_pos c6] at H; have qfY : decide (qfh < (qas.length : Int)) = true := decide_eq_true c6; clear c6; by_cases c7 : 0 ≤ qfh; rotate_left
   ·rw [if_neg c7] at H; exact absurd H (by simp)
   rw [if_pos c7] at H; have qgM : decide (0 ≤ qfh) = true := decide_eq_true c7; clear c7; by_cases c8 : qfh < (qas.length : Int); rotate_left
   ·rw [if_neg c8] at H; exact absurd H (by simp)
   rw [if_pos c8] at H; have qnK : decide (qfh < (qas.length : Int)) = true := decide_eq_true c8; clear c8; by_cases c9 : 0 < (qas.length : Int); rotate_left
   ·rw [if_neg c9] at H; exact absurd H (by simp)
   rw [if_pos c9] at H; have qlX : decide (0 < (qas.length : Int)) = true := decide_eq_true c9; have c9b1 : decide (0 < qas.length) = true := decide_eq_true (by omega); clear c9; by_cases c10 : (wrap64 (qfh + 1)) < (qas.length : Int); rotate_left
   ·rw [if_neg c10] at H; have qgC : decide ((wrap64 (qfh + 1)) < (qas.length : Int)) = false := decide_eq_false c10; clear c10; by_cases c15 : qcU.length < 17592186044416; rotate_left
    ·rw [if_neg c15] at H; exact absurd H (by simp)
    rw [if_pos c15] at H; have LMc15 := ak_ c15; clear c15
    obtain ⟨qis, hy_⟩ : ∃ y_ : List Int, y_ = (qcU ++ [wrap64 ((wrap64 ((rd qas 0) + a1)) - (rd qas qfh))]) := ⟨_, rfl⟩
    replace H : (qbT.l0 k1 a1 qas qis qas (qas.length : Int) (wrap64 (qfh + 1))) = some r := qe6; have qnY := ak_ hy_; clear hy_; have H' := ak_ H; clear H; have qhc : 0 ≤ (qfh : Int) := of_decide_eq_true qaU; have qhd : qfh < (qas.length : Int) := of_decide_eq_true qaU; obtain ⟨qhP, qmU, qdW⟩ := Kd.qem (Kd.R_reads' qkO.out).2.2 qfh qhc qhd
    cases qmU
    replace qhc := eq_true qhc; replace qhd := eq_true qhd
    have qhw : 0 ≤ (0 : Int) := (by omega)
    have qhx : 0 < (qas.length : Int) := of_decide_eq_true qaU; obtain ⟨qec, qmV, qcR⟩ := Kd.qem (Kd.R_reads' qgy.out).2.2 0 qhw qhx
    obtain rfl : qhP = qec := (by injection qmV)
    have qsw : (0 < qas.length) = True := eq_true (by omega); (try rw [show ((0 : Int)).toNat = 0 from rfl] at qcR); (try rw [Addr.add_zero'] at qcR); replace qhw := eq_true qhw; replace qhx := eq_true qhx
    go_wp2_with (first | ((with_reducible refine qa3 (b := .append) (xs := #[.tmp 35, .tmp 39]) rfl ?_); at_builtin; refine Kd.qc8 (Kd.int .i64) (w0 := w) w.heap.size rfl (.tmp 35) (.tmp 39) 48 3 (.int .i64 0) 8 rfl Tryz.underlying48 info3 rfl (by decide) (by omega) u6 qcU (wrap64 ((wrap64 ((rd qas 0) + a1)) - (rd qas qfh))) [.int .i64 (wrap64 ((wrap64 ((rd qas 0) + a1)) - (rd qas qfh)))] (fun k_ => some k_ ≠ (.slice (some qhP) qas.length co5 : Value).ownBlock ∧ some k_ ≠ (.slice (some qhP) qas.length co5 : Value).ownBlock) (fun _ => False) rfl rfl ?aP (fun _ hk => hk.elim) ?aF ?aO ?aB ?aS ?aL ?_; (case aP => exact rfl); (case aB => exact qam); (case aF => exact (fun k_ hk => ⟨Kd.fresh' (Kd.qjA qnM) k_ hk, Kd.fresh' (Kd.qjA (by apply_rules only [qkO.out, Kd.qaq, Kd.qar, Kd.qaC])) k_ hk⟩)); (case aO => exact qoK); (case aS => exact (qab qam)); (case aL => have := LMc15.out; omega); intro v111 w16 ho hb hg hat; rw [← qnY.out] at ho; replace qgy := ak_ (Kd.qf3 (ok := (fun _ => True)) (by (with_reducible repeat (first | apply Kd.qaq | apply Kd.qar | apply Kd.qaC)); exact Kd.qa8 qgy.out (fun _ hk => ⟨trivial, hk⟩)) hg hat); replace qkO := ak_ (Kd.qf3 (ok := (fun _ => True)) (by (with_reducible repeat (first | apply Kd.qaq | apply Kd.qar | apply Kd.qaC)); exact Kd.qa8 qkO.out (fun _ hk => ⟨trivial, hk⟩)) hg hat); replace HB := ak_ (hb); have qqT := ak_ (ho); clear qfv; clear ho hb hg hat))
    go_roundg k1
    case measure => have := HK1.out; omega
    case rel => exact ⟨(qis), (wrap64 (qfh + 1)), qav, H', ⟨qc9⟩, ⟨by (with_reducible repeat (first | apply Kd.qaq | apply Kd.qar | apply Kd.qaC)); exact Kd.qa8 qgy.out (fun _ hk => hk.2)⟩, ⟨k86_⟩, ⟨by (with_reducible repeat (first | apply Kd.qaq | apply Kd.qar | apply Kd.qaC)); exact Kd.qa8 qkO.out (fun _ hk => hk.2)⟩, ⟨qam⟩⟩
   rw [if_pos c10] at H; have qgC : decide ((wrap64 (qfh + 1)) < (qas.length : Int)) = true := decide_eq_true c10; clear c10
   obtain ⟨qpK, qrV⟩ : ∃ j_ : Int, (wrap64 (qfh + 1)) = j_ := ⟨_, rfl⟩
   replace H : (if 0 ≤ (qpK) then (if qcU.length < 17592186044416 then (qbT.l0 k1 a1 qas (qcU ++ [wrap64 ((rd qas (qpK)) - (rd qas qfh))]) qas (qas.length : Int) qpK) else (none)) else (none)) = some r := by first | (rw [qrV] at H; exact H) | (simp only [qrV] at H ⊢; exact H)
   (try rw [qrV] at qgC); have hji11w : (IntKind.i64.wrap (qfh + 1)) = qpK := (qcF _).trans qrV; by_cases c12 : 0 ≤ (qpK); rotate_left
   ·rw [if_neg c12] at H; exact absurd H (by simp)
   rw [if_pos c12] at H; have qhm : decide (0 ≤ (qpK)) = true := decide_eq_true c12; clear c12; by_cases c13 : qcU.length < 17592186044416; rotate_left
   ·rw [if_neg c13] at H; exact absurd H (by simp)
   rw [if_pos c13] at H; have LMc13 := ak_ c13; clear c13
   obtain ⟨qfr, hy_⟩ : ∃ y_ : List Int, y_ = (qcU ++ [wrap64 ((rd qas (qpK)) - (rd qas qfh))]) := ⟨_, rfl⟩
   replace H : (qbT.l0 k1 a1 qas qfr qas (qas.length : Int) qpK) = some r := qe6; have qjv := ak_ hy_; clear hy_; have H' := ak_ H; clear H; have qhc : 0 ≤ (qfh : Int) := of_decide_eq_true qaU; have qhd : qfh < (qas.length : Int) := of_decide_eq_true qaU; obtain ⟨qhP, qmU, qdW⟩ := Kd.qem (Kd.R_reads' qkO.out).2.2 qfh qhc qhd
   cases qmU
   replace qhc := eq_true qhc; replace qhd := eq_true qhd
   have qhw : 0 ≤ (0 : Int) := (by omega)
   have qhx : 0 < (qas.length : Int) := of_decide_eq_true qaU; obtain ⟨qec, qmV, qcR⟩ := Kd.qem (Kd.R_reads' qgy.out).2.2 0 qhw qhx
   obtain rfl : qhP = qec := (by injection qmV)
   have qsw : (0 < qas.length) = True := eq_true (by omega); (try rw [show ((0 : Int)).toNat = 0 from rfl] at qcR); (try rw [Addr.add_zero'] at qcR); replace qhw := eq_true qhw; replace qhx := eq_true qhx; have qfH : 0 ≤ ((qpK) : Int) := of_decide_eq_true qaU; have qfJ : (qpK) < (qas.length : Int) := of_decide_eq_true qaU; obtain ⟨qgL, qjx, qcq⟩ := Kd.qem (Kd.R_reads' qgy.out).2.2 (qpK) qfH qfJ
   obtain rfl : qhP = qgL := (by injection qjx)
   replace qfH := eq_true qfH; replace qfJ := eq_true qfJ
   go_wp2_with (first | ((with_reducible refine qa3 (b := .append) (xs := #[.tmp 35, .tmp 39]) rfl ?_); at_builtin; refine Kd.qc8 (Kd.int .i64) (w0 := w) w.heap.size rfl (.tmp 35) (.tmp 39) 48 3 (.int .i64 0) 8 rfl Tryz.underlying48 info3 rfl (by decide) (by omega) u6 qcU (wrap64 ((rd qas (qpK)) - (rd qas qfh))) [.int .i64 (wrap64 ((rd qas (qpK)) - (rd qas qfh)))] (fun k_ => some k_ ≠ (.slice (some qhP) qas.length co5 : Value).ownBlock ∧ some k_ ≠ (.slice (some qhP) qas.length co5 : Value).ownBlock) (fun _ => False) rfl rfl ?aP (fun _ hk => hk.elim) ?aF ?aO ?aB ?aS ?aL ?_; (case aP => exact rfl); (case aB => exact qam); (case aF => exact (fun k_ hk => ⟨Kd.fresh' (Kd.qjA qnM) k_ hk, Kd.fresh' (Kd.qjA (by apply_rules only [qkO.out, Kd.qaq, Kd.qar, Kd.qaC])) k_ hk⟩)); (case aO => exact qoK); (case aS => exact (qab qam)); (case aL => have := LMc13.out; omega); intro v108 w14 ho hb hg hat; rw [← qjv.out] at ho; replace qgy := ak_ (Kd.qf3 (ok := (fun _ => True)) (by (with_reducible repeat (first | apply Kd.qaq | apply Kd.qar | apply Kd.qaC)); exact Kd.qa8 qgy.out (fun _ hk => ⟨trivial, hk⟩)) hg hat); replace qkO := ak_ (Kd.qf3 (ok := (fun _ => True)) (by (with_reducible repeat (first | apply Kd.qaq | apply Kd.qar | apply Kd.qaC)); exact Kd.qa8 qkO.out (fun _ hk => ⟨trivial, hk⟩)) hg hat); replace HB := ak_ (hb); have qiN := ak_ (ho); clear qfv; clear ho hb hg hat))
   go_roundg k1
   case measure => have := HK1.out; omega
   case rel => exact ⟨(qfr), (qpK), (by first | rfl | (simp; done) | (simp only [← qrV] <;> (first | rfl | simp)) | (simp [*]; done)), H', ⟨qc9⟩, ⟨by (with_reducible repeat (first | apply Kd.qaq | apply Kd.qar | apply Kd.qaC)); exact Kd.qa8 qgy.out (fun _ hk => hk.2)⟩, ⟨by apply_rules only [qiN.out, Kd.qaq, Kd.qar, Kd.qaC]⟩, ⟨by (with_reducible repeat (first | apply Kd.qaq | apply Kd.qar | apply Kd.qaC)); exact Kd.qa8 qkO.out (fun _ hk => hk.2)⟩, ⟨qam⟩⟩
def qd2.f (k : Nat) (l0 : List (qac)) : Option (List Int × Bool) := (qaS.f k l0).bind fun qas => (if qas = 0 then (some (([] : List Int), false)) else ((qbT.f k l0 qas).bind fun qaI => (some (qaI, true))))
theorem qd2.calls (k : Nat) (A0 : Option Addr) (c0 : Nat) (l0 : List (qac)) (r1 : List Int) (r2 : Bool) (w : World) (hr0 : Kd.C qaN w A0 l0.length l0) (hc0 : l0.length ≤ c0) (h : qd2.f k l0 = some (r1, r2)) :
  Calls Tryz.prog 110 #[.slice A0 l0.length c0] w fun e w' => ∃ v0_ : Value, e = .returned (.tuple #[v0_, .bool r2]) ∧ Kd.R (Kd.int .i64) 3 w' w.heap.size (fun _ => True) v0_ r1 ∧ Below w.heap.size w w' := by
 have HR0 := ak_ hr0; have HC0 := ak_ hc0; clear hr0 hc0; have HB := ak_ (Below.refl w.heap.size w); have H : ((qaS.f k l0).bind fun qas => (if qas = 0 then (some (([] : List Int), false)) else ((qbT.f k l0 qas).bind fun qaI => (some (qaI, true))))) = some (r1, r2) := h; clear h; obtain ⟨qas, A2, H⟩ := qaw H; (try dsimp only at H); by_cases c3 : qas = 0
 ·rw [if_pos c3] at H; have qff : (qas == 0) = true := beq_iff_eq.mpr c3; have qlV : (qas != 0) = false := bne_eq_false_iff_eq.mpr c3; clear c3; obtain ⟨rfl, rfl⟩ := qdI H; go_enter Tryz.func110, Tryz.ntmps110
  go_wp2_with (first | (refine gl_ 6 Tryz.func162 #[.slice A0 l0.length c0] rfl qbK ?_; (with_reducible refine (qaS.calls k _ _ l0 qas _ ?qay ?qaz A2.out).mono ?_); (case qay => exact qfM); (case qaz => exact qb6); rintro e w4 ⟨rfl, hb⟩; refine ⟨_, rfl, ?_⟩; replace HB := HB.mw hb; (try clear hb)))
  go_ret2
  exact ⟨_, qce, qg4, qam⟩
 rw [if_neg c3] at H; have qff : (qas == 0) = false := beq_eq_false_iff_ne.mpr c3; have qlV : (qas != 0) = true := bne_iff_ne.mpr c3; obtain ⟨qaI, A5, H⟩ := qaw H; (try dsimp only at H); obtain ⟨rfl, rfl⟩ := qdI H; go_enter Tryz.func110, Tryz.ntmps110
 go_wp2_with (first | (refine gl_ 6 Tryz.func162 #[.slice A0 l0.length c0] rfl qbK ?_; (with_reducible refine (qaS.calls k _ _ l0 qas _ ?qay ?qaz A2.out).mono ?_); (case qay => exact qfM); (case qaz => exact qb6); rintro e w6 ⟨rfl, hb⟩; refine ⟨_, rfl, ?_⟩; replace HB := HB.mw hb; (try clear hb)) | (refine gl_ 11 Tryz.func164 #[.slice A0 l0.length c0, .int .i64 qas] rfl qbK ?_; (with_reducible refine (qbT.calls k _ _ l0 qas qaI _ ?qay ?qaz A5.out).mono ?_); (case qay => exact qg3); (case qaz => exact qb6); rintro e w7 ⟨qhg, rfl, ho0, hb⟩; refine ⟨_, rfl, ?_⟩; have qbW := ak_ (Kd.qau ho0 (qab qam)); replace HB := HB.mw hb; (try clear hb ho0)))
 go_ret2
 exact ⟨_, qce, k63_, qam⟩
def qdY.f (a0 : Int) : Option (Bool) := (qbf.f a0 0 1000000000).bind fun qas => (some qas)
theorem qdY.calls (a0 : Int) (r : Bool) (w : World) (h : qdY.f a0 = some r) :
  Calls Tryz.prog 165 #[.int .i64 a0] w fun e w' => e = .returned (.bool r) ∧ qcX w w' := by
 have H : ((qbf.f a0 0 1000000000).bind fun qas => (some qas)) = some r := h; clear h; obtain ⟨qas, A2, H⟩ := qaw H; (try dsimp only at H); obtain rfl := Option.some.inj H; go_enter Tryz.func165, Tryz.ntmps165
 go_wp2_with (first | (refine gl_ 4 Tryz.func93 #[.int .i64 a0, .int .i64 0, .int .i64 1000000000] rfl qbK ?_; (with_reducible refine (qbf.calls a0 0 1000000000 qas _ A2.out).mono ?_); rintro e w' ⟨rfl, ⟨nd, rfl⟩⟩; refine ⟨_, rfl, ?_⟩))
 go_ret
 exact ⟨qav, qc2⟩
def qc4.f (k : Nat) (l0 : List (qac)) (a1 : Int) : Option (Int × Bool) := (qaS.f k l0).bind fun qas => (if qas = 0 then (some (0, false)) else ((qdY.f a1).bind fun qaI => (if qaI = true then ((qbo.f k l0 qas).bind fun qb7 => (if (qb7.length : Int) = 0 then (none) else (if 0 ≤ (Int.tmod a1 (qb7.length : Int)) then (if (Int.tmod a1 (qb7.length : Int)) < (qb7.length : Int) then (some (wrap64 ((wrap64 ((wrap64 (Int.tdiv a1 (qb7.length : Int))) * qas)) + (rd qb7 (Int.tmod a1 (qb7.length : Int)))), true)) else (none)) else (none)))) else (some (0, false)))))
theorem qc4.calls (k : Nat) (A0 : Option Addr) (c0 : Nat) (l0 : List (qac)) (a1 : Int) (r1 : Int) (r2 : Bool) (w : World) (hr0 : Kd.C qaN w A0 l0.length l0) (hc0 : l0.length ≤ c0) (h : qc4.f k l0 a1 = some (r1, r2)) :
  Calls Tryz.prog 111 #[.slice A0 l0.length c0, .int .i64 a1] w fun e w' => e = .returned (.tuple #[.int .i64 r1, .bool r2]) ∧ Below w.heap.size w w' := by
 have HR0 := ak_ hr0; have HC0 := ak_ hc0; clear hr0 hc0; have HB := ak_ (Below.refl w.heap.size w); have H : ((qaS.f k l0).bind fun qas => (if qas = 0 then (some (0, false)) else ((qdY.f a1).bind fun qaI => (if qaI = true then ((qbo.f k l0 qas).bind fun qb7 => (if (qb7.length : Int) = 0 then (none) else (if 0 ≤ (Int.tmod a1 (qb7.length : Int)) then (if (Int.tmod a1 (qb7.length : Int)) < (qb7.length : Int) then (some (wrap64 ((wrap64 ((wrap64 (Int.tdiv a1 (qb7.length : Int))) * qas)) + (rd qb7 (Int.tmod a1 (qb7.length : Int)))), true)) else (none)) else (none)))) else (some (0, false)))))) = some (r1, r2) := h; clear h; obtain ⟨qas, A3, H⟩ := qaw H; (try dsimp only at H); by_cases c4 : qas = 0
 ·rw [if_pos c4] at H; have qfx : (qas == 0) = true := beq_iff_eq.mpr c4; have qlW : (qas != 0) = false := bne_eq_false_iff_eq.mpr c4; clear c4; obtain ⟨rfl, rfl⟩ := qdI H; go_enter Tryz.func111, Tryz.ntmps111
  go_wp2_with (first | (go_at_call 162; (with_reducible refine (qaS.calls k _ _ l0 qas _ ?qay ?qaz A3.out).mono ?_); (case qay => exact qfM); (case qaz => exact qb6); rintro e w5 ⟨rfl, hb⟩; replace HB := HB.mw hb; (try clear hb)))
  repeat (go_quiet (first | (go_at_call 162; (with_reducible refine (qaS.calls k _ _ l0 qas _ ?qay ?qaz A3.out).mono ?_); (case qay => exact qfM); (case qaz => exact qb6); rintro e w5 ⟨rfl, hb⟩; replace HB := HB.mw hb; (try clear hb))); try go_wp2_with (first | (go_at_call 162; (with_reducible refine (qaS.calls k _ _ l0 qas _ ?qay ?qaz A3.out).mono ?_); (case qay => exact qfM); (case qaz => exact qb6); rintro e w5 ⟨rfl, hb⟩; replace HB := HB.mw hb; (try clear hb))))
  go_ret2
  exact ⟨qce, qam⟩
 rw [if_neg c4] at H; have qfx : (qas == 0) = false := beq_eq_false_iff_ne.mpr c4; have qlW : (qas != 0) = true := bne_iff_ne.mpr c4; obtain ⟨qaI, A6, H⟩ := qaw H; (try dsimp only at H); by_cases c7 : qaI = true; rotate_left
 ·replace c7 := Bool.eq_false_iff.mpr c7; subst c7; rw [if_neg (show ¬ (false = true) by decide)] at H; obtain ⟨rfl, rfl⟩ := qdI H; go_enter Tryz.func111, Tryz.ntmps111
  go_wp2_with (first | (go_at_call 162; (with_reducible refine (qaS.calls k _ _ l0 qas _ ?qay ?qaz A3.out).mono ?_); (case qay => exact qfM); (case qaz => exact qb6); rintro e w16 ⟨rfl, hb⟩; replace HB := HB.mw hb; (try clear hb)) | (go_at_call 165; (with_reducible refine (qdY.calls a1 false _ A6.out).mono ?_); rintro e w' ⟨rfl, ⟨nd, rfl⟩⟩; (try first | exact ⟨rfl, _, World.drewN_drewN _ _ _⟩ | exact ⟨rfl, _, Eq.trans (World.drewN_drewN _ _ _) (congrArg (World.drewN _) (Nat.add_assoc _ _ _))⟩)))
  repeat (go_quiet (first | (go_at_call 162; (with_reducible refine (qaS.calls k _ _ l0 qas _ ?qay ?qaz A3.out).mono ?_); (case qay => exact qfM); (case qaz => exact qb6); rintro e w16 ⟨rfl, hb⟩; replace HB := HB.mw hb; (try clear hb)) | (go_at_call 165; (with_reducible refine (qdY.calls a1 false _ A6.out).mono ?_); rintro e w' ⟨rfl, ⟨nd, rfl⟩⟩; (try first | exact ⟨rfl, _, World.drewN_drewN _ _ _⟩ | exact ⟨rfl, _, Eq.trans (World.drewN_drewN _ _ _) (congrArg (World.drewN _) (Nat.add_assoc _ _ _))⟩))); try go_wp2_with (first | (go_at_call 162; (with_reducible refine (qaS.calls k _ _ l0 qas _ ?qay ?qaz A3.out).mono ?_); (case qay => exact qfM); (case qaz => exact qb6); rintro e w16 ⟨rfl, hb⟩; replace HB := HB.mw hb; (try clear hb)) | (go_at_call 165; (with_reducible refine (qdY.calls a1 false _ A6.out).mono ?_); rintro e w' ⟨rfl, ⟨nd, rfl⟩⟩; (try first | exact ⟨rfl, _, World.drewN_drewN _ _ _⟩ | exact ⟨rfl, _, Eq.trans (World.drewN_drewN _ _ _) (congrArg (World.drewN _) (Nat.add_assoc _ _ _))⟩))))
  go_ret2
  exact ⟨qce, qam⟩
 subst c7; rw [if_pos rfl] at H; obtain ⟨qb7, A8, H⟩ := qaw H; (try dsimp only at H); by_cases c9 : (qb7.length : Int) = 0
 ·rw [if_pos c9] at H; exact absurd H (by simp)
 rw [if_neg c9] at H; have qlX : ((qb7.length : Int) == 0) = false := beq_eq_false_iff_ne.mpr c9; have c9b1 : ((qb7.length : Int) != 0) = true := bne_iff_ne.mpr c9
 have c9b2 : ¬ (qb7 = []) := fun h_ => c9 (by rw [h_]; rfl)
 obtain ⟨qic, qjy⟩ : ∃ j_ : Int, (Int.tmod a1 (qb7.length : Int)) = j_ := ⟨_, rfl⟩
 replace H : (if 0 ≤ (qic) then (if (qic) < (qb7.length : Int) then (some (wrap64 ((wrap64 ((wrap64 (Int.tdiv a1 (qb7.length : Int))) * qas)) + (rd qb7 (qic))), true)) else (none)) else (none)) = some (r1, r2) := by first | (rw [qjy] at H; exact H) | (simp only [qjy] at H ⊢; exact H)
 (try rw [qjy] at A3); (try rw [qjy] at A6); (try rw [qjy] at A8); by_cases c11 : 0 ≤ (qic); rotate_left
 ·rw [if_neg c11] at H; exact absurd H (by simp)
 rw [if_pos c11] at H; have qgs : decide (0 ≤ (qic)) = true := decide_eq_true c11; clear c11; by_cases c12 : (qic) < (qb7.length : Int); rotate_left
 ·rw [if_neg c12] at H; exact absurd H (by simp)
 rw [if_pos c12] at H; have qhm : decide ((qic) < (qb7.length : Int)) = true := decide_eq_true c12; clear c12; obtain ⟨rfl, rfl⟩ := qdI H; go_enter Tryz.func111, Tryz.ntmps111
 go_wp2_with (first | (go_at_call 162; (with_reducible refine (qaS.calls k _ _ l0 qas _ ?qay ?qaz A3.out).mono ?_); (case qay => exact qfM); (case qaz => exact qb6); rintro e w13 ⟨rfl, hb⟩; replace HB := HB.mw hb; (try clear hb)) | (go_at_call 165; (with_reducible refine (qdY.calls a1 true _ A6.out).mono ?_); rintro e w' ⟨rfl, ⟨nd, rfl⟩⟩; (try first | exact ⟨rfl, _, World.drewN_drewN _ _ _⟩ | exact ⟨rfl, _, Eq.trans (World.drewN_drewN _ _ _) (congrArg (World.drewN _) (Nat.add_assoc _ _ _))⟩)) | (go_at_call 163; (with_reducible refine (qbo.calls k _ _ l0 qas qb7 _ ?qay ?qaz A8.out).mono ?_); (case qay => exact k26_); (case qaz => exact qb6); rintro e w14 ⟨qsS, rfl, ho0, hb⟩; have qeH := ak_ (Kd.qau ho0 (qab qam)); replace HB := HB.mw hb; (try clear hb ho0); obtain ⟨Ao15, co15, eo15⟩ := Kd.qaJ qeH.out; subst eo15; have qfH : 0 ≤ ((qic) : Int) := of_decide_eq_true qaU; have qfJ : (qic) < (qb7.length : Int) := of_decide_eq_true qaU; obtain ⟨qgL, qjx, qcq⟩ := Kd.qem (Kd.R_reads' qeH.out).2.2 (qic) qfH qfJ; cases qjx; replace qfH := eq_true qfH; replace qfJ := eq_true qfJ))
 repeat (go_quiet (first | (go_at_call 162; (with_reducible refine (qaS.calls k _ _ l0 qas _ ?qay ?qaz A3.out).mono ?_); (case qay => exact qfM); (case qaz => exact qb6); rintro e w13 ⟨rfl, hb⟩; replace HB := HB.mw hb; (try clear hb)) | (go_at_call 165; (with_reducible refine (qdY.calls a1 true _ A6.out).mono ?_); rintro e w' ⟨rfl, ⟨nd, rfl⟩⟩; (try first | exact ⟨rfl, _, World.drewN_drewN _ _ _⟩ | exact ⟨rfl, _, Eq.trans (World.drewN_drewN _ _ _) (congrArg (World.drewN _) (Nat.add_assoc _ _ _))⟩)) | (go_at_call 163; (with_reducible refine (qbo.calls k _ _ l0 qas qb7 _ ?qay ?qaz A8.out).mono ?_); (case qay => exact k26_); (case qaz => exact qb6); rintro e w14 ⟨qsS, rfl, ho0, hb⟩; have qeH := ak_ (Kd.qau ho0 (qab qam)); replace HB := HB.mw hb; (try clear hb ho0); obtain ⟨Ao15, co15, eo15⟩ := Kd.qaJ qeH.out; subst eo15; have qfH : 0 ≤ ((qic) : Int) := of_decide_eq_true qaU; have qfJ : (qic) < (qb7.length : Int) := of_decide_eq_true qaU; obtain ⟨qgL, qjx, qcq⟩ := Kd.qem (Kd.R_reads' qeH.out).2.2 (qic) qfH qfJ; cases qjx; replace qfH := eq_true qfH; replace qfJ := eq_true qfJ)); try go_wp2_with (first | (go_at_call 162; (with_reducible refine (qaS.calls k _ _ l0 qas _ ?qay ?qaz A3.out).mono ?_); (case qay => exact qfM); (case qaz => exact qb6); rintro e w13 ⟨rfl, hb⟩; replace HB := HB.mw hb; (try clear hb)) | (go_at_call 165; (with_reducible refine (qdY.calls a1 true _ A6.out).mono ?_); rintro e w' ⟨rfl, ⟨nd, rfl⟩⟩; (try first | exact ⟨rfl, _, World.drewN_drewN _ _ _⟩ | exact ⟨rfl, _, Eq.trans (World.drewN_drewN _ _ _) (congrArg (World.drewN _) (Nat.add_assoc _ _ _))⟩)) | (go_at_call 163; (with_reducible refine (qbo.calls k _ _ l0 qas qb7 _ ?qay ?qaz A8.out).mono ?_); (case qay => exact k26_); (case qaz => exact qb6); rintro e w14 ⟨qsS, rfl, ho0, hb⟩; have qeH := ak_ (Kd.qau ho0 (qab qam)); replace HB := HB.mw hb; (try clear hb ho0); obtain ⟨Ao15, co15, eo15⟩ := Kd.qaJ qeH.out; subst eo15; have qfH : 0 ≤ ((qic) : Int) := of_decide_eq_true qaU; have qfJ : (qic) < (qb7.length : Int) := of_decide_eq_true qaU; obtain ⟨qgL, qjx, qcq⟩ := Kd.qem (Kd.R_reads' qeH.out).2.2 (qic) qfH qfJ; cases qjx; replace qfH := eq_true qfH; replace qfJ := eq_true qfJ)))
 go_ret2
 exact ⟨by first | rfl | (simp [qdZ, qd0] <;> rfl) | (simp only [← qjy]; first | rfl | (simp [qdZ, qd0] <;> rfl)) | (simp [*, qdZ, qd0] <;> rfl), qam⟩
def qcl.l0 : Nat → ByteArray → List (List Int) → Int → Int → Option (ByteArray)
 | 0, _, _, _, _ => none
 | k + 1, x5, x10, x11, x12 => if x12 < x11 then (if 0 ≤ x12 then (if x12 < (x10.length : Int) then (if x12 > 0 then (if x5.size + 1 ≤ 9223372036854775807 then ((qbU.f k (qa0 x10 x12)).bind fun qaI => (if (x5 ++ (⟨#[47]⟩ : ByteArray)).size + qaI.size ≤ 9223372036854775807 then (qcl.l0 k ((x5 ++ (⟨#[47]⟩ : ByteArray)) ++ qaI) x10 x11 (wrap64 (x12 + 1))) else (none))) else (none)) else ((qbU.f k (qa0 x10 x12)).bind fun qb7 => (if x5.size + qb7.size ≤ 9223372036854775807 then (qcl.l0 k (x5 ++ qb7) x10 x11 (wrap64 (x12 + 1))) else (none)))) else (none)) else (none)) else (if x5.toList = ([] : List UInt8) then (some (⟨#[45]⟩ : ByteArray)) else (some x5))
def qcl.f (k : Nat) (l0 : List (List Int)) (a1 : Bool) : Option (ByteArray) := if a1 = true then (qcl.l0 k (⟨#[]⟩ : ByteArray) l0 (l0.length : Int) 0) else (some (⟨#[110, 111]⟩ : ByteArray))
theorem qcl.calls (k : Nat) (A0 : Option Addr) (c0 : Nat) (l0 : List (List Int)) (a1 : Bool) (r : ByteArray) (w : World) (hr0 : Kd.C (Kd.slice 3 (Kd.int .i64)) w A0 l0.length l0) (hc0 : l0.length ≤ c0) (h : qcl.f k l0 a1 = some r) :
  Calls Tryz.prog 112 #[.slice A0 l0.length c0, .bool a1] w fun e w' => e = .returned (.string r) ∧ Below w.heap.size w w' := by
 have HR0 := ak_ hr0; have HC0 := ak_ hc0; clear hr0 hc0; have HB := ak_ (Below.refl w.heap.size w); have H : (if a1 = true then (qcl.l0 k (⟨#[]⟩ : ByteArray) l0 (l0.length : Int) 0) else (some (⟨#[110, 111]⟩ : ByteArray))) = some r := h; clear h; by_cases c3 : a1 = true; rotate_left
 ·replace c3 := Bool.eq_false_iff.mpr c3; subst c3; rw [if_neg (show ¬ (false = true) by decide)] at H; obtain rfl := Option.some.inj H; go_enter Tryz.func112, Tryz.ntmps112; go_wp2
  go_ret
  exact ⟨qce, qam⟩
 subst c3; rw [if_pos rfl] at H; have H' := ak_ H; clear H; go_enter Tryz.func112, Tryz.ntmps112; go_wp2
 go_loopg [5, 12] k (fun kq v5 v12 w' => ∃ (qbP : ByteArray) (qcQ : Int), v5 = .string qbP ∧ v12 = .int .i64 qcQ ∧ qag (qcl.l0 kq qbP l0 (l0.length : Int) qcQ = some r) ∧ qag (kq ≤ k) ∧ qag (Below w.heap.size w w'))
 case atStart => exact ⟨((⟨#[]⟩ : ByteArray)), (0), qav, qav, H', ⟨Nat.le_refl _⟩, ⟨qam⟩⟩
 case round =>
  clear H'; (try clear c3); obtain ⟨qbP, qcQ, rfl, rfl, HA, HK1, HB⟩ := hrel
  cases gk with
  | zero => exact absurd HA.out (by simp [qcl.l0])
  | succ k1 =>
   have H := HA.out; clear HA; simp only [qcl.l0] at H; by_cases c4 : qcQ < (l0.length : Int); rotate_left
   ·rw [if_neg c4] at H; have qfx : decide (qcQ < (l0.length : Int)) = false := decide_eq_false c4; clear c4; by_cases c15 : qbP.toList = ([] : List UInt8)
    ·rw [if_pos c15] at H; have qmI : (qbP.toList == ([] : List UInt8)) = true := beq_iff_eq.mpr c15; have qoa : (qbP.toList != ([] : List UInt8)) = false := bne_eq_false_iff_eq.mpr c15; clear c15; obtain rfl := Option.some.inj H; go_wp2
     go_ret
     exact ⟨qce, qam⟩
    rw [if_neg c15] at H; have qmI : (qbP.toList == ([] : List UInt8)) = false := beq_eq_false_iff_ne.mpr c15; have qoa : (qbP.toList != ([] : List UInt8)) = true := bne_iff_ne.mpr c15; obtain rfl := Option.some.inj H; go_wp2
    go_ret
    exact ⟨qce, qam⟩
   rw [if_pos c4] at H; have qfx : decide (qcQ < (l0.length : Int)) = true := decide_eq_true c4; clear c4; by_cases c5 : 0 ≤ qcQ; rotate_left
   ·rw [if_neg c5] at H; exact absurd H (by simp)
   rw [if_pos c5] at H; have qgH : decide (0 ≤ qcQ) = true := decide_eq_true c5; clear c5; by_cases c6 : qcQ < (l0.length : Int); rotate_left
   ·rw [if_neg c6] at H; exact absurd H (by simp)
   rw [if_pos c6] at H; have qfY : decide (qcQ < (l0.length : Int)) = true := decide_eq_true c6; clear c6; by_cases c7 : qcQ > 0; rotate_left
   ·rw [if_neg c7] at H; have qgM : decide (0 < qcQ) = false := decide_eq_false c7; clear c7; obtain ⟨qb7, A12, H⟩ := qaw H; (try dsimp only at H); by_cases c13 : qbP.size + qb7.size ≤ 9223372036854775807; rotate_left
    ·rw [if_neg c13] at H; exact absurd H (by simp)
    rw [if_pos c13] at H; have qlU := eq_true c13; have c13b1 : decide (qbP.size + qb7.size ≤ 9223372036854775807) = true := decide_eq_true c13
    try have c13b2 : (9223372036854775807 < qbP.size + qb7.size) = False := eq_false (Nat.not_lt.2 c13)
    have H' := ak_ H; clear H; have qeE : 0 ≤ (qcQ : Int) := of_decide_eq_true qaU; have qeI : qcQ < (l0.length : Int) := of_decide_eq_true qaU; obtain ⟨qgB, qqP, qrd, qha, qbj, qke, qkb⟩ := qiR HR0.out qcQ qeE qeI
    cases qha
    replace qbj := (HB.out.cell (World.block_lt_of_cell? w _ qbj)).trans qbj; have qnS := ak_ qkb; have qnP := ak_ qke; clear qkb qke; replace qeE := eq_true qeE; replace qeI := eq_true qeI
    go_wp2_with (first | (refine gl_ 23 Tryz.func158 #[.slice qqP (qa0 l0 qcQ).length qrd] rfl qbK ?_; (with_reducible refine (qbU.calls k1 _ _ (qa0 l0 qcQ) qb7 _ ?qay ?qaz A12.out).mono ?_); (case qay => repeat (first | exact (Kd.qei qnS.out HB.out) | (with_reducible refine Kd.C_alloc ?_ _) | (with_reducible refine Kd.C_drewN ?_ _) | (with_reducible refine Kd.C_drew ?_))); (case qaz => exact qnP.out); rintro e w14 ⟨rfl, hb⟩; refine ⟨_, rfl, ?_⟩; replace HB := HB.mw hb; (try clear hb)))
    go_roundg k1
    case measure => have := HK1.out; omega
    case rel => exact ⟨(qbP ++ qb7), (wrap64 (qcQ + 1)), qav, qav, H', ⟨qc9⟩, ⟨qam⟩⟩
   rw [if_pos c7] at H; have qgM : decide (0 < qcQ) = true := decide_eq_true c7; clear c7; by_cases c8 : qbP.size + 1 ≤ 9223372036854775807; rotate_left
   ·rw [if_neg c8] at H; exact absurd H (by simp)
   rw [if_pos c8] at H; have qnK := eq_true c8; have c8b1 : decide (qbP.size + 1 ≤ 9223372036854775807) = true := decide_eq_true c8
   try have c8b2 : (9223372036854775807 < qbP.size + 1) = False := eq_false (Nat.not_lt.2 c8)
   obtain ⟨qaI, A9, H⟩ := qaw H; (try dsimp only at H); by_cases c10 : (qbP ++ (⟨#[47]⟩ : ByteArray)).size + qaI.size ≤ 9223372036854775807; rotate_left
   ·rw [if_neg c10] at H; exact absurd H (by simp)
   rw [if_pos c10] at H; have qgC := eq_true c10; have c10b1 : decide ((qbP ++ (⟨#[47]⟩ : ByteArray)).size + qaI.size ≤ 9223372036854775807) = true := decide_eq_true c10
   try have c10b2 : (9223372036854775807 < (qbP ++ (⟨#[47]⟩ : ByteArray)).size + qaI.size) = False := eq_false (Nat.not_lt.2 c10)
   have c10b3 := c10b2; simp only [ByteArray.size_append, show (⟨#[44]⟩ : ByteArray).size = 1 from rfl, show (⟨#[47]⟩ : ByteArray).size = 1 from rfl, show (⟨#[58]⟩ : ByteArray).size = 1 from rfl] at c10b3; have H' := ak_ H; clear H; have qeE : 0 ≤ (qcQ : Int) := of_decide_eq_true qaU; have qeI : qcQ < (l0.length : Int) := of_decide_eq_true qaU; obtain ⟨qgB, qqP, qrd, qha, qbj, qke, qkb⟩ := qiR HR0.out qcQ qeE qeI
   cases qha
   replace qbj := (HB.out.cell (World.block_lt_of_cell? w _ qbj)).trans qbj; have qnS := ak_ qkb; have qnP := ak_ qke; clear qkb qke; replace qeE := eq_true qeE; replace qeI := eq_true qeI
   go_wp2_with (first | (refine gl_ 23 Tryz.func158 #[.slice qqP (qa0 l0 qcQ).length qrd] rfl qbK ?_; (with_reducible refine (qbU.calls k1 _ _ (qa0 l0 qcQ) qaI _ ?qay ?qaz A9.out).mono ?_); (case qay => repeat (first | exact (Kd.qei qnS.out HB.out) | (with_reducible refine Kd.C_alloc ?_ _) | (with_reducible refine Kd.C_drewN ?_ _) | (with_reducible refine Kd.C_drew ?_))); (case qaz => exact qnP.out); rintro e w11 ⟨rfl, hb⟩; refine ⟨_, rfl, ?_⟩; replace HB := HB.mw hb; (try clear hb)))
   go_roundg k1
   case measure => have := HK1.out; omega
   case rel => exact ⟨((qbP ++ (⟨#[47]⟩ : ByteArray)) ++ qaI), (wrap64 (qcQ + 1)), qav, qav, H', ⟨qc9⟩, ⟨qam⟩⟩
def qdB.f (a0 : Int) : Option (Bool) := (qbf.f a0 1 1000000000).bind fun qas => (some qas)
theorem qdB.calls (a0 : Int) (r : Bool) (w : World) (h : qdB.f a0 = some r) :
  Calls Tryz.prog 166 #[.int .i64 a0] w fun e w' => e = .returned (.bool r) ∧ qcX w w' := by
 have H : ((qbf.f a0 1 1000000000).bind fun qas => (some qas)) = some r := h; clear h; obtain ⟨qas, A2, H⟩ := qaw H; (try dsimp only at H); obtain rfl := Option.some.inj H; go_enter Tryz.func166, Tryz.ntmps166
 go_wp2_with (first | (refine gl_ 4 Tryz.func93 #[.int .i64 a0, .int .i64 1, .int .i64 1000000000] rfl qbK ?_; (with_reducible refine (qbf.calls a0 1 1000000000 qas _ A2.out).mono ?_); rintro e w' ⟨rfl, ⟨nd, rfl⟩⟩; refine ⟨_, rfl, ?_⟩))
 go_ret
 exact ⟨qav, qc2⟩
mutual
def qa4.l0 : Nat → Int → List (List Int) → Option ((List (List Int)))
 | 0, _, _ => none
 | k + 1, x0, x3 => if x0 > 1 then ((qco.f k x0).bind fun qas => (qa4.l1 k x0 x3 qas 0)) else (some x3)
def qa4.l1 : Nat → Int → List (List Int) → Int → Int → Option ((List (List Int)))
 | 0, _, _, _, _ => none
 | k + 1, x0, x3, x4, x5 => if x4 = 0 then (none) else (if (Int.tmod x0 x4) = 0 then (qa4.l1 k (wrap64 (Int.tdiv x0 x4)) x3 x4 (wrap64 (x5 + 1))) else (if x3.length < 5864062014805 then (qa4.l0 k x0 (x3 ++ [(([x4, x5] : List Int))])) else (none)))
end
def qa4.f (k : Nat) (a0 : Int) : Option ((List (List Int))) := qa4.l0 k a0 ([] : List (List Int))
theorem qa4.calls (k : Nat) (a0 : Int) (r : List (List Int)) (w : World) (h : qa4.f k a0 = some r) :
  Calls Tryz.prog 167 #[.int .i64 a0] w fun e w' => ∃ v0_ : Value, e = .returned (v0_) ∧ Kd.S (Kd.slice 3 (Kd.int .i64)) 48 w' w.heap.size (fun _ => True) v0_ r ∧ Below w.heap.size w w' := by
 have HB := ak_ (Below.refl w.heap.size w); have H : (qa4.l0 k a0 ([] : List (List Int))) = some r := h; clear h; have H' := ak_ H; clear H; go_enter Tryz.func167, Tryz.ntmps167; go_wp2
 go_loopg [0, 3] k (fun kq v0 v3 w' => ∃ (qfq : Int) (qbg : List (List Int)), v0 = .int .i64 qfq ∧ qag (qa4.l0 kq qfq qbg = some r) ∧ qag (kq ≤ k) ∧ qag (Kd.S (Kd.slice 3 (Kd.int .i64)) 48 w' w.heap.size (fun _ => True) v3 qbg) ∧ qag (Below w.heap.size w w'))
 case atStart => exact ⟨(a0), (([] : List (List Int))), qav, H', ⟨Nat.le_refl _⟩, ⟨k55_⟩, ⟨qam⟩⟩
 case round =>
  clear H'; obtain ⟨qfq, qbg, rfl, HA, HK1, qdr, HB⟩ := hrel
  cases gk with
  | zero => exact absurd HA.out (by simp [qa4.l0])
  | succ k1 =>
   have H := HA.out; clear HA; simp only [qa4.l0] at H; by_cases c2 : qfq > 1; rotate_left
   ·rw [if_neg c2] at H; have qfe : decide (1 < qfq) = false := decide_eq_false c2; clear c2; obtain rfl := Option.some.inj H; go_wp2
    go_ret
    exact ⟨_, qce, by (with_reducible repeat (first | apply Kd.qdl | apply Kd.qdm | apply Kd.qea)); exact qdr.out, qam⟩
   rw [if_pos c2] at H; have qfe : decide (1 < qfq) = true := decide_eq_true c2; clear c2; obtain ⟨qas, A3, H⟩ := qaw H; (try dsimp only at H); have H' := ak_ H; clear H
   go_wp2_with (first | (refine gl_ 9 Tryz.func209 #[.int .i64 qfq] rfl qbK ?_; (with_reducible refine (qco.calls k1 qfq qas _ A3.out).mono ?_); rintro e w' ⟨rfl, ⟨nd, rfl⟩⟩; refine ⟨_, rfl, ?_⟩))
   go_loopg [0, 5] k1 (fun kq v0 v5 w' => ∃ (qjz : Int) (qfL : Int), v0 = .int .i64 qjz ∧ v5 = .int .i64 qfL ∧ qag (qa4.l1 kq qjz qbg qas qfL = some r) ∧ qag (kq ≤ k1) ∧ qag (Kd.S (Kd.slice 3 (Kd.int .i64)) 48 w' w.heap.size (fun _ => True) u3 qbg) ∧ qag (Below w.heap.size w w'))
   case atStart => exact ⟨(qfq), (0), qav, qav, H', ⟨Nat.le_refl _⟩, ⟨by apply_rules only [qdr.out, Kd.qdl, Kd.qdm, Kd.qea]⟩, ⟨qam⟩⟩
   case round =>
    clear H'
    skip
    obtain ⟨qjz, qfL, rfl, rfl, HA, HK2, qdr, HB⟩ := hrel
    cases gk with
    | zero => exact absurd HA.out (by simp [qa4.l1])
    | succ k2 =>
     have H := HA.out; clear HA; simp only [qa4.l1] at H; by_cases c4 : qas = 0
     ·rw [if_pos c4] at H; exact absurd H (by simp)
     rw [if_neg c4] at H; have qfx : (qas == 0) = false := beq_eq_false_iff_ne.mpr c4; have qlW : (qas != 0) = true := bne_iff_ne.mpr c4; by_cases c5 : (Int.tmod qjz qas) = 0
     ·rw [if_pos c5] at H; have qgH : ((Int.tmod qjz qas) == 0) = true := beq_iff_eq.mpr c5; have c5b1 : ((Int.tmod qjz qas) != 0) = false := bne_eq_false_iff_eq.mpr c5; clear c5; have H' := ak_ H; clear H; go_wp2
      go_roundg k2
      case measure => have := HK1.out; have := HK2.out; omega
      case rel => exact ⟨(wrap64 (Int.tdiv qjz qas)), (wrap64 (qfL + 1)), qav, qav, H', ⟨ql9⟩, ⟨by apply_rules only [qdr.out, Kd.qdl, Kd.qdm, Kd.qea]⟩, ⟨qam⟩⟩
     rw [if_neg c5] at H; have qgH : ((Int.tmod qjz qas) == 0) = false := beq_eq_false_iff_ne.mpr c5; have c5b1 : ((Int.tmod qjz qas) != 0) = true := bne_iff_ne.mpr c5
     obtain ⟨qh1, hy_⟩ : ∃ y_ : List Int, y_ = (([qas, qfL] : List Int)) := ⟨_, rfl⟩
     replace H : (if qbg.length < 5864062014805 then (qa4.l0 k2 qjz (qbg ++ [qh1])) else (none)) = some r := qe6; have qgq := ak_ hy_; clear hy_; by_cases c6 : qbg.length < 5864062014805; rotate_left
     ·rw [if_neg c6] at H; exact absurd H (by simp)
     rw [if_pos c6] at H; have LMc6 := ak_ c6; clear c6
     obtain ⟨qhD, hy_⟩ : ∃ y_ : List (List Int), y_ = (qbg ++ [qh1]) := ⟨_, rfl⟩
     replace H : (qa4.l0 k2 qjz qhD) = some r := qe6; have qhi := ak_ hy_; clear hy_; have H' := ak_ H; clear H
     go_wp2_with (first | ((with_reducible refine qak (N := 22) rfl ?_); refine Kd.qg9 (Kd.int .i64) _ 3 ?hg (N := 22) ?hd (xs := ([qas, qfL] : List Int)) (inner := [.int .i64 qas, .int .i64 qfL]) (ok := fun _ => True) (okp := fun _ => True) ?hr ?hp (fun _ hk => hk) trivial (Below.refl _ _) (Nat.le_refl _) (by simp) ?_; (case hd => rfl); (case hg => rfl); (case hr => exact qbb); (case hp => exact (qd9.one (show Kd.M (Kd.int .i64) _ _ _ qas [.int .i64 qas] from rfl) (qd9.one (show Kd.M (Kd.int .i64) _ _ _ qfL [.int .i64 qfL] from rfl) (qd9.none _ _)))); intro qhg w7 ho8 hb hg_ hnew_; clear hg_ hnew_; (first | rw [← qgq.out] at ho8 | (simp only [Int.reduceToNat] at ho8; rw [← qgq.out] at ho8)); replace qdr := ak_ (Kd.S_elder' (by apply_rules only [qdr.out, Kd.qdl, Kd.qdm, Kd.qea]) (Kd.qfk ho8) hb); have qbW := ak_ (Kd.qau ho8 (qab qam)); replace HB := HB.mw hb; clear hb ho8; obtain ⟨Ao10, co10, eo10⟩ := Kd.qaJ qbW.out; subst eo10) | ((with_reducible refine qa3 (b := .append) (xs := #[.tmp 19, .tmp 23]) rfl ?_); at_builtin; refine Kd.qjB (Kd.slice 3 (Kd.int .i64)) (w0 := w) w.heap.size rfl (.tmp 19) (.tmp 23) 129 48 (.slice none 0 0) 24 rfl Tryz.underlying129 info48 rfl (by decide) (by omega) u3 qbg qh1 [.slice Ao10 qh1.length co10] (fun _ => True) (fun k_ => some k_ = (.slice Ao10 qh1.length co10 : Value).ownBlock) rfl rfl ?aP (fun k_ hk_ => ((Kd.qa8 (ok' := fun k_ => ((fun _ => True)) k_ ∧ some k_ ≠ (u3 : Value).ownBlock) (Kd.R_apart' (qbW.out) (Kd.qjV qdr.out) (by decide)) (fun k_ hk => ⟨trivial, hk.2⟩))).1 k_ hk_.symm) ?aF ?aO ?aB ?aS ?aL ?_; (case aP => exact Kd.M_row (Kd.qa8 (Kd.qh2 rfl (Kd.qa8 (ok' := fun k_ => ((fun _ => True)) k_ ∧ some k_ ≠ (u3 : Value).ownBlock) (Kd.R_apart' (qbW.out) (Kd.qjV qdr.out) (by decide)) (fun k_ hk => ⟨trivial, hk.2⟩))) (fun _ h_ => h_))); (case aB => exact qam); (case aF => exact (fun _ _ => trivial)); (case aO => exact (by (with_reducible repeat (first | apply Kd.qdl | apply Kd.qdm | apply Kd.qea)); exact Kd.qgk qdr.out (fun k_ hk => ⟨trivial, fun e_ => hk.2 e_⟩))); (case aS => exact (qab qam)); (case aL => have := LMc6.out; omega); intro qqI w9 ho hb hg hat; rw [← qhi.out] at ho; replace HB := ak_ (hb); have qe2 := ak_ (ho); clear qdr qbW; clear ho hb hg hat))
     go_roundg k2
     case measure => have := HK1.out; have := HK2.out; omega
     case rel => exact ⟨(qjz), (qhD), qav, H', ⟨ql9⟩, ⟨by apply_rules only [qe2.out, Kd.qdl, Kd.qdm, Kd.qea]⟩, ⟨qam⟩⟩
def qcL.f (k : Nat) (a0 : Int) : Option ((List (List Int)) × Bool) := (qdB.f a0).bind fun qas => (if qas = true then ((qa4.f k a0).bind fun qaI => (some (qaI, true))) else (some (([] : List (List Int)), false)))
theorem qcL.calls (k : Nat) (a0 : Int) (r1 : List (List Int)) (r2 : Bool) (w : World) (h : qcL.f k a0 = some (r1, r2)) :
  Calls Tryz.prog 113 #[.int .i64 a0] w fun e w' => ∃ v0_ : Value, e = .returned (.tuple #[v0_, .bool r2]) ∧ Kd.S (Kd.slice 3 (Kd.int .i64)) 48 w' w.heap.size (fun _ => True) v0_ r1 ∧ Below w.heap.size w w' := by
 have HB := ak_ (Below.refl w.heap.size w); have H : ((qdB.f a0).bind fun qas => (if qas = true then ((qa4.f k a0).bind fun qaI => (some (qaI, true))) else (some (([] : List (List Int)), false)))) = some (r1, r2) := h; clear h; obtain ⟨qas, A2, H⟩ := qaw H; (try dsimp only at H); by_cases c3 : qas = true
 ·subst c3; rw [if_pos rfl] at H; obtain ⟨qaI, A4, H⟩ := qaw H; (try dsimp only at H); obtain ⟨rfl, rfl⟩ := qdI H; go_enter Tryz.func113, Tryz.ntmps113
  go_wp2_with (first | (refine gl_ 5 Tryz.func166 #[.int .i64 a0] rfl qbK ?_; (with_reducible refine (qdB.calls a0 true _ A2.out).mono ?_); rintro e w' ⟨rfl, ⟨nd, rfl⟩⟩; refine ⟨_, rfl, ?_⟩) | (refine gl_ 8 Tryz.func167 #[.int .i64 a0] rfl qbK ?_; (with_reducible refine (qa4.calls k a0 qaI _ A4.out).mono ?_); rintro e w5 ⟨qhg, rfl, ho0, hb⟩; refine ⟨_, rfl, ?_⟩; have qbW := ak_ (Kd.qdU ho0 (qab qam)); replace HB := HB.mw hb; (try clear hb ho0)))
  go_ret2
  exact ⟨_, qce, by (with_reducible repeat (first | apply Kd.qdl | apply Kd.qdm | apply Kd.qea)); exact qbW.out, qam⟩
 replace c3 := Bool.eq_false_iff.mpr c3; subst c3; rw [if_neg (show ¬ (false = true) by decide)] at H; obtain ⟨rfl, rfl⟩ := qdI H; go_enter Tryz.func113, Tryz.ntmps113
 go_wp2_with (first | (refine gl_ 5 Tryz.func166 #[.int .i64 a0] rfl qbK ?_; (with_reducible refine (qdB.calls a0 false _ A2.out).mono ?_); rintro e w' ⟨rfl, ⟨nd, rfl⟩⟩; refine ⟨_, rfl, ?_⟩))
 go_ret2
 exact ⟨_, qce, k55_, qam⟩
def qdP.f (a0 : Int) : Option (Bool) := (qbf.f a0 0 10000).bind fun qas => (some qas)
theorem qdP.calls (a0 : Int) (r : Bool) (w : World) (h : qdP.f a0 = some r) :
  Calls Tryz.prog 168 #[.int .i64 a0] w fun e w' => e = .returned (.bool r) ∧ qcX w w' := by
 have H : ((qbf.f a0 0 10000).bind fun qas => (some qas)) = some r := h; clear h; obtain ⟨qas, A2, H⟩ := qaw H; (try dsimp only at H); obtain rfl := Option.some.inj H; go_enter Tryz.func168, Tryz.ntmps168
 go_wp2_with (first | (refine gl_ 4 Tryz.func93 #[.int .i64 a0, .int .i64 0, .int .i64 10000] rfl qbK ?_; (with_reducible refine (qbf.calls a0 0 10000 qas _ A2.out).mono ?_); rintro e w' ⟨rfl, ⟨nd, rfl⟩⟩; refine ⟨_, rfl, ?_⟩))
 go_ret
 exact ⟨qav, qc2⟩
def qbY.l0 : Nat → Int → List Int → Int → Option (List Int)
 | 0, _, _, _ => none
 | k + 1, x1, x5, x6 => if x6 ≤ x1 then ((qe1.f k x6).bind fun qas => (if qas = true then (if x5.length < 17592186044416 then (qbY.l0 k x1 (x5 ++ [x6]) (wrap64 (x6 + 1))) else (none)) else (qbY.l0 k x1 x5 (wrap64 (x6 + 1))))) else (some x5)
def qbY.f (k : Nat) (a0 : Int) (a1 : Int) : Option (List Int) := qbY.l0 k a1 ([] : List Int) a0
theorem qbY.calls (k : Nat) (a0 : Int) (a1 : Int) (r : List Int) (w : World) (h : qbY.f k a0 a1 = some r) :
  Calls Tryz.prog 169 #[.int .i64 a0, .int .i64 a1] w fun e w' => ∃ v0_ : Value, e = .returned (v0_) ∧ Kd.R (Kd.int .i64) 3 w' w.heap.size (fun _ => True) v0_ r ∧ Below w.heap.size w w' := by
 have HB := ak_ (Below.refl w.heap.size w); have H : (qbY.l0 k a1 ([] : List Int) a0) = some r := h; clear h; have H' := ak_ H; clear H; go_enter Tryz.func169, Tryz.ntmps169; go_wp2
 go_loopg [5, 6] k (fun kq v5 v6 w' => ∃ (qbP : List Int) (qcU : Int), v6 = .int .i64 qcU ∧ qag (qbY.l0 kq a1 qbP qcU = some r) ∧ qag (kq ≤ k) ∧ qag (Kd.R (Kd.int .i64) 3 w' w.heap.size (fun _ => True) v5 qbP) ∧ qag (Below w.heap.size w w'))
 case atStart => exact ⟨(([] : List Int)), (a0), qav, H', ⟨Nat.le_refl _⟩, ⟨qg4⟩, ⟨qam⟩⟩
 case round =>
  clear H'; obtain ⟨qbP, qcU, rfl, HA, HK1, qgy, HB⟩ := hrel
  cases gk with
  | zero => exact absurd HA.out (by simp [qbY.l0])
  | succ k1 =>
   have H := HA.out; clear HA; simp only [qbY.l0] at H; by_cases c3 : qcU ≤ a1; rotate_left
   ·rw [if_neg c3] at H; have qff : decide (qcU ≤ a1) = false := decide_eq_false c3; clear c3; obtain rfl := Option.some.inj H; go_wp2
    go_ret
    exact ⟨_, qce, k65_, qam⟩
   rw [if_pos c3] at H; have qff : decide (qcU ≤ a1) = true := decide_eq_true c3; clear c3; obtain ⟨qas, A4, H⟩ := qaw H; (try dsimp only at H); by_cases c5 : qas = true; rotate_left
   ·replace c5 := Bool.eq_false_iff.mpr c5; subst c5; rw [if_neg (show ¬ (false = true) by decide)] at H; have H' := ak_ H; clear H
    go_wp2_with (first | (refine gl_ 14 Tryz.func210 #[.int .i64 qcU] rfl qbK ?_; (with_reducible refine (qe1.calls k1 qcU false _ A4.out).mono ?_); rintro e w' ⟨rfl, ⟨nd, rfl⟩⟩; refine ⟨_, rfl, ?_⟩))
    go_roundg k1
    case measure => have := HK1.out; omega
    case rel => exact ⟨(qbP), (wrap64 (qcU + 1)), qav, H', ⟨qc9⟩, ⟨qnM⟩, ⟨qam⟩⟩
   subst c5; rw [if_pos rfl] at H; by_cases c6 : qbP.length < 17592186044416; rotate_left
   ·rw [if_neg c6] at H; exact absurd H (by simp)
   rw [if_pos c6] at H; have LMc6 := ak_ c6; clear c6
   obtain ⟨qh1, hy_⟩ : ∃ y_ : List Int, y_ = (qbP ++ [qcU]) := ⟨_, rfl⟩
   replace H : (qbY.l0 k1 a1 qh1 (wrap64 (qcU + 1))) = some r := qe6; have qgq := ak_ hy_; clear hy_; have H' := ak_ H; clear H
   go_wp2_with (first | (refine gl_ 14 Tryz.func210 #[.int .i64 qcU] rfl qbK ?_; (with_reducible refine (qe1.calls k1 qcU true _ A4.out).mono ?_); rintro e w' ⟨rfl, ⟨nd, rfl⟩⟩; refine ⟨_, rfl, ?_⟩) | ((with_reducible refine qa3 (b := .append) (xs := #[.tmp 15, .tmp 17]) rfl ?_); at_builtin; refine Kd.qc8 (Kd.int .i64) (w0 := w) w.heap.size rfl (.tmp 15) (.tmp 17) 48 3 (.int .i64 0) 8 rfl Tryz.underlying48 info3 rfl (by decide) (by omega) u5 qbP qcU [.int .i64 qcU] (fun _ => True) (fun _ => False) rfl rfl ?aP (fun _ hk => hk.elim) ?aF ?aO ?aB ?aS ?aL ?_; (case aP => exact rfl); (case aB => exact qam); (case aF => exact (fun _ _ => trivial)); (case aO => exact qnM); (case aS => exact (qab qam)); (case aL => have := LMc6.out; omega); intro qhg w7 ho hb hg hat; rw [← qgq.out] at ho; replace HB := ak_ (hb); have qbW := ak_ (ho); clear qgy; clear ho hb hg hat))
   go_roundg k1
   case measure => have := HK1.out; omega
   case rel => exact ⟨(qh1), (wrap64 (qcU + 1)), qav, H', ⟨qc9⟩, ⟨qqL⟩, ⟨qam⟩⟩
def qc3.f (k : Nat) (a0 : Int) : Option (Int × Bool) := (qdP.f a0).bind fun qas => (if qas = true then ((qbY.f k 0 a0).bind fun qaI => (some ((qaI.length : Int), true))) else (some (0, false)))
theorem qc3.calls (k : Nat) (a0 : Int) (r1 : Int) (r2 : Bool) (w : World) (h : qc3.f k a0 = some (r1, r2)) :
  Calls Tryz.prog 114 #[.int .i64 a0] w fun e w' => e = .returned (.tuple #[.int .i64 r1, .bool r2]) ∧ Below w.heap.size w w' := by
 have HB := ak_ (Below.refl w.heap.size w); have H : ((qdP.f a0).bind fun qas => (if qas = true then ((qbY.f k 0 a0).bind fun qaI => (some ((qaI.length : Int), true))) else (some (0, false)))) = some (r1, r2) := h; clear h; obtain ⟨qas, A2, H⟩ := qaw H; (try dsimp only at H); by_cases c3 : qas = true
 ·subst c3; rw [if_pos rfl] at H; obtain ⟨qaI, A4, H⟩ := qaw H; (try dsimp only at H); obtain ⟨rfl, rfl⟩ := qdI H; go_enter Tryz.func114, Tryz.ntmps114
  go_wp2_with (first | (refine gl_ 5 Tryz.func168 #[.int .i64 a0] rfl qbK ?_; (with_reducible refine (qdP.calls a0 true _ A2.out).mono ?_); rintro e w' ⟨rfl, ⟨nd, rfl⟩⟩; refine ⟨_, rfl, ?_⟩) | (refine gl_ 8 Tryz.func169 #[.int .i64 0, .int .i64 a0] rfl qbK ?_; (with_reducible refine (qbY.calls k 0 a0 qaI _ A4.out).mono ?_); rintro e w5 ⟨qhg, rfl, ho0, hb⟩; refine ⟨_, rfl, ?_⟩; have qbW := ak_ (Kd.qau ho0 (qab qam)); replace HB := HB.mw hb; (try clear hb ho0); obtain ⟨Ao6, co6, eo6⟩ := Kd.qaJ qbW.out; subst eo6))
  go_ret2
  exact ⟨qce, qam⟩
 replace c3 := Bool.eq_false_iff.mpr c3; subst c3; rw [if_neg (show ¬ (false = true) by decide)] at H; obtain ⟨rfl, rfl⟩ := qdI H; go_enter Tryz.func114, Tryz.ntmps114
 go_wp2_with (first | (refine gl_ 5 Tryz.func168 #[.int .i64 a0] rfl qbK ?_; (with_reducible refine (qdP.calls a0 false _ A2.out).mono ?_); rintro e w' ⟨rfl, ⟨nd, rfl⟩⟩; refine ⟨_, rfl, ?_⟩))
 go_ret2
 exact ⟨qce, qam⟩
def qdf.f (a0 : Int) : Option (Bool) := (qbf.f a0 1 1000000).bind fun qas => (some qas)
theorem qdf.calls (a0 : Int) (r : Bool) (w : World) (h : qdf.f a0 = some r) :
  Calls Tryz.prog 170 #[.int .i64 a0] w fun e w' => e = .returned (.bool r) ∧ qcX w w' := by
 have H : ((qbf.f a0 1 1000000).bind fun qas => (some qas)) = some r := h; clear h; obtain ⟨qas, A2, H⟩ := qaw H; (try dsimp only at H); obtain rfl := Option.some.inj H; go_enter Tryz.func170, Tryz.ntmps170
 go_wp2_with (first | (refine gl_ 4 Tryz.func93 #[.int .i64 a0, .int .i64 1, .int .i64 1000000] rfl qbK ?_; (with_reducible refine (qbf.calls a0 1 1000000 qas _ A2.out).mono ?_); rintro e w' ⟨rfl, ⟨nd, rfl⟩⟩; refine ⟨_, rfl, ?_⟩))
 go_ret
 exact ⟨qav, qc2⟩
def qb3.l0 : Nat → Int → List Int → List Int → Int → Option (List Int)
 | 0, _, _, _, _ => none
 | k + 1, x0, x3, x4, x5 => if (wrap64 (x5 * x5)) ≤ x0 then (if x5 = 0 then (none) else (if (Int.tmod x0 x5) = 0 then (if x3.length < 17592186044416 then ((some (x3 ++ [x5] : List Int)).bind fun qgn => (if (wrap64 (x5 * x5)) < x0 then ((some (([wrap64 (Int.tdiv x0 x5)] : List Int) : List Int)).bind fun qfr => (if qfr.length + x4.length < 17592186044416 then (qb3.l0 k x0 qgn (qfr ++ x4) (wrap64 (x5 + 1))) else (none))) else (qb3.l0 k x0 qgn x4 (wrap64 (x5 + 1))))) else (none)) else (qb3.l0 k x0 x3 x4 (wrap64 (x5 + 1))))) else (if x3.length + x4.length < 17592186044416 then (some (x3 ++ x4)) else (none))
def qb3.f (k : Nat) (a0 : Int) : Option (List Int) := qb3.l0 k a0 ([] : List Int) ([] : List Int) 1
theorem qb3.calls (k : Nat) (a0 : Int) (r : List Int) (w : World) (h : qb3.f k a0 = some r) :
  Calls Tryz.prog 171 #[.int .i64 a0] w fun e w' => ∃ v0_ : Value, e = .returned (v0_) ∧ Kd.R (Kd.int .i64) 3 w' w.heap.size (fun _ => True) v0_ r ∧ Below w.heap.size w w' := by
 have HB := ak_ (Below.refl w.heap.size w); have H : (qb3.l0 k a0 ([] : List Int) ([] : List Int) 1) = some r := h; clear h; have H' := ak_ H; clear H; go_enter Tryz.func171, Tryz.ntmps171; go_wp2
 go_loopg [3, 4, 5] k (fun kq v3 v4 v5 w' => ∃ (qbg : List Int) (qcs : List Int) (qbP : Int), v5 = .int .i64 qbP ∧ qag (qb3.l0 kq a0 qbg qcs qbP = some r) ∧ qag (kq ≤ k) ∧ qag (Kd.R (Kd.int .i64) 3 w' w.heap.size (fun k_ => some k_ ≠ (v4 : Value).ownBlock) v3 qbg) ∧ qag (Kd.R (Kd.int .i64) 3 w' w.heap.size (fun k_ => some k_ ≠ (v3 : Value).ownBlock) v4 qcs) ∧ qag (Below w.heap.size w w'))
 case atStart => exact ⟨(([] : List Int)), (([] : List Int)), (1), qav, H', ⟨Nat.le_refl _⟩, ⟨qg4⟩, ⟨qg4⟩, ⟨qam⟩⟩
 case round =>
  clear H'; obtain ⟨qbg, qcs, qbP, rfl, HA, HK1, qdr, qdn, HB⟩ := hrel
  cases gk with
  | zero => exact absurd HA.out (by simp [qb3.l0])
  | succ k1 =>
   have H := HA.out; clear HA; simp only [qb3.l0] at H; by_cases c2 : (wrap64 (qbP * qbP)) ≤ a0; rotate_left
   ·rw [if_neg c2] at H; have qfe : decide ((wrap64 (qbP * qbP)) ≤ a0) = false := decide_eq_false c2; clear c2; by_cases c14 : qbg.length + qcs.length < 17592186044416; rotate_left
    ·rw [if_neg c14] at H; exact absurd H (by simp)
    rw [if_pos c14] at H; have qnU := ak_ c14; clear c14
    obtain ⟨qeS, hy_⟩ : ∃ y_ : List Int, y_ = (qbg ++ qcs) := ⟨_, rfl⟩
    replace H : (some qeS) = some r := qe6; have qeb := ak_ hy_; clear hy_; obtain rfl := Option.some.inj H; obtain ⟨Ao16, co16, eo16⟩ := Kd.qaJ qdn.out; subst eo16
    go_wp2_with (first | ((with_reducible refine qa3 (b := .append) (xs := #[.tmp 32, .tmp 33]) rfl ?_); at_builtin; refine Kd.qdK (Kd.int .i64) (w0 := w) w.heap.size rfl (.tmp 32) (.tmp 33) 48 3 (.int .i64 0) 8 rfl Tryz.underlying48 info3 rfl (by decide) (by omega) u3 qbg qcs _ _ _ (fun k_ => some k_ ≠ (.slice Ao16 qcs.length co16 : Value).ownBlock) (fun _ => False) rfl rfl ?aO ?aR (fun _ _ h => h) (fun _ h => h.elim) ?aF ?aB ?aS ?aL ?_; (case aR => repeat (first | exact (Kd.R_reads' qdn.out).2.2 | (with_reducible refine Kd.C_alloc ?_ _) | (with_reducible refine Kd.C_drewN ?_ _) | (with_reducible refine Kd.C_drew ?_))); (case aB => exact qam); (case aF => exact (fun k_ hk => Kd.fresh' (Kd.qjA qjI) k_ hk)); (case aO => exact qhQ); (case aS => exact (qab qam)); (case aL => have := qnU.out; omega); intro qiq w15 ho hb hg hat; rw [← qeb.out] at ho; replace qdn := ak_ (Kd.qf3 (ok := (fun _ => True)) (by (with_reducible repeat (first | apply Kd.qaq | apply Kd.qar | apply Kd.qaC)); exact Kd.qa8 qdn.out (fun _ hk => ⟨trivial, hk⟩)) hg hat); replace HB := ak_ (hb); have qdi := ak_ (ho); clear qdr; clear ho hb hg hat))
    go_ret
    exact ⟨_, qce, by (with_reducible repeat (first | apply Kd.qaq | apply Kd.qar | apply Kd.qaC)); exact Kd.qa8 qdi.out (fun _ hk => trivial), qam⟩
   rw [if_pos c2] at H; have qfe : decide ((wrap64 (qbP * qbP)) ≤ a0) = true := decide_eq_true c2; clear c2; by_cases c3 : qbP = 0
   ·rw [if_pos c3] at H; exact absurd H (by simp)
   rw [if_neg c3] at H; have qff : (qbP == 0) = false := beq_eq_false_iff_ne.mpr c3; have qlV : (qbP != 0) = true := bne_iff_ne.mpr c3; by_cases c4 : (Int.tmod a0 qbP) = 0; rotate_left
   ·rw [if_neg c4] at H; have qfx : ((Int.tmod a0 qbP) == 0) = false := beq_eq_false_iff_ne.mpr c4; have qlW : ((Int.tmod a0 qbP) != 0) = true := bne_iff_ne.mpr c4; have H' := ak_ H; clear H; go_wp2
    go_roundg k1
    case measure => have := HK1.out; omega
    case rel => exact ⟨(qbg), (qcs), (wrap64 (qbP + 1)), qav, H', ⟨qc9⟩, ⟨qhQ⟩, ⟨qjI⟩, ⟨qam⟩⟩
   rw [if_pos c4] at H; have qfx : ((Int.tmod a0 qbP) == 0) = true := beq_iff_eq.mpr c4; have qlW : ((Int.tmod a0 qbP) != 0) = false := bne_eq_false_iff_eq.mpr c4; clear c4; by_cases c5 : qbg.length < 17592186044416; rotate_left
   ·rw [if_neg c5] at H; exact absurd H (by simp)
   rw [if_pos c5] at H; have LMc5 := ak_ c5; clear c5
   obtain ⟨qgn, hy_⟩ : ∃ y_ : List Int, y_ = (qbg ++ [qbP]) := ⟨_, rfl⟩
   replace H : (if (wrap64 (qbP * qbP)) < a0 then ((some (([wrap64 (Int.tdiv a0 qbP)] : List Int) : List Int)).bind fun qfr => (if qfr.length + qcs.length < 17592186044416 then (qb3.l0 k1 a0 qgn (qfr ++ qcs) (wrap64 (qbP + 1))) else (none))) else (qb3.l0 k1 a0 qgn qcs (wrap64 (qbP + 1)))) = some r := qe6; have qiu := ak_ hy_; clear hy_; by_cases c6 : (wrap64 (qbP * qbP)) < a0; rotate_left
   ·rw [if_neg c6] at H; have qfY : decide ((wrap64 (qbP * qbP)) < a0) = false := decide_eq_false c6; clear c6; have H' := ak_ H; clear H
    go_wp2_with (first | ((with_reducible refine qa3 (b := .append) (xs := #[.tmp 17, .tmp 19]) rfl ?_); at_builtin; refine Kd.qc8 (Kd.int .i64) (w0 := w) w.heap.size rfl (.tmp 17) (.tmp 19) 48 3 (.int .i64 0) 8 rfl Tryz.underlying48 info3 rfl (by decide) (by omega) u3 qbg qbP [.int .i64 qbP] (fun k_ => some k_ ≠ (u4 : Value).ownBlock) (fun _ => False) rfl rfl ?aP (fun _ hk => hk.elim) ?aF ?aO ?aB ?aS ?aL ?_; (case aP => exact rfl); (case aB => exact qam); (case aF => exact (fun k_ hk => Kd.fresh' (Kd.qjA qjI) k_ hk)); (case aO => exact qhQ); (case aS => exact (qab qam)); (case aL => have := LMc5.out; omega); intro v105 w13 ho hb hg hat; rw [← qiu.out] at ho; replace qdn := ak_ (Kd.qf3 (ok := (fun _ => True)) (by (with_reducible repeat (first | apply Kd.qaq | apply Kd.qar | apply Kd.qaC)); exact Kd.qa8 qdn.out (fun _ hk => ⟨trivial, hk⟩)) hg hat); replace HB := ak_ (hb); have qeK := ak_ (ho); clear qdr; clear ho hb hg hat))
    go_roundg k1
    case measure => have := HK1.out; omega
    case rel => exact ⟨(qgn), (qcs), (wrap64 (qbP + 1)), qav, H', ⟨qc9⟩, ⟨k84_⟩, ⟨by (with_reducible repeat (first | apply Kd.qaq | apply Kd.qar | apply Kd.qaC)); exact Kd.qa8 qdn.out (fun _ hk => hk.2)⟩, ⟨qam⟩⟩
   rw [if_pos c6] at H; have qfY : decide ((wrap64 (qbP * qbP)) < a0) = true := decide_eq_true c6; clear c6
   obtain ⟨qfr, hy_⟩ : ∃ y_ : List Int, y_ = (([wrap64 (Int.tdiv a0 qbP)] : List Int)) := ⟨_, rfl⟩
   replace H : (if qfr.length + qcs.length < 17592186044416 then (qb3.l0 k1 a0 qgn (qfr ++ qcs) (wrap64 (qbP + 1))) else (none)) = some r := qe6; have qjv := ak_ hy_; clear hy_; by_cases c7 : qfr.length + qcs.length < 17592186044416; rotate_left
   ·rw [if_neg c7] at H; exact absurd H (by simp)
   rw [if_pos c7] at H; have LMc7 := ak_ c7; clear c7
   obtain ⟨qis, hy_⟩ : ∃ y_ : List Int, y_ = (qfr ++ qcs) := ⟨_, rfl⟩
   replace H : (qb3.l0 k1 a0 qgn qis (wrap64 (qbP + 1))) = some r := qe6; have qnY := ak_ hy_; clear hy_; have H' := ak_ H; clear H
   go_wp2_with (first | ((with_reducible refine qa3 (b := .append) (xs := #[.tmp 17, .tmp 19]) rfl ?_); at_builtin; refine Kd.qc8 (Kd.int .i64) (w0 := w) w.heap.size rfl (.tmp 17) (.tmp 19) 48 3 (.int .i64 0) 8 rfl Tryz.underlying48 info3 rfl (by decide) (by omega) u3 qbg qbP [.int .i64 qbP] (fun k_ => some k_ ≠ (u4 : Value).ownBlock) (fun _ => False) rfl rfl ?aP (fun _ hk => hk.elim) ?aF ?aO ?aB ?aS ?aL ?_; (case aP => exact rfl); (case aB => exact qam); (case aF => exact (fun k_ hk => Kd.fresh' (Kd.qjA qjI) k_ hk)); (case aO => exact qhQ); (case aS => exact (qab qam)); (case aL => have := LMc5.out; omega); intro v105 w8 ho hb hg hat; rw [← qiu.out] at ho; replace qdn := ak_ (Kd.qf3 (ok := (fun _ => True)) (by (with_reducible repeat (first | apply Kd.qaq | apply Kd.qar | apply Kd.qaC)); exact Kd.qa8 qdn.out (fun _ hk => ⟨trivial, hk⟩)) hg hat); replace HB := ak_ (hb); have qeK := ak_ (ho); clear qdr; clear ho hb hg hat) | ((with_reducible refine qak (N := 29) rfl ?_); refine Kd.qg9 (Kd.int .i64) _ 3 ?hg (N := 29) ?hd (xs := ([wrap64 (Int.tdiv a0 qbP)] : List Int)) (inner := [.int .i64 (wrap64 (Int.tdiv a0 qbP))]) (ok := fun _ => True) (okp := fun _ => True) ?hr ?hp (fun _ hk => hk) trivial (Below.refl _ _) (Nat.le_refl _) (by simp) ?_; (case hd => rfl); (case hg => rfl); (case hr => exact qbb); (case hp => exact (qd9.one (show Kd.M (Kd.int .i64) _ _ _ (wrap64 (Int.tdiv a0 qbP)) [.int .i64 (wrap64 (Int.tdiv a0 qbP))] from rfl) (qd9.none _ _))); intro v108 w9 qli hb hg_ hnew_; clear hg_ hnew_; (first | rw [← qjv.out] at qli | (simp only [Int.reduceToNat] at qli; rw [← qjv.out] at qli)); have qiN := ak_ (Kd.qau (Kd.R_new' (Kd.R_new' qli (Kd.qjA qjI)) (Kd.qjA k84_)) (qab qam)); replace qdn := ak_ (Kd.R_elder' qjI (Kd.qfk qli) hb); replace qeK := ak_ (Kd.R_elder' k84_ (Kd.qfk qli) hb); replace HB := HB.mw hb; clear hb qli; obtain ⟨qkM, qkQ, qqK⟩ := Kd.qaJ qdn.out; subst qqK) | ((with_reducible refine qa3 (b := .append) (xs := #[.tmp 29, .tmp 30]) rfl ?_); at_builtin; refine Kd.qdK (Kd.int .i64) (w0 := w) w.heap.size rfl (.tmp 29) (.tmp 30) 48 3 (.int .i64 0) 8 rfl Tryz.underlying48 info3 rfl (by decide) (by omega) v108 qfr qcs _ _ _ (fun k_ => some k_ ≠ (.slice qkM qcs.length qkQ : Value).ownBlock ∧ some k_ ≠ (v105 : Value).ownBlock) (fun _ => False) rfl rfl ?aO ?aR (fun _ _ h => h) (fun _ h => h.elim) ?aF ?aB ?aS ?aL ?_; (case aR => repeat (first | exact (Kd.R_reads' qdn.out).2.2 | (with_reducible refine Kd.C_alloc ?_ _) | (with_reducible refine Kd.C_drewN ?_ _) | (with_reducible refine Kd.C_drew ?_))); (case aB => exact qam); (case aF => exact (fun k_ hk => ⟨Kd.fresh' (Kd.qjA qjI) k_ hk, Kd.fresh' (Kd.qjA k84_) k_ hk⟩)); (case aO => exact (by (with_reducible repeat (first | apply Kd.qaq | apply Kd.qar | apply Kd.qaC)); exact Kd.qa8 qiN.out (fun _ hk => ⟨hk.1.2, hk.2⟩))); (case aS => exact (qab qam)); (case aL => have := LMc7.out; omega); intro v111 w11 ho hb hg hat; rw [← qnY.out] at ho; replace qdn := ak_ (Kd.qf3 (ok := (fun k_ => some k_ ≠ (v105 : Value).ownBlock)) (by (with_reducible repeat (first | apply Kd.qaq | apply Kd.qar | apply Kd.qaC)); exact Kd.qa8 qdn.out (fun _ hk => ⟨hk.1.2, hk.2⟩)) hg hat); replace qeK := ak_ (Kd.qf3 (ok := (fun k_ => some k_ ≠ (.slice qkM qcs.length qkQ : Value).ownBlock)) k84_ hg hat); replace HB := ak_ (hb); have qqT := ak_ (ho); clear qiN; clear ho hb hg hat))
   go_roundg k1
   case measure => have := HK1.out; omega
   case rel => exact ⟨(qgn), (qis), (wrap64 (qbP + 1)), qav, H', ⟨qc9⟩, ⟨by (with_reducible repeat (first | apply Kd.qaq | apply Kd.qar | apply Kd.qaC)); exact Kd.qa8 qeK.out (fun _ hk => hk.2)⟩, ⟨by (with_reducible repeat (first | apply Kd.qaq | apply Kd.qar | apply Kd.qaC)); exact Kd.qa8 qqT.out (fun _ hk => hk.2)⟩, ⟨qam⟩⟩
end
end Go.Proofs.YtjeoabbnalamcaaGreatDoor.P
