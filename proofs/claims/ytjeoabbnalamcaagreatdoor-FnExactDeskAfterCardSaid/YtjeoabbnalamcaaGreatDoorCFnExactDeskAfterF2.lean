/- What functions of the program answer. Proved in this text: its theorems. Conditions: as each theorem states them. -/
import Derived.Test.YtjeoabbnalamcaaGreatDoorCFnExactDeskAfterP
import Derived.Test.YtjeoabbnalamcaaGreatDoorCFnExactDeskAfterF0
import Derived.Test.YtjeoabbnalamcaaGreatDoorCFnExactDeskAfterF1
namespace Go.Proofs.YtjeoabbnalamcaaGreatDoor.P
open Go.RowKit Go.Proofs.YtjeoabbnalamcaaGreatDoorW.qaZ Go.Proofs.YtjeoabbnalamcaaGreatDoorW.PrintLast Go.Proofs.YtjeoabbnalamcaaGreatDoorW.PrintMore
set_option linter.unusedVariables false
set_option linter.unusedSimpArgs false
set_option maxHeartbeats 8000000
set_option maxRecDepth 100000
section
attribute [local go_sem] qhj qhl qiE qiF qgt qgu qhk qhm
def qda.f (k : Nat) (qbK : ByteArray) (qbY : Int) : Option ((List (List (qac))) × Bool) := (qcE.f qbK qbY).bind fun qaQ => (if qaQ = true then ((qcM.f k qbK qbY 301).bind fun qcb => (if (qcb.length : Int) > 300 then (some (([] : List (List (qac))), false)) else (some (qcb, true)))) else (some (([] : List (List (qac))), false)))
theorem qda.calls (k : Nat) (qbK : ByteArray) (qbY : Int) (r1 : List (List (qac))) (r2 : Bool) (w : World) (h : qda.f k qbK qbY = some (r1, r2)) :
  Calls Tryz.prog 136 #[.agg #[.string qbK, .int .i64 qbY]] w fun e w' => ∃ v0_ : Value, e = .returned (.tuple #[v0_, .bool r2]) ∧ Kd.S (Kd.slice 85 qaG) 26 w' w.heap.size (fun _ => True) v0_ r1 ∧ Below w.heap.size w w' := by
 have hu99 := Tryz.underlying99; have HB := br_ w; have H : ((qcE.f qbK qbY).bind fun qaQ => (if qaQ = true then ((qcM.f k qbK qbY 301).bind fun qcb => (if (qcb.length : Int) > 300 then (some (([] : List (List (qac))), false)) else (some (qcb, true)))) else (some (([] : List (List (qac))), false)))) = some (r1, r2) := h; clear h; obtain ⟨qaQ, A2, H⟩ := qaB H; (try dsimp only at H); by_cases c3 : qaQ = true; rotate_left
 ·replace c3 := Bool.eq_false_iff.mpr c3; subst c3; rw [if_neg ff_] at H; obtain ⟨rfl, rfl⟩ := qdQ H; go_enter Tryz.func136, Tryz.ntmps136
  go_wp2_with (first | ((with_reducible refine qam (N := 1) rfl ?_); refine bx_ 1 rfl (cs := #[.string qbK, .int .i64 qbY]) (t := 99) qa1 ?_; intro qbD hg w18 hbox hb; have qas := ak_ (hbox); have qdO := ak_ (HB.ge hg); have qdz := ak_ (HB.ge hg); replace HB := HB.mw hb; clear hb hbox hg; obtain ⟨qpt, qpu, qpz, qpA⟩ := qbl qas.1) | (refine gl_ 6 Tryz.func134 #[.agg #[.string qbK, .int .i64 qbY]] rfl qbJ ?_; (with_reducible refine (qcE.calls qbK qbY false _ A2.1).mono ?_); rintro e w20 ⟨rfl, hb⟩; refine ⟨_, rfl, ?_⟩; replace qas := qas.mw hb; replace HB := ak_ (qaa qcw hb); (try clear hb)))
  go_ret2
  exact ⟨_, qca, k55_, qcw⟩
 subst c3; rw [if_pos rfl] at H; obtain ⟨qcb, A4, H⟩ := qaB H; (try dsimp only at H); by_cases c5 : (qcb.length : Int) > 300
 ·rw [if_pos c5] at H; have qgL : decide (300 < (qcb.length : Int)) = true := decide_eq_true c5; have qrb : decide (300 < qcb.length) = true := decide_eq_true (by omega); clear c5; obtain ⟨rfl, rfl⟩ := qdQ H; go_enter Tryz.func136, Tryz.ntmps136
  go_wp2_with (first | ((with_reducible refine qam (N := 1) rfl ?_); refine bx_ 1 rfl (cs := #[.string qbK, .int .i64 qbY]) (t := 99) qa1 ?_; intro qbD hg w6 hbox hb; have qas := ak_ (hbox); have qdO := ak_ (HB.ge hg); have qdz := ak_ (HB.ge hg); replace HB := HB.mw hb; clear hb hbox hg; obtain ⟨qn4, qn5, qn7, qn8⟩ := qbl qas.1) | (refine gl_ 6 Tryz.func134 #[.agg #[.string qbK, .int .i64 qbY]] rfl qbJ ?_; (with_reducible refine (qcE.calls qbK qbY true _ A2.1).mono ?_); rintro e w8 ⟨rfl, hb⟩; refine ⟨_, rfl, ?_⟩; replace qas := qas.mw hb; replace HB := ak_ (qaa qcw hb); (try clear hb); obtain ⟨qgA, qgB, qgC, qgD⟩ := qbl qas.1) | (refine gl_ 9 Tryz.func197 #[.agg #[.string qbK, .int .i64 qbY], .int .i64 301] rfl qbJ ?_; (with_reducible refine (qcM.calls k qbK qbY 301 qcb _ A4.1).mono ?_); rintro e w10 ⟨qrJ, rfl, ho0, hb⟩; refine ⟨_, rfl, ?_⟩; have qes := ak_ (Kd.qd3 ho0 (qab qcw)); replace qas := qas.mw hb; replace HB := ak_ (qaa qcw hb); (try clear hb ho0); obtain ⟨Ao11, co11, eo11⟩ := Kd.qdT qes.1; subst eo11))
  go_ret2
  exact ⟨_, qca, k55_, qcw⟩
 rw [if_neg c5] at H; have qgL : decide (300 < (qcb.length : Int)) = false := decide_eq_false c5; have qrb : decide (300 < qcb.length) = false := decide_eq_false (by omega); clear c5; obtain ⟨rfl, rfl⟩ := qdQ H; go_enter Tryz.func136, Tryz.ntmps136
 go_wp2_with (first | ((with_reducible refine qam (N := 1) rfl ?_); refine bx_ 1 rfl (cs := #[.string qbK, .int .i64 qbY]) (t := 99) qa1 ?_; intro qbD hg w12 hbox hb; have qas := ak_ (hbox); have qdO := ak_ (HB.ge hg); have qdz := ak_ (HB.ge hg); replace HB := HB.mw hb; clear hb hbox hg; obtain ⟨qiw, qix, qiy, qiz⟩ := qbl qas.1) | (refine gl_ 6 Tryz.func134 #[.agg #[.string qbK, .int .i64 qbY]] rfl qbJ ?_; (with_reducible refine (qcE.calls qbK qbY true _ A2.1).mono ?_); rintro e w14 ⟨rfl, hb⟩; refine ⟨_, rfl, ?_⟩; replace qas := qas.mw hb; replace HB := ak_ (qaa qcw hb); (try clear hb); obtain ⟨qpp, qpq, qpv, qpw⟩ := qbl qas.1) | (refine gl_ 9 Tryz.func197 #[.agg #[.string qbK, .int .i64 qbY], .int .i64 301] rfl qbJ ?_; (with_reducible refine (qcM.calls k qbK qbY 301 qcb _ A4.1).mono ?_); rintro e w16 ⟨qrJ, rfl, ho0, hb⟩; refine ⟨_, rfl, ?_⟩; have qes := ak_ (Kd.qd3 ho0 (qab qcw)); replace qas := qas.mw hb; replace HB := ak_ (qaa qcw hb); (try clear hb ho0); obtain ⟨qrV, co17, eo17⟩ := Kd.qdT qes.1; subst eo17))
 go_ret2
 exact ⟨_, qca, by (with_reducible repeat (first | apply Kd.qdm | apply Kd.qdn | apply Kd.qeo)); exact qes.1, qcw⟩
def qc2.f (k : Nat) (qbK : ByteArray) (qbY : Int) : Option ((List (qac)) × Bool) := (qda.f k qbK qbY).bind fun qdo => (if qdo.2 = true then (if (qdo.1.length : Int) = 0 then (some (([] : List (qac)), false)) else (if 0 < (qdo.1.length : Int) then (some (qeD qdo.1 0, true)) else (none))) else (some (([] : List (qac)), false)))
theorem qc2.calls (k : Nat) (qbK : ByteArray) (qbY : Int) (r1 : List (qac)) (r2 : Bool) (w : World) (h : qc2.f k qbK qbY = some (r1, r2)) :
  Calls Tryz.prog 75 #[.agg #[.string qbK, .int .i64 qbY]] w fun e w' => ∃ v0_ : Value, e = .returned (.tuple #[v0_, .bool r2]) ∧ Kd.R qaG 85 w' w.heap.size (fun _ => True) v0_ r1 ∧ Below w.heap.size w w' := by
 have hu99 := Tryz.underlying99; have HB := br_ w; have H : ((qda.f k qbK qbY).bind fun qdo => (if qdo.2 = true then (if (qdo.1.length : Int) = 0 then (some (([] : List (qac)), false)) else (if 0 < (qdo.1.length : Int) then (some (qeD qdo.1 0, true)) else (none))) else (some (([] : List (qac)), false)))) = some (r1, r2) := h; clear h; obtain ⟨⟨qaQ, t105⟩, A2, H⟩ := qaB H; (try dsimp only at H); by_cases c3 : t105 = true; rotate_left
 ·replace c3 := Bool.eq_false_iff.mpr c3; subst c3; rw [if_neg ff_] at H; obtain ⟨rfl, rfl⟩ := qdQ H; go_enter Tryz.func75, Tryz.ntmps75
  go_wp2_with (first | ((with_reducible refine qam (N := 1) rfl ?_); refine bx_ 1 rfl (cs := #[.string qbK, .int .i64 qbY]) (t := 99) qa1 ?_; intro qbD hg w14 hbox hb; have qas := ak_ (hbox); have qdO := ak_ (HB.ge hg); have qdz := ak_ (HB.ge hg); replace HB := HB.mw hb; clear hb hbox hg; obtain ⟨qpp, qpq, qpv, qpw⟩ := qbl qas.1) | (refine gl_ 8 Tryz.func136 #[.agg #[.string qbK, .int .i64 qbY]] rfl qbJ ?_; (with_reducible refine (qda.calls k qbK qbY qaQ false _ A2.1).mono ?_); rintro e w16 ⟨qht, rfl, ho0, hb⟩; refine ⟨_, rfl, ?_⟩; have qbZ := ak_ (Kd.qd3 ho0 (qab qcw)); replace qas := qas.mw hb; replace HB := ak_ (qaa qcw hb); (try clear hb ho0)))
  go_ret2
  exact ⟨_, qca, qhg, qcw⟩
 subst c3; rw [if_pos rfl] at H; by_cases c4 : (qaQ.length : Int) = 0
 ·rw [if_pos c4] at H; have qfw : ((qaQ.length : Int) == 0) = true := beq_iff_eq.mpr c4; have qlY : ((qaQ.length : Int) != 0) = false := bne_eq_false_iff_eq.mpr c4; clear c4; obtain ⟨rfl, rfl⟩ := qdQ H; go_enter Tryz.func75, Tryz.ntmps75
  go_wp2_with (first | ((with_reducible refine qam (N := 1) rfl ?_); refine bx_ 1 rfl (cs := #[.string qbK, .int .i64 qbY]) (t := 99) qa1 ?_; intro qbD hg w5 hbox hb; have qas := ak_ (hbox); have qdO := ak_ (HB.ge hg); have qdz := ak_ (HB.ge hg); replace HB := HB.mw hb; clear hb hbox hg; obtain ⟨qkV, qkW, qk0, qk1⟩ := qbl qas.1) | (refine gl_ 8 Tryz.func136 #[.agg #[.string qbK, .int .i64 qbY]] rfl qbJ ?_; (with_reducible refine (qda.calls k qbK qbY qaQ true _ A2.1).mono ?_); rintro e w7 ⟨qht, rfl, ho0, hb⟩; refine ⟨_, rfl, ?_⟩; have qbZ := ak_ (Kd.qd3 ho0 (qab qcw)); replace qas := qas.mw hb; replace HB := ak_ (qaa qcw hb); (try clear hb ho0); obtain ⟨Ao8, co8, eo8⟩ := Kd.qdT qbZ.1; subst eo8))
  go_ret2
  exact ⟨_, qca, qhg, qcw⟩
 rw [if_neg c4] at H; have qfw : ((qaQ.length : Int) == 0) = false := beq_eq_false_iff_ne.mpr c4; have qlY : ((qaQ.length : Int) != 0) = true := bne_iff_ne.mpr c4
 have c4b2 : ¬ (qaQ = []) := fun h_ => c4 (by rw [h_]; rfl)
 obtain ⟨c9, H⟩ := qct H; have qmQ := decide_eq_true c9; have c9b1 : decide (0 < qaQ.length) = true := decide_eq_true (by omega); clear c9; obtain ⟨rfl, rfl⟩ := qdQ H; go_enter Tryz.func75, Tryz.ntmps75
 go_wp2_with (first | ((with_reducible refine qam (N := 1) rfl ?_); refine bx_ 1 rfl (cs := #[.string qbK, .int .i64 qbY]) (t := 99) qa1 ?_; intro qbD hg w10 hbox hb; have qas := ak_ (hbox); have qdO := ak_ (HB.ge hg); have qdz := ak_ (HB.ge hg); replace HB := HB.mw hb; clear hb hbox hg; obtain ⟨qgj, qgk, qgl, qgm⟩ := qbl qas.1) | (refine gl_ 8 Tryz.func136 #[.agg #[.string qbK, .int .i64 qbY]] rfl qbJ ?_; (with_reducible refine (qda.calls k qbK qbY qaQ true _ A2.1).mono ?_); rintro e w12 ⟨qht, rfl, ho0, hb⟩; refine ⟨_, rfl, ?_⟩; have qbZ := ak_ (Kd.qd3 ho0 (qab qcw)); replace qas := qas.mw hb; replace HB := ak_ (qaa qcw hb); (try clear hb ho0); obtain ⟨Ao13, co13, eo13⟩ := Kd.qdT qbZ.1; subst eo13; have qfW : 0 ≤ (0 : Int) := (by omega); have qfX : 0 < (qaQ.length : Int) := of_decide_eq_true qaL; obtain ⟨qg4, A106_0, c106_0, qke, qcu, qk6, qk3⟩ := qqg (Kd.qeQ qbZ.1).2.2 0 qfW qfX; cases qke; obtain ⟨ce106, qsM, qsK, qn3⟩ := Kd.qr8 qbZ.1 [] 0 qfW (by first | exact qfX | exact of_decide_eq_true qaL | (have e_ := (Kd.qeQ qbZ.1).1; omega)); obtain ⟨ve106_0, rfl, qiu⟩ := qsK; have qgo := qn3 0 _ rfl; rw [Nat.add_zero, show ((Kd.slice 85 qaG)).sz = 1 from rfl, Nat.mul_one] at qgo; replace qgo := Option.some.inj (qgo.symm.trans qcu); rw [qgo] at qiu; have qoS := ak_ (show Kd.R qaG 85 _ _ _ _ (qeD qaQ 0) from qiu); clear qgo qiu; clear qn3 qsM; have qtP : (0 < qaQ.length) = True := eq_true (by omega); (try rw [show ((0 : Int)).toNat = 0 from rfl] at qcu); (try rw [Addr.add_zero'] at qcu); have HR106_0 := ak_ qk3; have HC106_0 := ak_ qk6; clear qk3 qk6; replace qfW := eq_true qfW; replace qfX := eq_true qfX))
 go_ret2
 exact ⟨_, qca, by (with_reducible repeat (first | apply Kd.qaq | apply Kd.qar | apply Kd.qax)); exact Kd.qa2 qoS.1 (fun _ hk => trivial), qcw⟩
def qaS.l0 : Nat → List (qac) → List (qac) → Int → Int → Option ((List (qac)) × Bool)
 | 0, _, _, _, _ => none
 | k + 1, x4, x11, x12, x13 => if x13 < x12 then (if 0 ≤ x13 then (if x13 < (x11.length : Int) then ((qfA.f (wrap64 (-((qad x11 x13).f1))) ((qad x11 x13).f0)).bind fun t107 => (if x4.length < 8796093022208 then (qaS.l0 k (x4 ++ [(⟨(qad x11 x13).f0, t107⟩ : qac)]) x11 x12 (wrap64 (x13 + 1))) else (none))) else (none)) else (none)) else (some (x4, true))
def qaS.f (k : Nat) (l0 : List (qac)) : Option ((List (qac)) × Bool) := (qbb.f l0).bind fun qav => (if qav = true then (qaS.l0 k (([] : List (qac))) l0 (l0.length : Int) 0) else (some (([] : List (qac)), false)))
def qaS.T7 : Bool × List (List Nat × List Nat) := (true, [([], []), ([], []), ([1], [1]), ([], []), ([3], [3]), ([4], [4]), ([], []), ([6], [6]), ([5, 7], [5, 7]), ([2, 8], [2, 8]), ([9], [9]), ([0, 10, 8], [0, 10]), ([11, 11, 0, 1, 2, 3, 4, 5, 6, 7, 8, 9, 10, 11], [0, 11])])
def qaS.B7 : List Nat := [0, 0, 2, 0, 8, 24, 0, 64, 248, 510, 1022, 2047, 4095]
theorem qaS.tab7 : qhC .any (opsOf Tryz.f137 7) = qaS.T7 := by kernel_rfl
theorem qaS.qmL : qeG qaS.T7.2 qaS.B7 = true := by kernel_rfl
theorem qaS.calls (k : Nat) (A0 : Option Addr) (c0 : Nat) (l0 : List (qac)) (r1 : List (qac)) (r2 : Bool) (w : World) (hr0 : Kd.C qaG w A0 l0.length l0) (hc0 : l0.length ≤ c0) (h : qaS.f k l0 = some (r1, r2)) :
  Calls Tryz.prog 137 #[.slice A0 l0.length c0] w fun e w' => ∃ v0_ : Value, e = .returned (.tuple #[v0_, .bool r2]) ∧ Kd.R qaG 85 w' w.heap.size (fun _ => True) v0_ r1 ∧ Below w.heap.size w w' := by
 have qme := Tryz.underlying85; have HR0 := ak_ hr0; have HC0 := ak_ hc0; clear hr0 hc0; have HB := br_ w; have H : ((qbb.f l0).bind fun qav => (if qav = true then (qaS.l0 k (([] : List (qac))) l0 (l0.length : Int) 0) else (some (([] : List (qac)), false)))) = some (r1, r2) := h; clear h; obtain ⟨qav, A2, H⟩ := qaB H; (try dsimp only at H); by_cases c3 : qav = true; rotate_left
 ·replace c3 := Bool.eq_false_iff.mpr c3; subst c3; rw [if_neg ff_] at H; obtain ⟨rfl, rfl⟩ := qdQ H; go_enter Tryz.func137, Tryz.ntmps137
  go_wp2_with (first | (refine gl_ 8 Tryz.func53 #[.slice A0 l0.length c0] rfl qbJ ?_; (with_reducible refine (qbb.calls _ _ l0 false _ ?qaz ?qaA A2.1).mono ?_); (case qaz => exact qf0); (case qaA => exact qb9); rintro e w17 ⟨rfl, hb⟩; refine ⟨_, rfl, ?_⟩; replace HB := HB.mw hb; (try clear hb)))
  go_ret2
  exact ⟨_, qca, qhg, qao⟩
 subst c3; rw [if_pos rfl] at H
 obtain ⟨qim, hy_⟩ : ∃ y_ : List (qac), y_ = (([] : List (qac))) := ⟨_, rfl⟩
 replace H : (qaS.l0 k qim l0 (l0.length : Int) 0) = some (r1, r2) := qfb; have qgI := ak_ hy_; clear hy_; have H' := ak_ H; clear H; go_enter Tryz.func137, Tryz.ntmps137
 go_wp2_with (first | (refine gl_ 8 Tryz.func53 #[.slice A0 l0.length c0] rfl qbJ ?_; (with_reducible refine (qbb.calls _ _ l0 true _ ?qaz ?qaA A2.1).mono ?_); (case qaz => exact qf0); (case qaA => exact qb9); rintro e w4 ⟨rfl, hb⟩; refine ⟨_, rfl, ?_⟩; replace HB := HB.mw hb; (try clear hb)) | ((with_reducible refine qam (N := 10) rfl ?_); refine Kd.qhH qaG _ 85 ?hg (N := 10) ?hd (xs := ([] : List (qac))) (inner := []) (ok := fun _ => True) (okp := fun _ => True) ?hr ?hp (fun _ hk => hk) trivial (Below.refl _ _) (Nat.le_refl _) (by simp) ?_; (case hd => rfl); (case hg => rfl); (case hr => exact qa1); (case hp => exact (qep.none _ _)); intro qht w5 ho6 hb hg_ hnew_; clear hg_ hnew_; (first | rw [← qgI.1] at ho6 | (simp only [Int.reduceToNat] at ho6; rw [← qgI.1] at ho6)); have qbZ := ak_ (Kd.qaw ho6 (qab qao)); replace HB := HB.mw hb; clear hb ho6))
 go_loopg [4, 13] k (fun kq v4 v13 w' => ∃ (qcP : List (qac)) (qeT : Int), v13 = .int .i64 qeT ∧ qai (qaS.l0 kq qcP l0 (l0.length : Int) qeT = some (r1, r2)) ∧ qai (kq ≤ k) ∧ qai (Kd.R qaG 85 w' w.heap.size (fun _ => True) v4 qcP) ∧ qai (Below w.heap.size w w'))
 case atStart => exact ⟨(qim), (0), qay, H', ⟨Nat.le_refl _⟩, ⟨k83_⟩, ⟨qao⟩⟩
 case round =>
  clear H'; (try clear c3); obtain ⟨qcP, qeT, rfl, HA, HK1, qdp, HB⟩ := hrel
  cases gk with
  | zero => exact absurd HA.1 (by simp [qaS.l0])
  | succ k1 =>
   have H := HA.1; clear HA; simp only [qaS.l0] at H; by_cases c7 : qeT < (l0.length : Int); rotate_left
   ·rw [if_neg c7] at H; have qhx := decide_eq_false c7; clear c7; obtain ⟨rfl, rfl⟩ := qdQ H; go_wp2
    go_ret2
    exact ⟨_, qca, by (with_reducible repeat (first | apply Kd.qaq | apply Kd.qar | apply Kd.qax)); exact qdp.1, qao⟩
   rw [if_pos c7] at H; have qhx := decide_eq_true c7; clear c7; obtain ⟨c8, H⟩ := qct H; have qpc := decide_eq_true c8; clear c8; obtain ⟨c9, H⟩ := qct H; have qmQ := decide_eq_true c9; clear c9; obtain ⟨t107, A10, H⟩ := qaB H; (try dsimp only at H); obtain ⟨c11, H⟩ := qct H; have qoU := ak_ c11; clear c11
   obtain ⟨qjc, hy_⟩ : ∃ y_ : List (qac), y_ = (qcP ++ [(⟨(qad l0 qeT).f0, t107⟩ : qac)]) := ⟨_, rfl⟩
   replace H : (qaS.l0 k1 qjc l0 (l0.length : Int) (wrap64 (qeT + 1))) = some (r1, r2) := qfb; have qoX := ak_ hy_; clear hy_; have H' := ak_ H; clear H; have qhT : 0 ≤ (qeT : Int) := of_decide_eq_true qaL; have qhU : qeT < (l0.length : Int) := of_decide_eq_true qaL; obtain ⟨qeq, qnU, qcT, qpE⟩ := qc6 HR0.1 qeT qhT qhU
   cases qnU
   replace qcT := (HB.1.cell (World.block_lt_of_cell? w _ qcT)).trans qcT; replace qpE := (HB.1.cell (World.block_lt_of_cell? w _ qpE)).trans qpE; replace qhT := eq_true qhT; replace qhU := eq_true qhU
   try go_wp2_with (first | ((with_reducible refine qam (N := 6) rfl ?_); refine bx_ 6 rfl (cs := #[.int .i64 0, .int .i64 0]) (t := 85) qa1 ?_; intro qev hg w12 hbox hb; replace qdp := ak_ (Kd.qbs (Kd.qh0 qkq qev (Nat.le_of_eq hg.symm)) hb); have qcQ := ak_ (hbox); have qnv := ak_ (HB.ge hg); have qjg := ak_ (HB.ge hg); replace HB := HB.mw hb; clear hb hbox hg; obtain ⟨qiw, qix, qiy, qiz⟩ := qbl qcQ.1))
   have n0_ : qai (Kd.R qaG 85 ((w12.setCell ⟨qev, 0, none⟩ (.int .i64 ((qad l0 qeT).f0))).setCell ⟨qev, 1, none⟩ (.int .i64 ((qad l0 qeT).f1))) w.heap.size (fun k_ => k_ ≠ qev) u4 qcP) := ⟨by (with_reducible repeat (first | apply Kd.qaq | apply Kd.qar | apply Kd.qax)); exact Kd.qa2 (Kd.qco (p := ⟨qev, 1, none⟩) (Kd.qco (p := ⟨qev, 0, none⟩) (Kd.qa2 qdp.1 (fun k_ hk => (⟨hk, hk.2⟩ : _ ∧ k_ ≠ qev))) (fun _ hk => hk.2) (.int .i64 ((qad l0 qeT).f0))) (fun _ hk => hk.2) (.int .i64 ((qad l0 qeT).f1))) (fun _ hk => hk.1.2)⟩
   have n1_ : qai (((w12.setCell ⟨qev, 0, none⟩ (.int .i64 ((qad l0 qeT).f0))).setCell ⟨qev, 1, none⟩ (.int .i64 ((qad l0 qeT).f1))).heap[qev]? = some (.cells #[.int .i64 ((qad l0 qeT).f0), .int .i64 ((qad l0 qeT).f1)] 85 (0, 0))) := ⟨by (with_reducible repeat (first | refine qaj ?_ _ | refine qak ?_ | refine qag ?_ _)); refine qa9 (cs := #[.int .i64 ((qad l0 qeT).f0), .int .i64 0]) ?_ 1 _ rfl; (with_reducible repeat (first | refine qaj ?_ _ | refine qak ?_ | refine qag ?_ _)); refine qa9 (cs := #[.int .i64 0, .int .i64 0]) ?_ 0 _ rfl; apply_rules only [qcQ.1, qaj, qak, qag]⟩
   have n2_ : qai (Below w.heap.size w ((w12.setCell ⟨qev, 0, none⟩ (.int .i64 ((qad l0 qeT).f0))).setCell ⟨qev, 1, none⟩ (.int .i64 ((qad l0 qeT).f1)))) := ⟨qlJ⟩
   (try clear qdp); (try clear qcQ); (try clear HB)
   generalize ((w12.setCell ⟨qev, 0, none⟩ (.int .i64 ((qad l0 qeT).f0))).setCell ⟨qev, 1, none⟩ (.int .i64 ((qad l0 qeT).f1))) = w14 at n0_ n1_ n2_ ⊢
   have qdp := n0_; have qcQ := n1_; have HB := n2_; clear n0_ n1_ n2_; replace qdp := ak_ (Kd.qax qdp.1); replace qcQ := ak_ (qak qcQ.1); replace HB := ak_ (qah HB.1); refine qeS (n := 13) (S := fun w' => w'.cell? ⟨qev, 0, none⟩ = some (.int .i64 ((qad l0 qeT).f0)) ∧ w'.cell? ⟨qev, 1, none⟩ = some (.int .i64 ((qad l0 qeT).f1))) (ds := []) (rA_ [0, 13]) (by kernel_rfl) rfl rfl ⟨qd4 qcQ.1, qbA qcQ.1⟩ (fun hHeld => ?_); refine qc0 qaS.tab7 qaS.qmL (fun HT_ HW_ => ?_)
   generalize w14.drew = w15 at qdp qcQ HB hHeld ⊢
   refine pu_ 0 17 [1, 12] ?_; refine pu_ 1 18 [2, 11] ?_; refine pu_ 3 20 [2, 1, 1, 9] ?_; refine pu_ 6 23 [2, 1, 1, 2, 1, 6] ?_; refine qii 2 19 [4, 2, 1, 6] ?_; refine qii 4 21 [5, 1, 1, 6] ?_; refine pu_ 5 22 [7, 6] ?_; refine qii 7 24 [8, 5] ?_; refine qfC (i := 8) (N := some 25) (rA_ [9, 4]) rfl rfl (qcJ HT_.out (by kernel_rfl)) (by decide) (fun K hK => ?_); refine qfN Tryz.func185 (by kernel_rfl) rfl #[.int .i64 (wrap64 (-((qad l0 qeT).f1))), .int .i64 ((qad l0 qeT).f0)] (by rfl) rfl rfl qbJ ?_
   with_reducible refine (qfA.calls (wrap64 (-((qad l0 qeT).f1))) ((qad l0 qeT).f0) t107 _ A10.1).mono ?_
   rintro e w' ⟨rfl, ⟨nd, rfl⟩⟩; refine ⟨_, rfl, ?_⟩; refine hK.out _ _ ⟨qd4 qcQ.1, qbA qcQ.1⟩ (fun hHeld => ?_); clear hK K; refine nm_ 25 ?_; refine pu_ 9 26 [10, 3] ?_; refine qfC (i := 10) (N := some 27) (rA_ [11, 2]) rfl rfl (qcJ HT_.out (by kernel_rfl)) (by decide) (fun K hK => ?_); refine qi9 (w1 := ?_) (v := ?_) (by rfl) rfl ?_ ?_; rotate_left 2
   ·go_simp; constructor
    ·rfl
    rfl
   refine hK.out _ _ ⟨(qba (qag qcQ.1 _) 0).trans rfl, (qba (qag qcQ.1 _) 1).trans rfl⟩ (fun hHeld => ?_); clear hK K; refine nm_ 27 ?_; refine qfC (i := 11) (N := some 28) (rA_ [12, 1]) rfl rfl (qcJ HT_.out (by kernel_rfl)) (by decide) (fun K hK => ?_); refine Kd.qe4 qaG (w0 := w) w.heap.size (by rfl) (.tmp 17) (.tmp 27) 26 85 (.agg #[(.int .i64 0), (.int .i64 0)]) 16 rfl Tryz.underlying26 qfV rfl (by decide) (by omega) u4 qcP (⟨(qad l0 qeT).f0, t107⟩ : qac) [.int .i64 ((qad l0 qeT).f0), .int .i64 t107] (fun k_ => k_ ≠ qev) (fun _ => False) rfl rfl ?aP (fun _ hk => hk.elim) ?aF ?aO ?aB ?aS ?aL ?_
   (case aP => exact qc7 _ _ _ (⟨(qad l0 qeT).f0, t107⟩ : qac))
   (case aB => exact qlJ)
   (case aF => exact (fun k_ hk => Kd.qnY (g := qev) (o := .cells #[.int .i64 ((qad l0 qeT).f0), .int .i64 ((qad l0 qeT).f1)] 85 (0, 0)) (by apply_rules only [qcQ.1, qaj, qak, qag]) k_ hk))
   (case aO => exact qkq)
   (case aS => exact (qab qlJ))
   (case aL => have := qoU.1; omega)
   intro v109 w16 ho hb hg hat; rw [← qoX.1] at ho; replace qcQ := ak_ (qd9 (g := qev) (o := .cells #[.int .i64 ((qad l0 qeT).f0), .int .i64 ((qad l0 qeT).f1)] 85 (0, 0)) (by apply_rules only [qcQ.1, qaj, qak, qag]) hg (Kd.qnA qdp.1 (fun _ hk => hk))); replace HB := ak_ (hb); have qnw := ak_ (ho); clear qdp; clear ho hb hg hat; refine hK.out _ _ ⟨qd4 qcQ.1, qbA qcQ.1⟩ (fun hHeld => ?_); clear hK K; refine nm_ 28 ?_; refine pu_ 12 4 [13] ?_; refine qf5 (qeh HT_.out (by kernel_rfl)) ?_
   try go_wp2
   go_roundg k1
   case measure => have := HK1.1; omega
   case rel => exact ⟨(qjc), (wrap64 (qeT + 1)), qay, H', ⟨qc9⟩, ⟨by (with_reducible repeat (first | apply Kd.qaq | apply Kd.qar | apply Kd.qax)); exact Kd.qa2 qnw.1 (fun _ hk => trivial)⟩, ⟨qlJ⟩⟩
def qbo.l0 : Nat → List (qac) → Int → Int → List (qac) → Int → Option (Bool)
 | 0, _, _, _, _, _ => none
 | k + 1, x0, x1, x2, x7, x8 => if x8 < x2 then ((qcU.f x7 x8).bind fun qjB => (if qjB = true then (some false) else (if 0 ≤ x1 then (if x1 < (x0.length : Int) then (qbo.l0 k x0 x1 x2 x7 (wrap64 (x8 + ((qad x0 x1).f0)))) else (none)) else (none)))) else (some true)
def qbo.f (k : Nat) (l0 : List (qac)) (a1 : Int) (a2 : Int) : Option (Bool) := (some (([] : List (qac)) : List (qac))).bind fun qeW => (if qeW.length + l0.length < 8796093022208 then ((qcC.f (qeW ++ l0) a1 (wrap64 (a1 + 1))).bind fun t107 => (if 0 ≤ a1 then (if a1 < (l0.length : Int) then (qbo.l0 k l0 a1 a2 t107 ((qad l0 a1).f1)) else (none)) else (none))) else (none))
theorem qbo.calls (k : Nat) (A0 : Option Addr) (c0 : Nat) (l0 : List (qac)) (a1 : Int) (a2 : Int) (r : Bool) (w : World) (hr0 : Kd.C qaG w A0 l0.length l0) (hc0 : l0.length ≤ c0) (h : qbo.f k l0 a1 a2 = some r) :
  Calls Tryz.prog 198 #[.slice A0 l0.length c0, .int .i64 a1, .int .i64 a2] w fun e w' => e = .returned (.bool r) ∧ Below w.heap.size w w' := by
 have HR0 := ak_ hr0; have HC0 := ak_ hc0; clear hr0 hc0; have HB := br_ w; have H : ((some (([] : List (qac)) : List (qac))).bind fun qeW => (if qeW.length + l0.length < 8796093022208 then ((qcC.f (qeW ++ l0) a1 (wrap64 (a1 + 1))).bind fun t107 => (if 0 ≤ a1 then (if a1 < (l0.length : Int) then (qbo.l0 k l0 a1 a2 t107 ((qad l0 a1).f1)) else (none)) else (none))) else (none))) = some r := h; clear h
 obtain ⟨qeW, hy_⟩ : ∃ y_ : List (qac), y_ = (([] : List (qac))) := ⟨_, rfl⟩
 replace H : (if qeW.length + l0.length < 8796093022208 then ((qcC.f (qeW ++ l0) a1 (wrap64 (a1 + 1))).bind fun t107 => (if 0 ≤ a1 then (if a1 < (l0.length : Int) then (qbo.l0 k l0 a1 a2 t107 ((qad l0 a1).f1)) else (none)) else (none))) else (none)) = some r := qfb; have qet := ak_ hy_; clear hy_; obtain ⟨c4, H⟩ := qct H; have LMc4 := ak_ c4; clear c4
 obtain ⟨qgU, hy_⟩ : ∃ y_ : List (qac), y_ = (qeW ++ l0) := ⟨_, rfl⟩
 replace H : ((qcC.f qgU a1 (wrap64 (a1 + 1))).bind fun t107 => (if 0 ≤ a1 then (if a1 < (l0.length : Int) then (qbo.l0 k l0 a1 a2 t107 ((qad l0 a1).f1)) else (none)) else (none))) = some r := qfb; have qiQ := ak_ hy_; clear hy_; obtain ⟨t107, A5, H⟩ := qaB H; (try dsimp only at H); obtain ⟨c6, H⟩ := qct H; have qgc := decide_eq_true c6; clear c6; obtain ⟨c7, H⟩ := qct H; have qhx := decide_eq_true c7; clear c7; have H' := ak_ H; clear H; go_enter Tryz.func198, Tryz.ntmps198
 go_wp2_with (first | ((with_reducible refine qam (N := 9) rfl ?_); refine Kd.qhH qaG _ 85 ?hg (N := 9) ?hd (xs := ([] : List (qac))) (inner := []) (ok := fun _ => True) (okp := fun _ => True) ?hr ?hp (fun _ hk => hk) trivial (Below.refl _ _) (Nat.le_refl _) (by simp) ?_; (case hd => rfl); (case hg => rfl); (case hr => exact qa1); (case hp => exact (qep.none _ _)); intro qjd w8 ho9 hb hg_ hnew_; clear hg_ hnew_; (first | rw [← qet.1] at ho9 | (simp only [Int.reduceToNat] at ho9; rw [← qet.1] at ho9)); have qcI := ak_ (Kd.qaw ho9 (qab qao)); replace HB := HB.mw hb; clear hb ho9) | ((with_reducible refine qa5 (b := .append) (xs := #[.tmp 9, .tmp 10]) rfl ?_); at_builtin; refine Kd.qdS qaG (w0 := w) w.heap.size rfl (.tmp 9) (.tmp 10) 26 85 (.agg #[(.int .i64 0), (.int .i64 0)]) 16 rfl Tryz.underlying26 qfV rfl (by decide) (by omega) qjd qeW l0 _ _ _ (fun _ => True) (fun _ => False) rfl rfl ?aO ?aR (fun _ _ h => h) (fun _ h => h.elim) ?aF ?aB ?aS ?aL ?_; (case aR => repeat (first | exact (Kd.qd0 HR0.1 HB.1) | (with_reducible refine Kd.C_alloc ?_ _) | (with_reducible refine Kd.C_drewN ?_ _) | (with_reducible refine Kd.C_drew ?_))); (case aB => exact qao); (case aF => exact (fun _ _ => trivial)); (case aO => exact qoL); (case aS => exact (qab qao)); (case aL => have := LMc4.1; omega); intro v105 w10 ho hb hg hat; rw [← qiQ.1] at ho; replace HB := ak_ (hb); have qff := ak_ (ho); clear qcI; clear ho hb hg hat; obtain ⟨Ao11, co11, eo11⟩ := Kd.qaI qff.1; subst eo11) | (refine gl_ 15 Tryz.func123 #[.slice Ao11 qgU.length co11, .int .i64 a1, .int .i64 (wrap64 (a1 + 1))] rfl qbJ ?_; (refine (qcC.own _ _ w.heap.size qgU a1 (wrap64 (a1 + 1)) t107 _ (qab qao) k84_ A5.1).mono ?_); rintro e w12 ⟨v108, rfl, ho0, hg⟩; refine ⟨_, rfl, ?_⟩; have n1_ := ak_ ho0; have n2_ := ak_ (Below.grown qao hg (qab qao) (Kd.qfm k84_)); clear qff; clear HB; have qeg := n1_; have HB := n2_; clear n1_ n2_; (try clear hg ho0); have p110 : 0 ≤ (a1 : Int) := of_decide_eq_true qaL; have q110 : a1 < (l0.length : Int) := of_decide_eq_true qaL; obtain ⟨ad110, e110, qgq, qpG⟩ := qc6 HR0.1 a1 p110 q110; cases e110; replace qgq := (HB.1.cell (World.block_lt_of_cell? w _ qgq)).trans qgq; replace qpG := (HB.1.cell (World.block_lt_of_cell? w _ qpG)).trans qpG; replace p110 := eq_true p110; replace q110 := eq_true q110))
 go_loopg [8] k (fun kq v8 w' => ∃ (qdl : Int), v8 = .int .i64 qdl ∧ qai (qbo.l0 kq l0 a1 a2 t107 qdl = some r) ∧ qai (kq ≤ k) ∧ qai (Kd.R qaG 85 w' w.heap.size (fun _ => True) v108 t107) ∧ qai (Below w.heap.size w w'))
 case atStart => exact ⟨((qad l0 a1).f1), qay, H', ⟨Nat.le_refl _⟩, ⟨by (with_reducible repeat (first | apply Kd.qaq | apply Kd.qar | apply Kd.qax)); exact Kd.qa2 qeg.1 (fun _ hk => trivial)⟩, ⟨qao⟩⟩
 case round =>
  clear H'
  skip
  obtain ⟨qdl, rfl, HA, HK1, qiP, HB⟩ := hrel
  cases gk with
  | zero => exact absurd HA.1 (by simp [qbo.l0])
  | succ k1 =>
   have H := HA.1; clear HA; simp only [qbo.l0] at H; by_cases c13 : qdl < a2; rotate_left
   ·rw [if_neg c13] at H; have qmP := decide_eq_false c13; clear c13; obtain rfl := sj_ H; go_wp2
    go_ret
    exact ⟨qca, qao⟩
   rw [if_pos c13] at H; have qmP := decide_eq_true c13; clear c13; obtain ⟨qjB, A14, H⟩ := qaB H; (try dsimp only at H); by_cases c15 : qjB = true
   ·subst c15; rw [if_pos rfl] at H; obtain rfl := sj_ H; obtain ⟨Ao16, co16, eo16⟩ := Kd.qaI qiP.1; subst eo16
    go_wp2_with (first | (refine gl_ 33 Tryz.func199 #[.slice Ao16 t107.length co16, .int .i64 qdl] rfl qbJ ?_; (with_reducible refine (qcU.calls _ _ t107 qdl true _ ?qaz ?qaA A14.1).mono ?_); (case qaz => exact k44_); (case qaA => exact (Kd.qan qiP.1).2.1); rintro e w17 ⟨rfl, hb⟩; refine ⟨_, rfl, ?_⟩; replace qiP := qiP.mw hb; replace HB := HB.mw hb; (try clear hb)))
    go_ret
    exact ⟨qca, qao⟩
   replace c15 := Bool.eq_false_iff.mpr c15; subst c15; rw [if_neg ff_] at H; obtain ⟨c18, H⟩ := qct H; have qra := decide_eq_true c18; clear c18; obtain ⟨c19, H⟩ := qct H; have c19b0 := decide_eq_true c19; clear c19; have H' := ak_ H; clear H; obtain ⟨Ao20, co20, eo20⟩ := Kd.qaI qiP.1; subst eo20
   go_wp2_with (first | (refine gl_ 33 Tryz.func199 #[.slice Ao20 t107.length co20, .int .i64 qdl] rfl qbJ ?_; (with_reducible refine (qcU.calls _ _ t107 qdl false _ ?qaz ?qaA A14.1).mono ?_); (case qaz => exact k44_); (case qaA => exact (Kd.qan qiP.1).2.1); rintro e w21 ⟨rfl, hb⟩; refine ⟨_, rfl, ?_⟩; replace qiP := qiP.mw hb; replace HB := HB.mw hb; (try clear hb); have p112 : 0 ≤ (a1 : Int) := of_decide_eq_true qaL; have q112 : a1 < (l0.length : Int) := of_decide_eq_true qaL; obtain ⟨ad112, e112, qpH, qpI⟩ := qc6 HR0.1 a1 p112 q112; obtain rfl : ad110 = ad112 := (by injection e112); replace qpH := (HB.1.cell (World.block_lt_of_cell? w _ qpH)).trans qpH; replace qpI := (HB.1.cell (World.block_lt_of_cell? w _ qpI)).trans qpI; replace p112 := eq_true p112; replace q112 := eq_true q112))
   go_roundg k1
   case measure => have := HK1.1; omega
   case rel => exact ⟨(wrap64 (qdl + ((qad l0 a1).f0))), qay, H', ⟨qc9⟩, ⟨k91_⟩, ⟨qao⟩⟩
def qa7.l0 : Nat → Int → List (qac) → Int → Option ((List (qac)) × Bool)
 | 0, _, _, _ => none
 | k + 1, x4, x6, x7 => if x7 ≥ 0 then ((qbo.f k x6 x7 x4).bind fun t109 => (if t109 = true then ((qcC.f x6 x7 (wrap64 (x7 + 1))).bind fun qlA => (qa7.l0 k x4 qlA (wrap64 (x7 - 1)))) else (qa7.l0 k x4 x6 (wrap64 (x7 - 1))))) else (some (x6, true))
def qa7.f (k : Nat) (l0 : List (qac)) : Option ((List (qac)) × Bool) := (qcf.f k l0).bind fun qdw => (if qdw.2 = true then ((some (([] : List (qac)) : List (qac))).bind fun qiN => (if qiN.length + l0.length < 8796093022208 then ((some (qiN ++ l0 : List (qac))).bind fun qjH => (qa7.l0 k qdw.1 qjH (wrap64 ((qjH.length : Int) - 1)))) else (none))) else (some (([] : List (qac)), false)))
theorem qa7.calls (k : Nat) (A0 : Option Addr) (c0 : Nat) (l0 : List (qac)) (r1 : List (qac)) (r2 : Bool) (w : World) (hr0 : Kd.C qaG w A0 l0.length l0) (hc0 : l0.length ≤ c0) (h : qa7.f k l0 = some (r1, r2)) :
  Calls Tryz.prog 138 #[.slice A0 l0.length c0] w fun e w' => ∃ v0_ : Value, e = .returned (.tuple #[v0_, .bool r2]) ∧ Kd.R qaG 85 w' w.heap.size (fun _ => True) v0_ r1 ∧ Below w.heap.size w w' := by
 have HR0 := ak_ hr0; have HC0 := ak_ hc0; clear hr0 hc0; have HB := br_ w; have H : ((qcf.f k l0).bind fun qdw => (if qdw.2 = true then ((some (([] : List (qac)) : List (qac))).bind fun qiN => (if qiN.length + l0.length < 8796093022208 then ((some (qiN ++ l0 : List (qac))).bind fun qjH => (qa7.l0 k qdw.1 qjH (wrap64 ((qjH.length : Int) - 1)))) else (none))) else (some (([] : List (qac)), false)))) = some (r1, r2) := h; clear h; obtain ⟨⟨qav, qaQ⟩, A2, H⟩ := qaB H; (try dsimp only at H); by_cases c3 : qaQ = true; rotate_left
 ·replace c3 := Bool.eq_false_iff.mpr c3; subst c3; rw [if_neg ff_] at H; obtain ⟨rfl, rfl⟩ := qdQ H; go_enter Tryz.func138, Tryz.ntmps138
  go_wp2_with (first | (refine gl_ 10 Tryz.func140 #[.slice A0 l0.length c0] rfl qbJ ?_; (with_reducible refine (qcf.calls k _ _ l0 qav false _ ?qaz ?qaA A2.1).mono ?_); (case qaz => exact qf0); (case qaA => exact qb9); rintro e w19 ⟨rfl, hb⟩; refine ⟨_, rfl, ?_⟩; replace HB := HB.mw hb; (try clear hb)))
  go_ret2
  exact ⟨_, qca, qhg, qao⟩
 subst c3; rw [if_pos rfl] at H
 obtain ⟨qiN, hy_⟩ : ∃ y_ : List (qac), y_ = (([] : List (qac))) := ⟨_, rfl⟩
 replace H : (if qiN.length + l0.length < 8796093022208 then ((some (qiN ++ l0 : List (qac))).bind fun qjH => (qa7.l0 k qav qjH (wrap64 ((qjH.length : Int) - 1)))) else (none)) = some (r1, r2) := qfb; have qj8 := ak_ hy_; clear hy_; obtain ⟨c4, H⟩ := qct H; have LMc4 := ak_ c4; clear c4
 obtain ⟨qjH, hy_⟩ : ∃ y_ : List (qac), y_ = (qiN ++ l0) := ⟨_, rfl⟩
 replace H : (qa7.l0 k qav qjH (wrap64 ((qjH.length : Int) - 1))) = some (r1, r2) := qfb; have qmF := ak_ hy_; clear hy_; have H' := ak_ H; clear H; go_enter Tryz.func138, Tryz.ntmps138
 go_wp2_with (first | (refine gl_ 10 Tryz.func140 #[.slice A0 l0.length c0] rfl qbJ ?_; (with_reducible refine (qcf.calls k _ _ l0 qav true _ ?qaz ?qaA A2.1).mono ?_); (case qaz => exact qf0); (case qaA => exact qb9); rintro e w5 ⟨rfl, hb⟩; refine ⟨_, rfl, ?_⟩; replace HB := HB.mw hb; (try clear hb)) | ((with_reducible refine qam (N := 15) rfl ?_); refine Kd.qhH qaG _ 85 ?hg (N := 15) ?hd (xs := ([] : List (qac))) (inner := []) (ok := fun _ => True) (okp := fun _ => True) ?hr ?hp (fun _ hk => hk) trivial (Below.refl _ _) (Nat.le_refl _) (by simp) ?_; (case hd => rfl); (case hg => rfl); (case hr => exact qa1); (case hp => exact (qep.none _ _)); intro qrJ w6 ho7 hb hg_ hnew_; clear hg_ hnew_; (first | rw [← qj8.1] at ho7 | (simp only [Int.reduceToNat] at ho7; rw [← qj8.1] at ho7)); have qes := ak_ (Kd.qaw ho7 (qab qao)); replace HB := HB.mw hb; clear hb ho7) | ((with_reducible refine qa5 (b := .append) (xs := #[.tmp 15, .tmp 16]) rfl ?_); at_builtin; refine Kd.qdS qaG (w0 := w) w.heap.size rfl (.tmp 15) (.tmp 16) 26 85 (.agg #[(.int .i64 0), (.int .i64 0)]) 16 rfl Tryz.underlying26 qfV rfl (by decide) (by omega) qrJ qiN l0 _ _ _ (fun _ => True) (fun _ => False) rfl rfl ?aO ?aR (fun _ _ h => h) (fun _ h => h.elim) ?aF ?aB ?aS ?aL ?_; (case aR => repeat (first | exact (Kd.qd0 HR0.1 HB.1) | (with_reducible refine Kd.C_alloc ?_ _) | (with_reducible refine Kd.C_drewN ?_ _) | (with_reducible refine Kd.C_drew ?_))); (case aB => exact qao); (case aF => exact (fun _ _ => trivial)); (case aO => exact (by apply_rules only [qes.1, Kd.qaq, Kd.qar, Kd.qax])); (case aS => exact (qab qao)); (case aL => have := LMc4.1; omega); intro v107 w8 ho hb hg hat; rw [← qmF.1] at ho; replace HB := ak_ (hb); have qgx := ak_ (ho); clear qes; clear ho hb hg hat; obtain ⟨Ao9, co9, eo9⟩ := Kd.qaI qgx.1; subst eo9))
 go_loopg [6, 7] k (fun kq v6 v7 w' => ∃ (qdq : List (qac)) (qdE : Int), v7 = .int .i64 qdE ∧ qai (qa7.l0 kq qav qdq qdE = some (r1, r2)) ∧ qai (kq ≤ k) ∧ qai (Kd.R qaG 85 w' w.heap.size (fun _ => True) v6 qdq) ∧ qai (Below w.heap.size w w'))
 case atStart => exact ⟨(qjH), (wrap64 ((qjH.length : Int) - 1)), qay, H', ⟨Nat.le_refl _⟩, ⟨k85_⟩, ⟨qao⟩⟩
 case round =>
  clear H'; (try clear c3); (try clear c4); obtain ⟨qdq, qdE, rfl, HA, HK1, qfH, HB⟩ := hrel
  cases gk with
  | zero => exact absurd HA.1 (by simp [qa7.l0])
  | succ k1 =>
   have H := HA.1; clear HA; simp only [qa7.l0] at H; by_cases c10 : qdE ≥ 0; rotate_left
   ·rw [if_neg c10] at H; have qgY : decide (0 ≤ qdE) = false := decide_eq_false c10; clear c10; obtain ⟨rfl, rfl⟩ := qdQ H; go_wp2
    go_ret2
    exact ⟨_, qca, by (with_reducible repeat (first | apply Kd.qaq | apply Kd.qar | apply Kd.qax)); exact qfH.1, qao⟩
   rw [if_pos c10] at H; have qgY : decide (0 ≤ qdE) = true := decide_eq_true c10; clear c10; obtain ⟨t109, A11, H⟩ := qaB H; (try dsimp only at H); by_cases c12 : t109 = true
   ·subst c12; rw [if_pos rfl] at H; obtain ⟨qlA, A13, H⟩ := qaB H; (try dsimp only at H); have H' := ak_ H; clear H; obtain ⟨Ao14, co14, eo14⟩ := Kd.qaI qfH.1; subst eo14
    go_wp2_with (first | (refine gl_ 28 Tryz.func198 #[.slice Ao14 qdq.length co14, .int .i64 qdE, .int .i64 qav] rfl qbJ ?_; (with_reducible refine (qbo.calls k1 _ _ qdq qdE qav true _ ?qaz ?qaA A11.1).mono ?_); (case qaz => repeat (first | exact (Kd.qan qfH.1).2.2 | (with_reducible refine Kd.C_alloc ?_ _) | (with_reducible refine Kd.C_drewN ?_ _) | (with_reducible refine Kd.C_drew ?_))); (case qaA => exact (Kd.qan qfH.1).2.1); rintro e w15 ⟨rfl, hb⟩; refine ⟨_, rfl, ?_⟩; replace qfH := qfH.mw hb; replace HB := HB.mw hb; (try clear hb)) | (refine gl_ 33 Tryz.func123 #[.slice Ao14 qdq.length co14, .int .i64 qdE, .int .i64 (wrap64 (qdE + 1))] rfl qbJ ?_; (refine (qcC.own _ _ w.heap.size qdq qdE (wrap64 (qdE + 1)) qlA _ (qab qao) qpL A13.1).mono ?_); rintro e w16 ⟨v111, rfl, ho0, hg⟩; refine ⟨_, rfl, ?_⟩; have n1_ := ak_ ho0; have n2_ := ak_ (Below.grown qao hg (qab qao) (Kd.qfm qpL)); clear qfH; clear HB; have qrX := n1_; have HB := n2_; clear n1_ n2_; (try clear hg ho0)))
    go_roundg k1
    case measure => have := HK1.1; omega
    case rel => exact ⟨(qlA), (wrap64 (qdE - 1)), qay, H', ⟨qc9⟩, ⟨by (with_reducible repeat (first | apply Kd.qaq | apply Kd.qar | apply Kd.qax)); exact Kd.qa2 qrX.1 (fun _ hk => trivial)⟩, ⟨qao⟩⟩
   replace c12 := Bool.eq_false_iff.mpr c12; subst c12; rw [if_neg ff_] at H; have H' := ak_ H; clear H; obtain ⟨qrV, co17, eo17⟩ := Kd.qaI qfH.1; subst eo17
   go_wp2_with (first | (refine gl_ 28 Tryz.func198 #[.slice qrV qdq.length co17, .int .i64 qdE, .int .i64 qav] rfl qbJ ?_; (with_reducible refine (qbo.calls k1 _ _ qdq qdE qav false _ ?qaz ?qaA A11.1).mono ?_); (case qaz => repeat (first | exact (Kd.qan qfH.1).2.2 | (with_reducible refine Kd.C_alloc ?_ _) | (with_reducible refine Kd.C_drewN ?_ _) | (with_reducible refine Kd.C_drew ?_))); (case qaA => exact (Kd.qan qfH.1).2.1); rintro e w18 ⟨rfl, hb⟩; refine ⟨_, rfl, ?_⟩; replace qfH := qfH.mw hb; replace HB := HB.mw hb; (try clear hb)))
   go_roundg k1
   case measure => have := HK1.1; omega
   case rel => exact ⟨(qdq), (wrap64 (qdE - 1)), qay, H', ⟨qc9⟩, ⟨qpL⟩, ⟨qao⟩⟩
def qdU.f (k : Nat) (l0 : List (qac)) : Option (List Int × Bool) := (qbW.f k l0).bind fun qdw => (if qdw.2.2 = true then (some (qdw.2.1, true)) else (some (([] : List Int), false)))
theorem qdU.calls (k : Nat) (A0 : Option Addr) (c0 : Nat) (l0 : List (qac)) (r1 : List Int) (r2 : Bool) (w : World) (hr0 : Kd.C qaG w A0 l0.length l0) (hc0 : l0.length ≤ c0) (h : qdU.f k l0 = some (r1, r2)) :
  Calls Tryz.prog 141 #[.slice A0 l0.length c0] w fun e w' => ∃ v0_ : Value, e = .returned (.tuple #[v0_, .bool r2]) ∧ Kd.R (Kd.int .i64) 3 w' w.heap.size (fun _ => True) v0_ r1 ∧ Below w.heap.size w w' := by
 have hu169 := Tryz.underlying169; have HR0 := ak_ hr0; have HC0 := ak_ hc0; clear hr0 hc0; have HB := br_ w; have H : ((qbW.f k l0).bind fun qdw => (if qdw.2.2 = true then (some (qdw.2.1, true)) else (some (([] : List Int), false)))) = some (r1, r2) := h; clear h; obtain ⟨⟨qav, qaQ, t105⟩, A2, H⟩ := qaB H; (try dsimp only at H); by_cases c3 : t105 = true
 ·subst c3; rw [if_pos rfl] at H; obtain ⟨rfl, rfl⟩ := qdQ H; go_enter Tryz.func141, Tryz.ntmps141
  go_wp2_with (first | (refine gl_ 8 Tryz.func187 #[.slice A0 l0.length c0] rfl qbJ ?_; (with_reducible refine (qbW.calls k _ _ l0 qav qaQ true _ ?qaz ?qaA A2.1).mono ?_); (case qaz => exact qf0); (case qaA => exact qb9); rintro e w4 ⟨qht, rfl, ho0, hb⟩; refine ⟨_, rfl, ?_⟩; have qbZ := ak_ (Kd.qaw ho0 (qab qao)); replace HB := HB.mw hb; (try clear hb ho0)) | ((with_reducible refine qam (N := 4) rfl ?_); refine bx_ 4 rfl (cs := #[.int .i64 0, .slice none 0 0]) (t := 169) qa1 ?_; intro qev hg w5 hbox hb; replace qbZ := qbZ.mw hb; have qcQ := ak_ (hbox); have qnv := ak_ (HB.ge hg); have qjg := ak_ (HB.ge hg); replace HB := HB.mw hb; clear hb hbox hg; obtain ⟨qkV, qkW, qk0, qk1⟩ := qbl qcQ.1; obtain ⟨Ao7, co7, eo7⟩ := Kd.qaI qbZ.1; subst eo7))
  go_ret2
  exact ⟨_, qca, by (with_reducible repeat (first | apply Kd.qaq | apply Kd.qar | apply Kd.qax)); exact Kd.qa2 (Kd.qco (p := ⟨qev, 1, none⟩) (Kd.qco (p := ⟨qev, 0, none⟩) (Kd.qcc qbZ.1 qcQ.1 (by decide)) (fun _ hk => hk.2) (.int .i64 qav)) (fun _ hk => hk.2) (.slice Ao7 qaQ.length co7)) (fun _ hk => trivial), qlJ⟩
 replace c3 := Bool.eq_false_iff.mpr c3; subst c3; rw [if_neg ff_] at H; obtain ⟨rfl, rfl⟩ := qdQ H; go_enter Tryz.func141, Tryz.ntmps141
 go_wp2_with (first | (refine gl_ 8 Tryz.func187 #[.slice A0 l0.length c0] rfl qbJ ?_; (with_reducible refine (qbW.calls k _ _ l0 qav qaQ false _ ?qaz ?qaA A2.1).mono ?_); (case qaz => exact qf0); (case qaA => exact qb9); rintro e w8 ⟨qht, rfl, ho0, hb⟩; refine ⟨_, rfl, ?_⟩; have qbZ := ak_ (Kd.qaw ho0 (qab qao)); replace HB := HB.mw hb; (try clear hb ho0)) | ((with_reducible refine qam (N := 4) rfl ?_); refine bx_ 4 rfl (cs := #[.int .i64 0, .slice none 0 0]) (t := 169) qa1 ?_; intro qev hg w9 hbox hb; replace qbZ := qbZ.mw hb; have qcQ := ak_ (hbox); have qnv := ak_ (HB.ge hg); have qjg := ak_ (HB.ge hg); replace HB := HB.mw hb; clear hb hbox hg; obtain ⟨qkT, qkU, qkY, qkZ⟩ := qbl qcQ.1; obtain ⟨Ao11, co11, eo11⟩ := Kd.qaI qbZ.1; subst eo11))
 go_ret2
 exact ⟨_, qca, qhg, qlJ⟩
def qaN.l0 : Nat → List Int → List Int → Int → Int → Int → List Int → Option (List Int)
 | 0, _, _, _, _, _, _ => none
 | k + 1, x3, x8, x9, x10, qqb, qjG => if x10 < x9 then (if 0 ≤ x10 then (if x10 < (x8.length : Int) then (if (wrap64 (x10 + 1)) < (qjG.length : Int) then (if 0 ≤ (wrap64 (x10 + 1)) then (if x3.length < 17592186044416 then (qaN.l0 k (x3 ++ [wrap64 ((rd qjG (wrap64 (x10 + 1))) - (rd x8 x10))]) x8 x9 (wrap64 (x10 + 1)) qqb qjG) else (none)) else (none)) else (if 0 < (qjG.length : Int) then (if x3.length < 17592186044416 then (qaN.l0 k (x3 ++ [wrap64 ((wrap64 ((rd qjG 0) + qqb)) - (rd x8 x10))]) x8 x9 (wrap64 (x10 + 1)) qqb qjG) else (none)) else (none))) else (none)) else (none)) else (some x3)
def qaN.f (k : Nat) (qbK : Int) (qfO : List Int) : Option (List Int) := qaN.l0 k (([] : List Int)) qfO (qfO.length : Int) 0 qbK qfO
def qaN.T7 : Bool × List (List Nat × List Nat) := (true, [([], []), ([], []), ([1], [1]), ([2], [2]), ([3], [3]), ([], []), ([5], [5]), ([4, 6], [4, 6]), ([], []), ([7, 8], [7, 8]), ([9], [9]), ([0, 10], [0, 10]), ([11, 11, 0, 1, 2, 3, 4, 5, 6, 7, 8, 9, 10, 11], [0, 11])])
def qaN.B7 : List Nat := [0, 0, 2, 6, 14, 0, 32, 126, 0, 510, 1022, 2047, 4095]
theorem qaN.tab7 : qhC .any (opsOf Tryz.f201 7) = qaN.T7 := by kernel_rfl
theorem qaN.qmL : qeG qaN.T7.2 qaN.B7 = true := by kernel_rfl
theorem qaN.calls (k : Nat) (qbK : Int) (A0_1 : Option Addr) (c0_1 : Nat) (qfO : List Int) (r : List Int) (w : World) (hr0_1 : Kd.C (Kd.int .i64) w A0_1 qfO.length qfO) (hc0_1 : qfO.length ≤ c0_1) (h : qaN.f k qbK qfO = some r) :
  Calls Tryz.prog 201 #[.agg #[.int .i64 qbK, .slice A0_1 qfO.length c0_1]] w fun e w' => ∃ v0_ : Value, e = .returned (v0_) ∧ Kd.R (Kd.int .i64) 3 w' w.heap.size (fun _ => True) v0_ r ∧ Below w.heap.size w w' := by
 have hu169 := Tryz.underlying169; have HR0_1 := ak_ hr0_1; have HC0_1 := ak_ hc0_1; clear hr0_1 hc0_1; have HB := br_ w; have H : (qaN.l0 k (([] : List Int)) qfO (qfO.length : Int) 0 qbK qfO) = some r := h; clear h
 obtain ⟨qim, hy_⟩ : ∃ y_ : List Int, y_ = (([] : List Int)) := ⟨_, rfl⟩
 replace H : (qaN.l0 k qim qfO (qfO.length : Int) 0 qbK qfO) = some r := qfb; have qgI := ak_ hy_; clear hy_; have H' := ak_ H; clear H; go_enter Tryz.func201, Tryz.ntmps201
 go_wp2_with (first | ((with_reducible refine qam (N := 1) rfl ?_); refine bx_ 1 rfl (cs := #[.int .i64 qbK, .slice A0_1 qfO.length c0_1]) (t := 169) qa1 ?_; intro qbD hg w2 hbox hb; have qas := ak_ (hbox); have qdO := ak_ (HB.ge hg); have qdz := ak_ (HB.ge hg); replace HB := HB.mw hb; clear hb hbox hg) | ((with_reducible refine qam (N := 6) rfl ?_); refine li_ (Kd.int .i64) 3 6 rfl (xs := ([] : List Int)) qa1 ?_; intro qht w3 ho4 hb; (first | rw [← qgI.1] at ho4 | (simp only [Int.reduceToNat] at ho4; rw [← qgI.1] at ho4)); have qbZ := ak_ (Kd.qaw ho4 (qab qcw)); replace qas := qas.mw hb; replace HB := ak_ (qaa qcw hb); clear hb ho4; obtain ⟨qsX, qsY, qtd, qte⟩ := qbl qas.1))
 go_loopg [3, 10] k (fun kq v3 v10 w' => ∃ (qbx : List Int) (qcS : Int), v10 = .int .i64 qcS ∧ qai (qaN.l0 kq qbx qfO (qfO.length : Int) qcS qbK qfO = some r) ∧ qai (kq ≤ k) ∧ qai (Kd.R (Kd.int .i64) 3 w' w.heap.size (fun _ => True) v3 qbx) ∧ qai (w'.heap[qbD]? = some (.cells #[.int .i64 qbK, (.slice A0_1 qfO.length c0_1)] 169 (0, 0))) ∧ qai (Below w.heap.size w w'))
 case atStart => exact ⟨(qim), (0), qay, H', ⟨Nat.le_refl _⟩, ⟨k83_⟩, ⟨qmg⟩, ⟨qcw⟩⟩
 case round =>
  clear H'; (try clear qsX); (try clear qsY); (try clear qtd); (try clear qte); obtain ⟨qbx, qcS, rfl, HA, HK1, qdu, qas, HB⟩ := hrel
  cases gk with
  | zero => exact absurd HA.1 (by simp [qaN.l0])
  | succ k1 =>
   have H := HA.1; clear HA; simp only [qaN.l0] at H; by_cases c6 : qcS < (qfO.length : Int); rotate_left
   ·rw [if_neg c6] at H; have qgc := decide_eq_false c6; clear c6; obtain rfl := sj_ H; go_wp2
    go_ret
    exact ⟨_, qca, k64_, qcw⟩
   rw [if_pos c6] at H; have qgc := decide_eq_true c6; clear c6; obtain ⟨c7, H⟩ := qct H; have qhx := decide_eq_true c7; clear c7; obtain ⟨c8, H⟩ := qct H; have qpc := decide_eq_true c8; clear c8; by_cases c9 : (wrap64 (qcS + 1)) < (qfO.length : Int)
   ·rw [if_pos c9] at H; have qmQ := decide_eq_true c9; clear c9
    obtain ⟨qkg, qkf⟩ : ∃ j_ : Int, (wrap64 (qcS + 1)) = j_ := ⟨_, rfl⟩
    replace H : (if 0 ≤ (qkg) then (if qbx.length < 17592186044416 then (qaN.l0 k1 (qbx ++ [wrap64 ((rd qfO (qkg)) - (rd qfO qcS))]) qfO (qfO.length : Int) qkg qbK qfO) else (none)) else (none)) = some r := by first | (rw [qkf] at H; exact H) | (simp only [qkf] at H ⊢; exact H)
    (try rw [qkf] at qmQ); have hji10w : (IntKind.i64.wrap (qcS + 1)) = qkg := (qec _).trans qkf; obtain ⟨c11, H⟩ := qct H; have qgK := decide_eq_true c11; clear c11; obtain ⟨c12, H⟩ := qct H; have LMc12 := ak_ c12; clear c12
    obtain ⟨qfZ, hy_⟩ : ∃ y_ : List Int, y_ = (qbx ++ [wrap64 ((rd qfO (qkg)) - (rd qfO qcS))]) := ⟨_, rfl⟩
    replace H : (qaN.l0 k1 qfZ qfO (qfO.length : Int) qkg qbK qfO) = some r := qfb; have qj9 := ak_ hy_; clear hy_; have H' := ak_ H; clear H; have qhT : 0 ≤ (qcS : Int) := of_decide_eq_true qaL; have qhU : qcS < (qfO.length : Int) := of_decide_eq_true qaL; obtain ⟨qeq, qnU, qcT⟩ := Kd.qew HR0_1.1 qcS qhT qhU
    cases qnU
    replace qcT := (HB.1.cell (World.block_lt_of_cell? w _ qcT)).trans qcT; replace qhT := eq_true qhT; replace qhU := eq_true qhU; obtain ⟨qiw, qix, qiy, qiz⟩ := qbl qas.1; have qfW : 0 ≤ ((qkg) : Int) := of_decide_eq_true qaL; have qfX : (qkg) < (qfO.length : Int) := of_decide_eq_true qaL; obtain ⟨qg4, qke, qcu⟩ := Kd.qew HR0_1.1 (qkg) qfW qfX
    obtain rfl : qeq = qg4 := (by injection qke)
    replace qcu := (HB.1.cell (World.block_lt_of_cell? w _ qcu)).trans qcu; replace qfW := eq_true qfW; replace qfX := eq_true qfX
    go_wp2_with (first | ((with_reducible refine qa5 (b := .append) (xs := #[.tmp 21, .tmp 30]) rfl ?_); at_builtin; refine Kd.qc8 (Kd.int .i64) (w0 := w) w.heap.size rfl (.tmp 21) (.tmp 30) 48 3 (.int .i64 0) 8 rfl Tryz.underlying48 info3 rfl (by decide) (by omega) u3 qbx (wrap64 ((rd qfO (qkg)) - (rd qfO qcS))) [.int .i64 (wrap64 ((rd qfO (qkg)) - (rd qfO qcS)))] (fun _ => True) (fun _ => False) rfl rfl ?aP (fun _ hk => hk.elim) ?aF ?aO ?aB ?aS ?aL ?_; (case aP => exact rfl); (case aB => exact qcw); (case aF => exact (fun _ _ => trivial)); (case aO => exact qib); (case aS => exact (qab qcw)); (case aL => have := LMc12.1; omega); intro v108 w14 ho hb hg hat; rw [← qj9.1] at ho; replace qas := ak_ (qd9 (g := qbD) (o := .cells #[.int .i64 qbK, .slice (some qeq) qfO.length c0_1] 169 (0, 0)) qmg hg (Kd.qo1 qdu.1 qas.1 (by decide))); replace HB := ak_ (hb); have qeg := ak_ (ho); clear qdu; clear ho hb hg hat))
    go_roundg k1
    case measure => have := HK1.1; omega
    case rel => exact ⟨(qfZ), (qkg), (by first | rfl | (simp; done) | (simp only [← qkf] <;> (first | rfl | simp)) | (simp [*]; done)), H', ⟨qc9⟩, ⟨by apply_rules only [qeg.1, Kd.qaq, Kd.qar, Kd.qax]⟩, ⟨qmg⟩, ⟨qcw⟩⟩
   rw [if_neg c9] at H; have qmQ := decide_eq_false c9; clear c9; obtain ⟨c15, H⟩ := qct H; have qnH := decide_eq_true c15; have qpb : decide (0 < qfO.length) = true := decide_eq_true (by omega); clear c15; obtain ⟨c16, H⟩ := qct H; have LMc16 := ak_ c16; clear c16
   obtain ⟨qiO, hy_⟩ : ∃ y_ : List Int, y_ = (qbx ++ [wrap64 ((wrap64 ((rd qfO 0) + qbK)) - (rd qfO qcS))]) := ⟨_, rfl⟩
   replace H : (qaN.l0 k1 qiO qfO (qfO.length : Int) (wrap64 (qcS + 1)) qbK qfO) = some r := qfb; have Ny111 := ak_ hy_; clear hy_; have H' := ak_ H; clear H; have qhT : 0 ≤ (qcS : Int) := of_decide_eq_true qaL; have qhU : qcS < (qfO.length : Int) := of_decide_eq_true qaL; obtain ⟨qeq, qnU, qcT⟩ := Kd.qew HR0_1.1 qcS qhT qhU
   cases qnU
   replace qcT := (HB.1.cell (World.block_lt_of_cell? w _ qcT)).trans qcT; replace qhT := eq_true qhT; replace qhU := eq_true qhU; obtain ⟨qsR, qsS, qs7, qs8⟩ := qbl qas.1
   try go_wp2
   replace qdu := ak_ (Kd.qax qdu.1); replace qas := ak_ (qak qas.1); replace HB := ak_ (qah HB.1)
   have p110 : 0 ≤ (0 : Int) := (by omega)
   have q110 : 0 < (qfO.length : Int) := of_decide_eq_true qaL; obtain ⟨ad110, e110, qgq⟩ := Kd.qew HR0_1.1 0 p110 q110; have qgp := qgq; (try rw [show ((0 : Int)).toNat = 0 from rfl] at qgp); (try rw [show 0 * 1 = 0 from rfl] at qgp); (try rw [Addr.add_zero'] at qgp)
   obtain rfl : qeq = ad110 := (by injection e110)
   have qi110 : (0 < qfO.length) = True := eq_true (by omega); (try rw [show ((0 : Int)).toNat = 0 from rfl] at qgq); (try rw [Addr.add_zero'] at qgq); replace qgq := (HB.1.cell (World.block_lt_of_cell? w _ qgq)).trans qgq; replace p110 := eq_true p110; replace q110 := eq_true q110; refine qeS (n := 13) (S := fun w' => w'.cell? ⟨qbD, 0, none⟩ = some (.int .i64 qbK) ∧ w'.cell? ⟨qbD, 1, none⟩ = some (.slice (some qeq) qfO.length c0_1) ∧ w'.cell? qeq = some (.int .i64 (rd qfO 0))) (ds := []) (rA_ [0, 13]) (by kernel_rfl) rfl rfl ⟨qd4 qas.1, qbA qas.1, ((HB.1.cell (World.block_lt_of_cell? w _ qgp)).trans qgp)⟩ (fun hHeld => ?_); refine qc0 qaN.tab7 qaN.qmL (fun HT_ HW_ => ?_)
   generalize wr.drew = w18 at qdu qas HB qgq hHeld ⊢
   refine pu_ 0 32 [1, 12] ?_; refine pu_ 1 33 [2, 11] ?_; refine pu_ 5 37 [2, 3, 1, 7] ?_; refine pu_ 8 40 [2, 3, 1, 2, 1, 4] ?_; refine ta3_ 2 34 [3, 2, 1, 2, 1, 4] ?_; refine pu_ 3 35 [4, 1, 1, 2, 1, 4] ?_; refine ta3_ 4 36 [6, 2, 1, 4] ?_; refine ta3_ 6 38 [7, 1, 1, 4] ?_; refine pu_ 7 39 [9, 4] ?_; refine pu_ 9 41 [10, 3] ?_; refine qfC (i := 10) (N := some 42) (rA_ [11, 2]) rfl rfl (qcJ HT_.out (by kernel_rfl)) (by decide) (fun K hK => ?_); refine qi9 (w1 := ?_) (v := ?_) (by rfl) rfl ?_ ?_; rotate_left 2
   ·go_simp; constructor
    ·rfl
    rfl
   refine hK.out _ _ ⟨(qba (qag qas.1 _) 0).trans rfl, (qba (qag qas.1 _) 1).trans rfl, (World.cell?_alloc_lt _ _ _ (World.block_lt_of_cell? _ _ (((HB.1.cell (World.block_lt_of_cell? w _ qgp)).trans qgp)))).trans (((HB.1.cell (World.block_lt_of_cell? w _ qgp)).trans qgp))⟩ (fun hHeld => ?_); clear hK K; refine nm_ 42 ?_; refine qfC (i := 11) (N := some 43) (rA_ [12, 1]) rfl rfl (qcJ HT_.out (by kernel_rfl)) (by decide) (fun K hK => ?_); refine Kd.qe4 (Kd.int .i64) (w0 := w) w.heap.size (by rfl) (.tmp 32) (.tmp 42) 48 3 (.int .i64 0) 8 rfl Tryz.underlying48 info3 rfl (by decide) (by omega) u3 qbx (wrap64 ((wrap64 ((rd qfO 0) + qbK)) - (rd qfO qcS))) [.int .i64 (wrap64 ((wrap64 ((rd qfO 0) + qbK)) - (rd qfO qcS)))] (fun _ => True) (fun _ => False) rfl rfl ?aP (fun _ hk => hk.elim) ?aF ?aO ?aB ?aS ?aL ?_
   (case aP => exact rfl)
   (case aB => exact qcw)
   (case aF => exact (fun _ _ => trivial))
   (case aO => exact qib)
   (case aS => exact (qab qcw))
   (case aL => have := LMc16.1; omega)
   intro v112 w19 ho hb hg hat; rw [← Ny111.1] at ho; replace qas := ak_ (qd9 (g := qbD) (o := .cells #[.int .i64 qbK, .slice (some qeq) qfO.length c0_1] 169 (0, 0)) qmg hg (Kd.qo1 qdu.1 qas.1 (by decide))); replace HB := ak_ (hb); have qq4 := ak_ (ho); clear qdu; clear ho hb hg hat; refine hK.out _ _ ⟨qd4 qas.1, qbA qas.1, ((HB.1.cell (World.block_lt_of_cell? w _ qgp)).trans qgp)⟩ (fun hHeld => ?_); clear hK K; refine nm_ 43 ?_; refine pu_ 12 3 [13] ?_; refine qf5 (qeh HT_.out (by kernel_rfl)) ?_
   try go_wp2
   go_roundg k1
   case measure => have := HK1.1; omega
   case rel => exact ⟨(qiO), (wrap64 (qcS + 1)), qay, H', ⟨qc9⟩, ⟨by apply_rules only [qq4.1, Kd.qaq, Kd.qar, Kd.qax]⟩, ⟨qmg⟩, ⟨qcw⟩⟩
def qed.f (k : Nat) (l0 : List (qac)) : Option (List Int × Bool) := (qbW.f k l0).bind fun qdw => (if qdw.2.2 = true then ((qaN.f k qdw.1 qdw.2.1).bind fun t107 => (some (t107, true))) else (some (([] : List Int), false)))
theorem qed.calls (k : Nat) (A0 : Option Addr) (c0 : Nat) (l0 : List (qac)) (r1 : List Int) (r2 : Bool) (w : World) (hr0 : Kd.C qaG w A0 l0.length l0) (hc0 : l0.length ≤ c0) (h : qed.f k l0 = some (r1, r2)) :
  Calls Tryz.prog 142 #[.slice A0 l0.length c0] w fun e w' => ∃ v0_ : Value, e = .returned (.tuple #[v0_, .bool r2]) ∧ Kd.R (Kd.int .i64) 3 w' w.heap.size (fun _ => True) v0_ r1 ∧ Below w.heap.size w w' := by
 have hu169 := Tryz.underlying169; have HR0 := ak_ hr0; have HC0 := ak_ hc0; clear hr0 hc0; have HB := br_ w; have H : ((qbW.f k l0).bind fun qdw => (if qdw.2.2 = true then ((qaN.f k qdw.1 qdw.2.1).bind fun t107 => (some (t107, true))) else (some (([] : List Int), false)))) = some (r1, r2) := h; clear h; obtain ⟨⟨qav, qaQ, t105⟩, A2, H⟩ := qaB H; (try dsimp only at H); by_cases c3 : t105 = true
 ·subst c3; rw [if_pos rfl] at H; obtain ⟨t107, A4, H⟩ := qaB H; (try dsimp only at H); obtain ⟨rfl, rfl⟩ := qdQ H; go_enter Tryz.func142, Tryz.ntmps142
  go_wp2_with (first | (refine gl_ 8 Tryz.func187 #[.slice A0 l0.length c0] rfl qbJ ?_; (with_reducible refine (qbW.calls k _ _ l0 qav qaQ true _ ?qaz ?qaA A2.1).mono ?_); (case qaz => exact qf0); (case qaA => exact qb9); rintro e w5 ⟨qht, rfl, ho0, hb⟩; refine ⟨_, rfl, ?_⟩; have qbZ := ak_ (Kd.qaw ho0 (qab qao)); replace HB := HB.mw hb; (try clear hb ho0)) | ((with_reducible refine qam (N := 4) rfl ?_); refine bx_ 4 rfl (cs := #[.int .i64 0, .slice none 0 0]) (t := 169) qa1 ?_; intro qev hg w6 hbox hb; replace qbZ := qbZ.mw hb; have qcQ := ak_ (hbox); have qnv := ak_ (HB.ge hg); have qjg := ak_ (HB.ge hg); replace HB := HB.mw hb; clear hb hbox hg; obtain ⟨qn4, qn5, qn7, qn8⟩ := qbl qcQ.1; obtain ⟨Ao8, co8, eo8⟩ := Kd.qaI qbZ.1; subst eo8) | (refine gl_ 14 Tryz.func201 #[.agg #[.int .i64 qav, .slice Ao8 qaQ.length co8]] rfl qbJ ?_; (with_reducible refine (qaN.calls k qav _ _ qaQ t107 _ ?qaz ?qaA A4.1).mono ?_); (case qaz => refine (Kd.qan (e := 3) (base := w.heap.size) (ok := fun k_ => True) (n := qaQ.length) (c := co8) ?_).2.2; exact k20_); (case qaA => exact (Kd.qan qbZ.1).2.1); rintro e w9 ⟨v108, rfl, ho0, hb⟩; refine ⟨_, rfl, ?_⟩; have qeg := ak_ (Kd.qaw (Kd.qhI ho0 (Kd.qkb k20_)) (qab qlJ)); replace qbZ := ak_ (Kd.qfv k20_ (Kd.qfm ho0) hb); replace qcQ := ak_ (qap (g := qev) (o := .cells #[.int .i64 qav, .slice Ao8 qaQ.length co8] 169 (0, 0)) k6_ hb); replace HB := ak_ (qaa qlJ hb); (try clear hb ho0)))
  go_ret2
  exact ⟨_, qca, by (with_reducible repeat (first | apply Kd.qaq | apply Kd.qar | apply Kd.qax)); exact Kd.qa2 qeg.1 (fun _ hk => trivial), qlJ⟩
 replace c3 := Bool.eq_false_iff.mpr c3; subst c3; rw [if_neg ff_] at H; obtain ⟨rfl, rfl⟩ := qdQ H; go_enter Tryz.func142, Tryz.ntmps142
 go_wp2_with (first | (refine gl_ 8 Tryz.func187 #[.slice A0 l0.length c0] rfl qbJ ?_; (with_reducible refine (qbW.calls k _ _ l0 qav qaQ false _ ?qaz ?qaA A2.1).mono ?_); (case qaz => exact qf0); (case qaA => exact qb9); rintro e w10 ⟨qht, rfl, ho0, hb⟩; refine ⟨_, rfl, ?_⟩; have qbZ := ak_ (Kd.qaw ho0 (qab qao)); replace HB := HB.mw hb; (try clear hb ho0)) | ((with_reducible refine qam (N := 4) rfl ?_); refine bx_ 4 rfl (cs := #[.int .i64 0, .slice none 0 0]) (t := 169) qa1 ?_; intro qev hg w11 hbox hb; replace qbZ := qbZ.mw hb; have qcQ := ak_ (hbox); have qnv := ak_ (HB.ge hg); have qjg := ak_ (HB.ge hg); replace HB := HB.mw hb; clear hb hbox hg; obtain ⟨qmX, qmY, qmZ, qm0⟩ := qbl qcQ.1; obtain ⟨Ao13, co13, eo13⟩ := Kd.qaI qbZ.1; subst eo13))
 go_ret2
 exact ⟨_, qca, qhg, qlJ⟩
def qgd.f (k : Nat) (rs : List qac) (mo : Int) (c : Cmd) : Option (List qac × Int × ByteArray) := match c with
  | .cMirror => (qaS.f k rs).bind fun q => (qfg k rs q.1 q.2).bind fun p => some (p.1, mo, p.2)
  | .cTidy => (qa7.f k rs).bind fun q => (qfg k rs q.1 q.2).bind fun p => some (p.1, mo, p.2)
  | .cShow => (qaH.f k rs).bind fun s => some (rs, mo, s)
  | .cCount => (qaD.f k rs 1 mo).bind fun l => (qbm.f (l.length : Int)).bind fun s => some (rs, mo, s)
  | .cPeriod => (qcf.f k rs).bind fun q => (qbm.f q.1).bind fun s => (qb2.f s q.2).bind fun z => some (rs, mo, z)
  | .cLeft => (qaD.f k rs 1 mo).bind fun l => (qbq.f k l).bind fun s => (qb2.f s true).bind fun z => some (rs, mo, z)
  | .cSpokes => (qdU.f k rs).bind fun q => (qbq.f k q.1).bind fun s => (qb2.f s q.2).bind fun z => some (rs, mo, z)
  | .cSteps => (qed.f k rs).bind fun q => (qbq.f k q.1).bind fun s => (qb2.f s q.2).bind fun z => some (rs, mo, z)
  | _ => none
theorem qpW (k base g : Nat) (rs : List qac) (mo : Int) (c : Cmd) (rs' : List qac) (mo' : Int) (txt : ByteArray) (w : World) (hbase : base ≤ w.heap.size) (hD : qfR w base g rs mo) (hl : rs.length < 8796093022208) (hG : qbc w) (h : qgd.f k rs mo c = some (rs', mo', txt)) :
    Calls Tryz.prog 77 #[.pointer (some ⟨g, 0, none⟩), .string c.word] w fun e w' => e = .returned (.string txt) ∧ qfR w' base g rs' mo' ∧ qcA w w' g := by
  obtain ⟨A0, c0, hC, hO⟩ := hD; have HCw := ak_ hC; have HOw := ak_ hO; have HC := ak_ hC; have HO := ak_ hO; have HG := ak_ hG; have HBS := ak_ hbase; have HB := br_ w; have HLn := ak_ hl; have SM := ak_ (show ∀ w' : World, Below w.heap.size w w' → qfR w' base g rs mo ∧ qcA w w' g from fun w' h_ => ⟨⟨A0, c0, qap HCw.1 h_, Kd.qbs HOw.1 h_⟩, qcA.qbR h_ g⟩); obtain ⟨qrm, qrn, qrg, qrh⟩ := qbl HC.1; clear hC hO hG hbase hl; unfold qgd.f at h
  match c, h with
  | .cMirror, h =>
    simp only [Cmd.word, Cmd.bytes]; dsimp only at h; obtain ⟨⟨xs, ok⟩, A1, h⟩ := qaB h; (try dsimp only at h); obtain ⟨⟨rs1, qjD⟩, A2, h⟩ := qaB h; (try dsimp only at h); obtain ⟨rfl, rfl, rfl⟩ := qfI h; go_enter Tryz.func77, Tryz.ntmps77
    go_wp2_with (first | ((with_reducible refine qam (N := 9) rfl ?_); refine li_ (Kd.int .i64) 3 9 rfl (xs := ([] : List Int)) qa1 ?_; intro vl9 wl ho hb; have HV := ak_ (Kd.qaw ho (qab qao)); replace HB := HB.mw hb; clear hb ho; clear HV; clear HC HO; have HC := ak_ (qap HCw.1 HB.1); have HO := ak_ (Kd.qbs HOw.1 HB.1); obtain ⟨qjU, qjV, qjQ, qjR⟩ := qbl HC.1) | (refine gl_ 26 Tryz.func137 #[.slice A0 rs.length c0] rfl qb6 ?_; (refine (qaS.calls k _ _ rs xs ok _ qjW (Kd.qan HO.1).2.1 A1.1).mono ?_); rintro e w2 ⟨vx, rfl, hox, hb⟩; refine ⟨_, rfl, ?_⟩; have HX := ak_ (Kd.qaw hox (Nat.le_trans HBS.1 (qab qao))); clear hox; obtain ⟨Ax, cx, ex⟩ := Kd.qaI HX.1; subst ex; replace HB := ak_ (qaa qao hb); clear hb) | (refine gl_ 29 Tryz.func71 #[.pointer (some ⟨g, 0, none⟩), .slice Ax xs.length cx, .bool ok] rfl qb6 ?_; (refine (qeZ k base g Ax cx xs ok rs mo rs1 qjD _ (SM.1 _ qao).1 qnq A2.1).mono ?_); rintro e w9 ⟨rfl, hD, hk⟩; refine ⟨_, rfl, ?_⟩; have HD := ak_ hD; have HKb := ak_ (qcA.trans (qcA.qbR qao g) hk); clear hD hk))
    go_ret
    exact ⟨rfl, HD.1, HKb.1⟩
  | .cTidy, h =>
    simp only [Cmd.word, Cmd.bytes]; dsimp only at h; obtain ⟨⟨xs, ok⟩, A1, h⟩ := qaB h; (try dsimp only at h); obtain ⟨⟨rs1, qjD⟩, A2, h⟩ := qaB h; (try dsimp only at h); obtain ⟨rfl, rfl, rfl⟩ := qfI h; go_enter Tryz.func77, Tryz.ntmps77
    go_wp2_with (first | ((with_reducible refine qam (N := 9) rfl ?_); refine li_ (Kd.int .i64) 3 9 rfl (xs := ([] : List Int)) qa1 ?_; intro vl9 wl ho hb; have HV := ak_ (Kd.qaw ho (qab qao)); replace HB := HB.mw hb; clear hb ho; clear HV; clear HC HO; have HC := ak_ (qap HCw.1 HB.1); have HO := ak_ (Kd.qbs HOw.1 HB.1); obtain ⟨qjU, qjV, qjQ, qjR⟩ := qbl HC.1) | (refine gl_ 37 Tryz.func138 #[.slice A0 rs.length c0] rfl qb6 ?_; (refine (qa7.calls k _ _ rs xs ok _ qjW (Kd.qan HO.1).2.1 A1.1).mono ?_); rintro e w2 ⟨vx, rfl, hox, hb⟩; refine ⟨_, rfl, ?_⟩; have HX := ak_ (Kd.qaw hox (Nat.le_trans HBS.1 (qab qao))); clear hox; obtain ⟨Ax, cx, ex⟩ := Kd.qaI HX.1; subst ex; replace HB := ak_ (qaa qao hb); clear hb) | (refine gl_ 40 Tryz.func71 #[.pointer (some ⟨g, 0, none⟩), .slice Ax xs.length cx, .bool ok] rfl qb6 ?_; (refine (qeZ k base g Ax cx xs ok rs mo rs1 qjD _ (SM.1 _ qao).1 qnq A2.1).mono ?_); rintro e w9 ⟨rfl, hD, hk⟩; refine ⟨_, rfl, ?_⟩; have HD := ak_ hD; have HKb := ak_ (qcA.trans (qcA.qbR qao g) hk); clear hD hk))
    go_ret
    exact ⟨rfl, HD.1, HKb.1⟩
  | .cShow, h =>
    simp only [Cmd.word, Cmd.bytes]; dsimp only at h; obtain ⟨s, A1, h⟩ := qaB h; (try dsimp only at h); obtain ⟨rfl, rfl, rfl⟩ := qfI h; go_enter Tryz.func77, Tryz.ntmps77
    go_wp2_with (first | ((with_reducible refine qam (N := 9) rfl ?_); refine li_ (Kd.int .i64) 3 9 rfl (xs := ([] : List Int)) qa1 ?_; intro vl9 wl ho hb; have HV := ak_ (Kd.qaw ho (qab qao)); replace HB := HB.mw hb; clear hb ho; clear HV; clear HC HO; have HC := ak_ (qap HCw.1 HB.1); have HO := ak_ (Kd.qbs HOw.1 HB.1); obtain ⟨qjU, qjV, qjQ, qjR⟩ := qbl HC.1) | (refine gl_ 47 Tryz.func54 #[.slice A0 rs.length c0] rfl qb6 ?_; (refine (qaH.calls k _ _ rs s _ qjW (Kd.qan HO.1).2.1 A1.1).mono ?_); rintro e w3 ⟨rfl, hb⟩; refine ⟨_, rfl, ?_⟩; replace HB := ak_ (qaa qao hb); clear hb))
    go_ret
    exact ⟨rfl, SM.1 _ qao⟩
  | .cCount, h =>
    simp only [Cmd.word, Cmd.bytes]; dsimp only at h; obtain ⟨xs, A1, h⟩ := qaB h; (try dsimp only at h); obtain ⟨s, A2, h⟩ := qaB h; (try dsimp only at h); obtain ⟨rfl, rfl, rfl⟩ := qfI h; go_enter Tryz.func77, Tryz.ntmps77
    go_wp2_with (first | ((with_reducible refine qam (N := 9) rfl ?_); refine li_ (Kd.int .i64) 3 9 rfl (xs := ([] : List Int)) qa1 ?_; intro vl9 wl ho hb; have HV := ak_ (Kd.qaw ho (qab qao)); replace HB := HB.mw hb; clear hb ho; clear HV; clear HC HO; have HC := ak_ (qap HCw.1 HB.1); have HO := ak_ (Kd.qbs HOw.1 HB.1); obtain ⟨qjU, qjV, qjQ, qjR⟩ := qbl HC.1))
    go_still_tail 8, (by kernel_rfl)
    go_wp2_with (first | (refine gl_ 58 Tryz.func139 #[.slice A0 rs.length c0, .int .i64 1, .int .i64 mo] rfl qb6 ?_; (refine (qaD.calls k _ _ rs 1 mo xs _ qjW (Kd.qan HO.1).2.1 A1.1).mono ?_); rintro e w2 ⟨vx, rfl, hox, hb⟩; refine ⟨_, rfl, ?_⟩; have HX := ak_ (Kd.qaw hox (Nat.le_trans HBS.1 (qab qao))); clear hox; obtain ⟨Ax, cx, ex⟩ := Kd.qaI HX.1; subst ex; replace HB := ak_ (qaa qao hb); clear hb) | (refine gl_ 60 Tryz.func87 #[.int .i64 (xs.length : Int)] rfl qb6 ?_; (refine (qbm.calls (xs.length : Int) s _ A2.1 (qbc.below HG.1 qao)).mono ?_); rintro e w5 ⟨rfl, hb⟩; refine ⟨_, rfl, ?_⟩; replace HB := ak_ (qaa qao hb); clear hb))
    go_ret
    exact ⟨rfl, SM.1 _ qao⟩
  | .cPeriod, h =>
    simp only [Cmd.word, Cmd.bytes]; dsimp only at h; obtain ⟨⟨v, ok⟩, A1, h⟩ := qaB h; (try dsimp only at h); obtain ⟨s, A2, h⟩ := qaB h; (try dsimp only at h); obtain ⟨z, A3, h⟩ := qaB h; (try dsimp only at h); obtain ⟨rfl, rfl, rfl⟩ := qfI h; go_enter Tryz.func77, Tryz.ntmps77
    go_wp2_with (first | ((with_reducible refine qam (N := 9) rfl ?_); refine li_ (Kd.int .i64) 3 9 rfl (xs := ([] : List Int)) qa1 ?_; intro vl9 wl ho hb; have HV := ak_ (Kd.qaw ho (qab qao)); replace HB := HB.mw hb; clear hb ho; clear HV; clear HC HO; have HC := ak_ (qap HCw.1 HB.1); have HO := ak_ (Kd.qbs HOw.1 HB.1); obtain ⟨qjU, qjV, qjQ, qjR⟩ := qbl HC.1) | (refine gl_ 68 Tryz.func140 #[.slice A0 rs.length c0] rfl qb6 ?_; (refine (qcf.calls k _ _ rs v ok _ qjW (Kd.qan HO.1).2.1 A1.1).mono ?_); rintro e w2 ⟨rfl, hb⟩; refine ⟨_, rfl, ?_⟩; replace HB := ak_ (qaa qao hb); clear hb) | (refine gl_ 72 Tryz.func87 #[.int .i64 v] rfl qb6 ?_; (refine (qbm.calls v s _ A2.1 (qbc.below HG.1 qao)).mono ?_); rintro e w5 ⟨rfl, hb⟩; refine ⟨_, rfl, ?_⟩; replace HB := ak_ (qaa qao hb); clear hb) | (refine gl_ 74 Tryz.func76 #[.string s, .bool ok] rfl qb6 ?_; (refine ((qb2.calls s ok z _ A3.1)).mono ?_); rintro e w8 ⟨rfl, hd_⟩; refine ⟨_, rfl, ?_⟩; have hb := hd_.below; clear hd_; replace HB := ak_ (qaa qao hb); clear hb))
    go_ret
    exact ⟨rfl, SM.1 _ qao⟩
  | .cLeft, h =>
    simp only [Cmd.word, Cmd.bytes]; dsimp only at h; obtain ⟨xs, A1, h⟩ := qaB h; (try dsimp only at h); obtain ⟨s, A2, h⟩ := qaB h; (try dsimp only at h); obtain ⟨z, A3, h⟩ := qaB h; (try dsimp only at h); obtain ⟨rfl, rfl, rfl⟩ := qfI h; go_enter Tryz.func77, Tryz.ntmps77
    go_wp2_with (first | ((with_reducible refine qam (N := 9) rfl ?_); refine li_ (Kd.int .i64) 3 9 rfl (xs := ([] : List Int)) qa1 ?_; intro vl9 wl ho hb; have HV := ak_ (Kd.qaw ho (qab qao)); replace HB := HB.mw hb; clear hb ho; clear HV; clear HC HO; have HC := ak_ (qap HCw.1 HB.1); have HO := ak_ (Kd.qbs HOw.1 HB.1); obtain ⟨qjU, qjV, qjQ, qjR⟩ := qbl HC.1))
    go_still_tail 8, (by kernel_rfl)
    go_wp2_with (first | (refine gl_ 85 Tryz.func139 #[.slice A0 rs.length c0, .int .i64 1, .int .i64 mo] rfl qb6 ?_; (refine (qaD.calls k _ _ rs 1 mo xs _ qjW (Kd.qan HO.1).2.1 A1.1).mono ?_); rintro e w2 ⟨vx, rfl, hox, hb⟩; refine ⟨_, rfl, ?_⟩; have HX := ak_ (Kd.qaw hox (Nat.le_trans HBS.1 (qab qao))); clear hox; obtain ⟨Ax, cx, ex⟩ := Kd.qaI HX.1; subst ex; replace HB := ak_ (qaa qao hb); clear hb) | (refine gl_ 97 Tryz.func131 #[.slice Ax xs.length cx] rfl qb6 ?_; (refine (qbq.calls k _ _ xs s _ qrr (Kd.qan HX.1).2.1 A2.1 (qbc.below HG.1 qao)).mono ?_); rintro e w5 ⟨rfl, hb⟩; refine ⟨_, rfl, ?_⟩; replace HB := ak_ (qaa qao hb); clear hb) | (refine gl_ 99 Tryz.func76 #[.string s, .bool true] rfl qb6 ?_; (refine ((qb2.calls s true z _ A3.1)).mono ?_); rintro e w8 ⟨rfl, hd_⟩; refine ⟨_, rfl, ?_⟩; have hb := hd_.below; clear hd_; replace HB := ak_ (qaa qao hb); clear hb))
    go_ret
    exact ⟨rfl, SM.1 _ qao⟩
  | .cSpokes, h =>
    simp only [Cmd.word, Cmd.bytes]; dsimp only at h; obtain ⟨⟨xs, ok⟩, A1, h⟩ := qaB h; (try dsimp only at h); obtain ⟨s, A2, h⟩ := qaB h; (try dsimp only at h); obtain ⟨z, A3, h⟩ := qaB h; (try dsimp only at h); obtain ⟨rfl, rfl, rfl⟩ := qfI h; go_enter Tryz.func77, Tryz.ntmps77
    go_wp2_with (first | ((with_reducible refine qam (N := 9) rfl ?_); refine li_ (Kd.int .i64) 3 9 rfl (xs := ([] : List Int)) qa1 ?_; intro vl9 wl ho hb; have HV := ak_ (Kd.qaw ho (qab qao)); replace HB := HB.mw hb; clear hb ho; clear HV; clear HC HO; have HC := ak_ (qap HCw.1 HB.1); have HO := ak_ (Kd.qbs HOw.1 HB.1); obtain ⟨qjU, qjV, qjQ, qjR⟩ := qbl HC.1) | (refine gl_ 93 Tryz.func141 #[.slice A0 rs.length c0] rfl qb6 ?_; (refine (qdU.calls k _ _ rs xs ok _ qjW (Kd.qan HO.1).2.1 A1.1).mono ?_); rintro e w2 ⟨vx, rfl, hox, hb⟩; refine ⟨_, rfl, ?_⟩; have HX := ak_ (Kd.qaw hox (Nat.le_trans HBS.1 (qab qao))); clear hox; obtain ⟨Ax, cx, ex⟩ := Kd.qaI HX.1; subst ex; replace HB := ak_ (qaa qao hb); clear hb) | (refine gl_ 97 Tryz.func131 #[.slice Ax xs.length cx] rfl qb6 ?_; (refine (qbq.calls k _ _ xs s _ qrr (Kd.qan HX.1).2.1 A2.1 (qbc.below HG.1 qao)).mono ?_); rintro e w5 ⟨rfl, hb⟩; refine ⟨_, rfl, ?_⟩; replace HB := ak_ (qaa qao hb); clear hb) | (refine gl_ 99 Tryz.func76 #[.string s, .bool ok] rfl qb6 ?_; (refine ((qb2.calls s ok z _ A3.1)).mono ?_); rintro e w8 ⟨rfl, hd_⟩; refine ⟨_, rfl, ?_⟩; have hb := hd_.below; clear hd_; replace HB := ak_ (qaa qao hb); clear hb))
    go_ret
    exact ⟨rfl, SM.1 _ qao⟩
  | .cSteps, h =>
    simp only [Cmd.word, Cmd.bytes]; dsimp only at h; obtain ⟨⟨xs, ok⟩, A1, h⟩ := qaB h; (try dsimp only at h); obtain ⟨s, A2, h⟩ := qaB h; (try dsimp only at h); obtain ⟨z, A3, h⟩ := qaB h; (try dsimp only at h); obtain ⟨rfl, rfl, rfl⟩ := qfI h; go_enter Tryz.func77, Tryz.ntmps77
    go_wp2_with (first | ((with_reducible refine qam (N := 9) rfl ?_); refine li_ (Kd.int .i64) 3 9 rfl (xs := ([] : List Int)) qa1 ?_; intro vl9 wl ho hb; have HV := ak_ (Kd.qaw ho (qab qao)); replace HB := HB.mw hb; clear hb ho; clear HV; clear HC HO; have HC := ak_ (qap HCw.1 HB.1); have HO := ak_ (Kd.qbs HOw.1 HB.1); obtain ⟨qjU, qjV, qjQ, qjR⟩ := qbl HC.1) | (refine gl_ 16 Tryz.func142 #[.slice A0 rs.length c0] rfl qb6 ?_; (refine (qed.calls k _ _ rs xs ok _ qjW (Kd.qan HO.1).2.1 A1.1).mono ?_); rintro e w2 ⟨vx, rfl, hox, hb⟩; refine ⟨_, rfl, ?_⟩; have HX := ak_ (Kd.qaw hox (Nat.le_trans HBS.1 (qab qao))); clear hox; obtain ⟨Ax, cx, ex⟩ := Kd.qaI HX.1; subst ex; replace HB := ak_ (qaa qao hb); clear hb) | (refine gl_ 97 Tryz.func131 #[.slice Ax xs.length cx] rfl qb6 ?_; (refine (qbq.calls k _ _ xs s _ qrr (Kd.qan HX.1).2.1 A2.1 (qbc.below HG.1 qao)).mono ?_); rintro e w5 ⟨rfl, hb⟩; refine ⟨_, rfl, ?_⟩; replace HB := ak_ (qaa qao hb); clear hb) | (refine gl_ 99 Tryz.func76 #[.string s, .bool ok] rfl qb6 ?_; (refine ((qb2.calls s ok z _ A3.1)).mono ?_); rintro e w8 ⟨rfl, hd_⟩; refine ⟨_, rfl, ?_⟩; have hb := hd_.below; clear hd_; replace HB := ak_ (qaa qao hb); clear hb))
    go_ret
    exact ⟨rfl, SM.1 _ qao⟩
theorem qcR {w : World} {base g n c : Nat} {ok : Nat → Prop} {ws : List ByteArray} (h : Kd.R Kd.string 9 w base ok (.slice (some ⟨g, 0, none⟩) n c) ws) (i : Nat) (x : ByteArray) (hx : ws[i]? = some x) : w.cell? ⟨g, i, none⟩ = some (.string x) := by
  have hi := (List.getElem?_eq_some_iff.1 hx).1; have h2 := Kd.qan h; obtain ⟨ad, e, hc⟩ := Kd.qgX h2.2.2 (i : Int) (by omega) (by omega)
  cases e
  rw [Int.toNat_natCast, add_plain] at hc; rw [hc, qgE, List.getD, Int.toNat_natCast, hx]; rfl
theorem Cmd.kinds (c : Cmd) : c.kind = [] ∨ c.kind = [110] ∨ c.kind = [114] ∨ c.kind = [115] := by cases c <;> simp [Cmd.kind]
theorem Cmd.rule {c : Cmd} (h : c.kind = [114]) : c = .cRules ∨ c = .cAdd := by cases c <;> simp_all [Cmd.kind]
def qfz.f (k : Nat) (rs : List qac) (mo : Int) (s : ByteArray) : Option (List qac × Int × ByteArray) := if s.size ≤ 1048576 ∧ rs.length < 8796093022208 then (match qgQ 32 s with
  | [] => none
  | x :: t => match qhO x with
    | none => some (rs, mo, (⟨#[119, 104, 97, 116]⟩ : ByteArray))
    | some c => if t.length = c.kind.length then (match c.kind, t with
        | [], _ => qgd.f k rs mo c
        | 110 :: _, y :: _ => (match numOf y with | none => some (rs, mo, (⟨#[119, 104, 97, 116]⟩ : ByteArray)) | some n => qcm.f k rs mo c n)
        | 114 :: _, y :: _ => (qaV.f k y).bind fun q => if q.2 = true then ((if c.bytes = [97, 100, 100] then (if rs.length + q.1.length < 8796093022208 then some (rs ++ q.1) else none) else some q.1).bind fun xs => (qfg k rs xs true).bind fun p => some (p.1, mo, p.2)) else some (rs, mo, (⟨#[119, 104, 97, 116]⟩ : ByteArray))
        | _, y :: _ => (qcd.f y).bind fun q => if q.2.2 = true then ((qc2.f k q.1 q.2.1).bind fun u => (qaH.f k u.1).bind fun z => (qb2.f z u.2).bind fun z => some (rs, mo, z)) else some (rs, mo, (⟨#[110, 111]⟩ : ByteArray))
        | _, [] => none) else some (rs, mo, (⟨#[119, 104, 97, 116]⟩ : ByteArray))) else none
theorem qrv (k base g : Nat) (rs : List qac) (mo : Int) (s : ByteArray) (rs' : List qac) (mo' : Int) (txt : ByteArray) (w : World) (hbase : base ≤ w.heap.size) (hD : qfR w base g rs mo) (hG : qbc w) (h : qfz.f k rs mo s = some (rs', mo', txt)) :
    Calls Tryz.prog 45 #[.pointer (some ⟨g, 0, none⟩), .string s] w fun e w' => e = .returned (.string txt) ∧ qfR w' base g rs' mo' ∧ qcA w w' g := by
  unfold qfz.f at h; by_cases hsl : s.size ≤ 1048576 ∧ rs.length < 8796093022208; rotate_left
  ·rw [if_neg hsl] at h; exact absurd h (by simp)
  rw [if_pos hsl] at h; have hl := hsl.2; have HS := ak_ hsl.1; clear hsl; obtain ⟨A0, c0, hC, hO⟩ := hD; have HCw := ak_ hC; have HOw := ak_ hO; have HC := ak_ hC; have HO := ak_ hO; have HG := ak_ hG; have HBS := ak_ hbase; have HB := br_ w; have HLn := ak_ hl; have SM := ak_ (show ∀ w' : World, Below w.heap.size w w' → qfR w' base g rs mo ∧ qcA w w' g from fun w' h_ => ⟨⟨A0, c0, qap HCw.1 h_, Kd.qbs HOw.1 h_⟩, qcA.qbR h_ g⟩); obtain ⟨qrm, qrn, qrg, qrh⟩ := qbl HC.1; clear hC hO hG hbase hl
  obtain ⟨ws, hws⟩ : ∃ ws, ws = qgQ 32 s := ⟨_, rfl⟩
  rw [← hws] at h; have HWE := ak_ hws; have HWM := ak_ (show ∀ x ∈ ws, x.size ≤ 1048576 from fun x hx => by have := qjz _ _ s x (by rw [hws] at hx; exact hx); have := HS.1; omega); clear hws
  cases hw0 : ws with
  | nil => rw [hw0] at h; exact absurd h (by simp)
  | cons x0 t =>
    rw [hw0] at h; have HWP := ak_ (show 0 < ws.length from by rw [hw0]; simp)
    have hlt0 : (0 : Int) < (ws.length : Int) := by have := HWP.1; omega
    dsimp only at h; have HX0 := ak_ (show ws[0]? = some x0 from by rw [hw0]; rfl)
    cases hcm : qhO x0 with
    | none =>
      rw [hcm] at h; dsimp only at h; have HCM := ak_ hcm; obtain ⟨rfl, rfl, rfl⟩ := qfI h; clear hcm hw0; go_enter Tryz.func45, Tryz.ntmps45
      go_wp2_with (first | (refine gl_ 16 Tryz.func68 #[.string s, .string ⟨#[32]⟩] rfl qb6 ?_; (refine (qdh s ⟨#[32]⟩ _ (by have := HS.1; omega) rfl (qbc.below HG.1 qao)).mono ?_); rintro e w1 ⟨vw, rfl, how, hb⟩; refine ⟨_, rfl, ?_⟩; have HW := ak_ (show Kd.R Kd.string 9 _ w.heap.size (fun _ => True) vw ws from qqH); obtain ⟨gw, cw, ew, -⟩ := Kd.qe8 HW.1 HWP.1; subst ew; replace HB := ak_ (qaa qao hb); have qhp : w1.cell? ⟨gw, 0, none⟩ = some (.string x0) := qcR HW.1 0 x0 HX0.1; clear hb; clear how) | (refine gl_ 21 Tryz.func69 #[.string x0] rfl qb6 ?_; (refine ((qbH.calls x0 ⟨#[]⟩ false _ (by unfold qbH.f; rw [HCM.1]))).mono ?_); rintro e w2 ⟨rfl, hb⟩; refine ⟨_, rfl, ?_⟩; replace HB := ak_ (qaa qao hb); replace HW := HW.mw hb; have qhq : w2.cell? ⟨gw, 0, none⟩ = some (.string x0) := qcR HW.1 0 x0 HX0.1; clear hb))
      go_ret
      exact ⟨rfl, SM.1 _ qao⟩
    | some c =>
      rw [hcm] at h; dsimp only at h; have HCM := ak_ hcm; have HWD := ak_ (qh2 hcm); clear hcm
      have hwl : ws.length = t.length + 1 := by rw [hw0]; rfl
      by_cases htl : t.length = c.kind.length; rotate_left
      ·rw [if_neg htl] at h
       rcases Cmd.kinds c with hkd | hkd | hkd | hkd
       ·have hln : ws.length ≠ 1 := by rw [hkd] at htl; have : t.length ≠ 0 := htl; omega
        have HKD := ak_ hkd; have hlc : ((ws.length : Int) != 1) = true := bne_iff_ne.2 (by omega); have hld : ((ws.length : Int) == 1) = false := beq_eq_false_iff_ne.2 (by omega); obtain ⟨rfl, rfl, rfl⟩ := qfI h; clear hkd hln; go_enter Tryz.func45, Tryz.ntmps45
        go_wp2_with (first | (refine gl_ 16 Tryz.func68 #[.string s, .string ⟨#[32]⟩] rfl qb6 ?_; (refine (qdh s ⟨#[32]⟩ _ (by have := HS.1; omega) rfl (qbc.below HG.1 qao)).mono ?_); rintro e w1 ⟨vw, rfl, how, hb⟩; refine ⟨_, rfl, ?_⟩; have HW := ak_ (show Kd.R Kd.string 9 _ w.heap.size (fun _ => True) vw ws from qqH); obtain ⟨gw, cw, ew, -⟩ := Kd.qe8 HW.1 HWP.1; subst ew; replace HB := ak_ (qaa qao hb); have qhp : w1.cell? ⟨gw, 0, none⟩ = some (.string x0) := qcR HW.1 0 x0 HX0.1; clear hb; clear how) | (refine gl_ 21 Tryz.func69 #[.string x0] rfl qb6 ?_; (refine ((qbH.calls x0 ⟨#[]⟩ true _ qrP)).mono ?_); rintro e w2 ⟨rfl, hb⟩; refine ⟨_, rfl, ?_⟩; replace HB := ak_ (qaa qao hb); replace HW := HW.mw hb; have qhq : w2.cell? ⟨gw, 0, none⟩ = some (.string x0) := qcR HW.1 0 x0 HX0.1; clear hb))
        go_ret
        exact ⟨rfl, SM.1 _ qao⟩
       ·have hln : ws.length ≠ 2 := by rw [hkd] at htl; have : t.length ≠ 1 := htl; omega
        have HKD := ak_ hkd; have hlc : ((ws.length : Int) != 2) = true := bne_iff_ne.2 (by omega); have hld : ((ws.length : Int) == 2) = false := beq_eq_false_iff_ne.2 (by omega); obtain ⟨rfl, rfl, rfl⟩ := qfI h; clear hkd hln; go_enter Tryz.func45, Tryz.ntmps45
        go_wp2_with (first | (refine gl_ 16 Tryz.func68 #[.string s, .string ⟨#[32]⟩] rfl qb6 ?_; (refine (qdh s ⟨#[32]⟩ _ (by have := HS.1; omega) rfl (qbc.below HG.1 qao)).mono ?_); rintro e w1 ⟨vw, rfl, how, hb⟩; refine ⟨_, rfl, ?_⟩; have HW := ak_ (show Kd.R Kd.string 9 _ w.heap.size (fun _ => True) vw ws from qqH); obtain ⟨gw, cw, ew, -⟩ := Kd.qe8 HW.1 HWP.1; subst ew; replace HB := ak_ (qaa qao hb); have qhp : w1.cell? ⟨gw, 0, none⟩ = some (.string x0) := qcR HW.1 0 x0 HX0.1; clear hb; clear how) | (refine gl_ 21 Tryz.func69 #[.string x0] rfl qb6 ?_; (refine ((qbH.calls x0 ⟨#[110]⟩ true _ qrP)).mono ?_); rintro e w2 ⟨rfl, hb⟩; refine ⟨_, rfl, ?_⟩; replace HB := ak_ (qaa qao hb); replace HW := HW.mw hb; have qhq : w2.cell? ⟨gw, 0, none⟩ = some (.string x0) := qcR HW.1 0 x0 HX0.1; clear hb))
        go_ret
        exact ⟨rfl, SM.1 _ qao⟩
       ·have hln : ws.length ≠ 2 := by rw [hkd] at htl; have : t.length ≠ 1 := htl; omega
        have HKD := ak_ hkd; have hlc : ((ws.length : Int) != 2) = true := bne_iff_ne.2 (by omega); have hld : ((ws.length : Int) == 2) = false := beq_eq_false_iff_ne.2 (by omega); obtain ⟨rfl, rfl, rfl⟩ := qfI h; clear hkd hln; go_enter Tryz.func45, Tryz.ntmps45
        go_wp2_with (first | (refine gl_ 16 Tryz.func68 #[.string s, .string ⟨#[32]⟩] rfl qb6 ?_; (refine (qdh s ⟨#[32]⟩ _ (by have := HS.1; omega) rfl (qbc.below HG.1 qao)).mono ?_); rintro e w1 ⟨vw, rfl, how, hb⟩; refine ⟨_, rfl, ?_⟩; have HW := ak_ (show Kd.R Kd.string 9 _ w.heap.size (fun _ => True) vw ws from qqH); obtain ⟨gw, cw, ew, -⟩ := Kd.qe8 HW.1 HWP.1; subst ew; replace HB := ak_ (qaa qao hb); have qhp : w1.cell? ⟨gw, 0, none⟩ = some (.string x0) := qcR HW.1 0 x0 HX0.1; clear hb; clear how) | (refine gl_ 21 Tryz.func69 #[.string x0] rfl qb6 ?_; (refine ((qbH.calls x0 ⟨#[114]⟩ true _ qrP)).mono ?_); rintro e w2 ⟨rfl, hb⟩; refine ⟨_, rfl, ?_⟩; replace HB := ak_ (qaa qao hb); replace HW := HW.mw hb; have qhq : w2.cell? ⟨gw, 0, none⟩ = some (.string x0) := qcR HW.1 0 x0 HX0.1; clear hb))
        go_ret
        exact ⟨rfl, SM.1 _ qao⟩
       have hln : ws.length ≠ 2 := by rw [hkd] at htl; have : t.length ≠ 1 := htl; omega
       have HKD := ak_ hkd; have hlc : ((ws.length : Int) != 2) = true := bne_iff_ne.2 (by omega); have hld : ((ws.length : Int) == 2) = false := beq_eq_false_iff_ne.2 (by omega); obtain ⟨rfl, rfl, rfl⟩ := qfI h; clear hkd hln; go_enter Tryz.func45, Tryz.ntmps45
       go_wp2_with (first | (refine gl_ 16 Tryz.func68 #[.string s, .string ⟨#[32]⟩] rfl qb6 ?_; (refine (qdh s ⟨#[32]⟩ _ (by have := HS.1; omega) rfl (qbc.below HG.1 qao)).mono ?_); rintro e w1 ⟨vw, rfl, how, hb⟩; refine ⟨_, rfl, ?_⟩; have HW := ak_ (show Kd.R Kd.string 9 _ w.heap.size (fun _ => True) vw ws from qqH); obtain ⟨gw, cw, ew, -⟩ := Kd.qe8 HW.1 HWP.1; subst ew; replace HB := ak_ (qaa qao hb); have qhp : w1.cell? ⟨gw, 0, none⟩ = some (.string x0) := qcR HW.1 0 x0 HX0.1; clear hb; clear how) | (refine gl_ 21 Tryz.func69 #[.string x0] rfl qb6 ?_; (refine ((qbH.calls x0 ⟨#[115]⟩ true _ qrP)).mono ?_); rintro e w2 ⟨rfl, hb⟩; refine ⟨_, rfl, ?_⟩; replace HB := ak_ (qaa qao hb); replace HW := HW.mw hb; have qhq : w2.cell? ⟨gw, 0, none⟩ = some (.string x0) := qcR HW.1 0 x0 HX0.1; clear hb))
       go_ret
       exact ⟨rfl, SM.1 _ qao⟩
      rw [if_pos htl] at h
      rcases Cmd.kinds c with hkd | hkd | hkd | hkd
      ·rw [hkd] at h htl; obtain rfl := List.length_eq_zero_iff.1 htl; have HF := ak_ (show qgd.f k rs mo c = some (rs', mo', txt) from h); have HKD := ak_ hkd
       have hln : ws.length = 1 := by rw [hw0]; rfl
       have hlc : ((ws.length : Int) != 1) = false := bne_eq_false_iff_eq.2 (by omega); have hld : ((ws.length : Int) == 1) = true := beq_iff_eq.2 (by omega); clear hkd htl h hw0 hwl hln; go_enter Tryz.func45, Tryz.ntmps45
       go_wp2_with (first | (refine gl_ 16 Tryz.func68 #[.string s, .string ⟨#[32]⟩] rfl qb6 ?_; (refine (qdh s ⟨#[32]⟩ _ (by have := HS.1; omega) rfl (qbc.below HG.1 qao)).mono ?_); rintro e w1 ⟨vw, rfl, how, hb⟩; refine ⟨_, rfl, ?_⟩; have HW := ak_ (show Kd.R Kd.string 9 _ w.heap.size (fun _ => True) vw ws from qqH); obtain ⟨gw, cw, ew, -⟩ := Kd.qe8 HW.1 HWP.1; subst ew; replace HB := ak_ (qaa qao hb); have qhp : w1.cell? ⟨gw, 0, none⟩ = some (.string x0) := qcR HW.1 0 x0 HX0.1; clear hb; clear how) | (refine gl_ 21 Tryz.func69 #[.string x0] rfl qb6 ?_; (refine ((qbH.calls x0 ⟨#[]⟩ true _ qrP)).mono ?_); rintro e w2 ⟨rfl, hb⟩; refine ⟨_, rfl, ?_⟩; replace HB := ak_ (qaa qao hb); replace HW := HW.mw hb; have qhq : w2.cell? ⟨gw, 0, none⟩ = some (.string x0) := qcR HW.1 0 x0 HX0.1; clear hb) | (refine gl_ 102 Tryz.func77 #[.pointer (some ⟨g, 0, none⟩), .string x0] rfl qb6 ?_; (refine ((show Calls _ _ _ _ _ from by rw [HWD.1]; exact qpW k base g rs mo c rs' mo' txt _ (Nat.le_trans HBS.1 (qab qao)) (SM.1 _ qao).1 HLn.1 (qbc.below HG.1 qao) HF.1)).mono ?_); rintro e w9 ⟨rfl, hD, hk⟩; refine ⟨_, rfl, ?_⟩; have HD := ak_ hD; have HKb := ak_ (qcA.trans (qcA.qbR qao g) hk); clear hD hk))
       go_ret
       exact ⟨rfl, HD.1, HKb.1⟩
      ·rw [hkd] at h htl; obtain ⟨x1, rfl⟩ := List.length_eq_one_iff.1 htl; have HX1 := ak_ (show ws[1]? = some x1 from by rw [hw0]; rfl); have HKD := ak_ hkd
       have hln : ws.length = 2 := by rw [hw0]; rfl
       have hlc : ((ws.length : Int) != 2) = false := bne_eq_false_iff_eq.2 (by omega); have hld : ((ws.length : Int) == 2) = true := beq_iff_eq.2 (by omega)
       have hlt1 : (1 : Int) < (ws.length : Int) := by omega
       have HS1 := ak_ (HWM.1 x1 (by rw [hw0]; simp)); clear hkd htl hw0 hwl hln
       cases hno : numOf x1 with
       | none =>
         have H : (match numOf x1 with | none => some (rs, mo, (⟨#[119, 104, 97, 116]⟩ : ByteArray)) | some n => qcm.f k rs mo c n) = some (rs', mo', txt) := h; rw [hno] at H; dsimp only at H; obtain ⟨rfl, rfl, rfl⟩ := qfI H; have HNO := ak_ hno; clear hno h; go_enter Tryz.func45, Tryz.ntmps45
         go_wp2_with (first | (refine gl_ 16 Tryz.func68 #[.string s, .string ⟨#[32]⟩] rfl qb6 ?_; (refine (qdh s ⟨#[32]⟩ _ (by have := HS.1; omega) rfl (qbc.below HG.1 qao)).mono ?_); rintro e w1 ⟨vw, rfl, how, hb⟩; refine ⟨_, rfl, ?_⟩; have HW := ak_ (show Kd.R Kd.string 9 _ w.heap.size (fun _ => True) vw ws from qqH); obtain ⟨gw, cw, ew, -⟩ := Kd.qe8 HW.1 HWP.1; subst ew; replace HB := ak_ (qaa qao hb); have qhp : w1.cell? ⟨gw, 0, none⟩ = some (.string x0) := qcR HW.1 0 x0 HX0.1; have qmc : w1.cell? ⟨gw, 1, none⟩ = some (.string x1) := qcR HW.1 1 x1 HX1.1; clear hb; clear how) | (refine gl_ 21 Tryz.func69 #[.string x0] rfl qb6 ?_; (refine ((qbH.calls x0 ⟨#[110]⟩ true _ qrP)).mono ?_); rintro e w2 ⟨rfl, hb⟩; refine ⟨_, rfl, ?_⟩; replace HB := ak_ (qaa qao hb); replace HW := HW.mw hb; have qhq : w2.cell? ⟨gw, 0, none⟩ = some (.string x0) := qcR HW.1 0 x0 HX0.1; have qmd : w2.cell? ⟨gw, 1, none⟩ = some (.string x1) := qcR HW.1 1 x1 HX1.1; clear hb) | (refine gl_ 67 Tryz.func72 #[.string x1] rfl qb6 ?_; (refine (qih x1 _ (by have := HS1.1; omega) (qbc.below HG.1 qao)).mono ?_); rintro e w3 ⟨nn, bb, rfl, hcs, hb⟩; refine ⟨_, rfl, ?_⟩; obtain rfl : bb = false := (by rcases hcs with ⟨-, h2_⟩ | ⟨h1_, -⟩; (rw [HNO.1] at h2_; exact absurd h2_ (by simp)); exact h1_); clear hcs; replace HB := ak_ (qaa qao hb); replace HW := HW.mw hb; have qqE : w3.cell? ⟨gw, 0, none⟩ = some (.string x0) := qcR HW.1 0 x0 HX0.1; have qqF : w3.cell? ⟨gw, 1, none⟩ = some (.string x1) := qcR HW.1 1 x1 HX1.1; clear hb))
         go_ret
         exact ⟨rfl, SM.1 _ qao⟩
       | some n =>
         have H : (match numOf x1 with | none => some (rs, mo, (⟨#[119, 104, 97, 116]⟩ : ByteArray)) | some n => qcm.f k rs mo c n) = some (rs', mo', txt) := h; rw [hno] at H; have HF := ak_ (show qcm.f k rs mo c n = some (rs', mo', txt) from H); have HNO := ak_ hno; clear hno h H; go_enter Tryz.func45, Tryz.ntmps45
         go_wp2_with (first | (refine gl_ 16 Tryz.func68 #[.string s, .string ⟨#[32]⟩] rfl qb6 ?_; (refine (qdh s ⟨#[32]⟩ _ (by have := HS.1; omega) rfl (qbc.below HG.1 qao)).mono ?_); rintro e w1 ⟨vw, rfl, how, hb⟩; refine ⟨_, rfl, ?_⟩; have HW := ak_ (show Kd.R Kd.string 9 _ w.heap.size (fun _ => True) vw ws from qqH); obtain ⟨gw, cw, ew, -⟩ := Kd.qe8 HW.1 HWP.1; subst ew; replace HB := ak_ (qaa qao hb); have qhp : w1.cell? ⟨gw, 0, none⟩ = some (.string x0) := qcR HW.1 0 x0 HX0.1; have qmc : w1.cell? ⟨gw, 1, none⟩ = some (.string x1) := qcR HW.1 1 x1 HX1.1; clear hb; clear how) | (refine gl_ 21 Tryz.func69 #[.string x0] rfl qb6 ?_; (refine ((qbH.calls x0 ⟨#[110]⟩ true _ qrP)).mono ?_); rintro e w2 ⟨rfl, hb⟩; refine ⟨_, rfl, ?_⟩; replace HB := ak_ (qaa qao hb); replace HW := HW.mw hb; have qhq : w2.cell? ⟨gw, 0, none⟩ = some (.string x0) := qcR HW.1 0 x0 HX0.1; have qmd : w2.cell? ⟨gw, 1, none⟩ = some (.string x1) := qcR HW.1 1 x1 HX1.1; clear hb) | (refine gl_ 67 Tryz.func72 #[.string x1] rfl qb6 ?_; (refine (qih x1 _ (by have := HS1.1; omega) (qbc.below HG.1 qao)).mono ?_); rintro e w3 ⟨nn, bb, rfl, hcs, hb⟩; refine ⟨_, rfl, ?_⟩; obtain ⟨rfl, rfl⟩ : n = nn ∧ bb = true := (by rcases hcs with ⟨h1_, h2_⟩ | ⟨-, h2_⟩; (rw [HNO.1] at h2_; exact ⟨Option.some.inj h2_, h1_⟩); (rw [HNO.1] at h2_; exact absurd h2_ (by simp))); clear hcs; replace HB := ak_ (qaa qao hb); replace HW := HW.mw hb; have qqE : w3.cell? ⟨gw, 0, none⟩ = some (.string x0) := qcR HW.1 0 x0 HX0.1; have qqF : w3.cell? ⟨gw, 1, none⟩ = some (.string x1) := qcR HW.1 1 x1 HX1.1; clear hb) | (refine gl_ 77 Tryz.func73 #[.pointer (some ⟨g, 0, none⟩), .string x0, .int .i64 n] rfl qb6 ?_; (refine ((show Calls _ _ _ _ _ from by rw [HWD.1]; exact qlL k base g rs mo c n rs' mo' txt _ (Nat.le_trans HBS.1 (qab qao)) (SM.1 _ qao).1 HLn.1 (qbc.below HG.1 qao) HF.1)).mono ?_); rintro e w9 ⟨rfl, hD, hk⟩; refine ⟨_, rfl, ?_⟩; have HD := ak_ hD; have HKb := ak_ (qcA.trans (qcA.qbR qao g) hk); clear hD hk))
         go_ret
         exact ⟨rfl, HD.1, HKb.1⟩
      ·rw [hkd] at h htl; obtain ⟨x1, rfl⟩ := List.length_eq_one_iff.1 htl; have HX1 := ak_ (show ws[1]? = some x1 from by rw [hw0]; rfl); have HKD := ak_ hkd
       have hln : ws.length = 2 := by rw [hw0]; rfl
       have hlc : ((ws.length : Int) != 2) = false := bne_eq_false_iff_eq.2 (by omega); have hld : ((ws.length : Int) == 2) = true := beq_iff_eq.2 (by omega)
       have hlt1 : (1 : Int) < (ws.length : Int) := by omega
       have HS1 := ak_ (HWM.1 x1 (by rw [hw0]; simp)); replace h : ((qaV.f k x1).bind fun q => if q.2 = true then ((if c.bytes = [97, 100, 100] then (if rs.length + q.1.length < 8796093022208 then some (rs ++ q.1) else none) else some q.1).bind fun xs => (qfg k rs xs true).bind fun p => some (p.1, mo, p.2)) else some (rs, mo, (⟨#[119, 104, 97, 116]⟩ : ByteArray))) = some (rs', mo', txt) := h; obtain ⟨⟨xs, ok⟩, A1, h⟩ := qaB h; dsimp only at h
       cases ok with
       | false =>
         rw [if_neg (by decide)] at h; obtain ⟨rfl, rfl, rfl⟩ := qfI h; clear hkd htl hw0 hwl hln; go_enter Tryz.func45, Tryz.ntmps45
         go_wp2_with (first | (refine gl_ 16 Tryz.func68 #[.string s, .string ⟨#[32]⟩] rfl qb6 ?_; (refine (qdh s ⟨#[32]⟩ _ (by have := HS.1; omega) rfl (qbc.below HG.1 qao)).mono ?_); rintro e w1 ⟨vw, rfl, how, hb⟩; refine ⟨_, rfl, ?_⟩; have HW := ak_ (show Kd.R Kd.string 9 _ w.heap.size (fun _ => True) vw ws from qqH); obtain ⟨gw, cw, ew, -⟩ := Kd.qe8 HW.1 HWP.1; subst ew; replace HB := ak_ (qaa qao hb); have qhp : w1.cell? ⟨gw, 0, none⟩ = some (.string x0) := qcR HW.1 0 x0 HX0.1; have qmc : w1.cell? ⟨gw, 1, none⟩ = some (.string x1) := qcR HW.1 1 x1 HX1.1; clear hb; clear how) | (refine gl_ 21 Tryz.func69 #[.string x0] rfl qb6 ?_; (refine ((qbH.calls x0 ⟨#[114]⟩ true _ qrP)).mono ?_); rintro e w2 ⟨rfl, hb⟩; refine ⟨_, rfl, ?_⟩; replace HB := ak_ (qaa qao hb); replace HW := HW.mw hb; have qhq : w2.cell? ⟨gw, 0, none⟩ = some (.string x0) := qcR HW.1 0 x0 HX0.1; have qmd : w2.cell? ⟨gw, 1, none⟩ = some (.string x1) := qcR HW.1 1 x1 HX1.1; clear hb) | (refine gl_ 41 Tryz.func70 #[.string x1] rfl qb6 ?_; (refine (qaV.calls k x1 xs false _ A1.1 (qbc.below HG.1 qao)).mono ?_); rintro e w3 ⟨vx, rfl, hox, hb⟩; refine ⟨_, rfl, ?_⟩; have HX := ak_ (Kd.qaw hox (Nat.le_trans HBS.1 (qab qao))); clear hox; obtain ⟨Ax, cx, ex⟩ := Kd.qaI HX.1; subst ex; replace HB := ak_ (qaa qao hb); replace HW := HW.mw hb; have qqE : w3.cell? ⟨gw, 0, none⟩ = some (.string x0) := qcR HW.1 0 x0 HX0.1; have qqF : w3.cell? ⟨gw, 1, none⟩ = some (.string x1) := qcR HW.1 1 x1 HX1.1; clear hb))
         go_ret
         exact ⟨rfl, SM.1 _ qao⟩
       | true =>
         rw [if_pos rfl] at h
         rcases Cmd.rule hkd with rfl | rfl
         ·rw [if_neg (by decide), Option.bind_some] at h; obtain ⟨⟨rs1, qjD⟩, A2, h⟩ := qaB h; dsimp only at h; obtain ⟨rfl, rfl, rfl⟩ := qfI h
          have hwx : x0.toList = [114, 117, 108, 101, 115] := by rw [HWD.1, toList_data]; rfl
          have hwy : (x0.toList == [97, 100, 100]) = false := by rw [hwx]; rfl
          clear hkd htl hw0 hwl hln hwx; go_enter Tryz.func45, Tryz.ntmps45
          go_wp2_with (first | (refine gl_ 16 Tryz.func68 #[.string s, .string ⟨#[32]⟩] rfl qb6 ?_; (refine (qdh s ⟨#[32]⟩ _ (by have := HS.1; omega) rfl (qbc.below HG.1 qao)).mono ?_); rintro e w1 ⟨vw, rfl, how, hb⟩; refine ⟨_, rfl, ?_⟩; have HW := ak_ (show Kd.R Kd.string 9 _ w.heap.size (fun _ => True) vw ws from qqH); obtain ⟨gw, cw, ew, -⟩ := Kd.qe8 HW.1 HWP.1; subst ew; replace HB := ak_ (qaa qao hb); have qhp : w1.cell? ⟨gw, 0, none⟩ = some (.string x0) := qcR HW.1 0 x0 HX0.1; have qmc : w1.cell? ⟨gw, 1, none⟩ = some (.string x1) := qcR HW.1 1 x1 HX1.1; clear hb; clear how) | (refine gl_ 21 Tryz.func69 #[.string x0] rfl qb6 ?_; (refine ((qbH.calls x0 ⟨#[114]⟩ true _ qrP)).mono ?_); rintro e w2 ⟨rfl, hb⟩; refine ⟨_, rfl, ?_⟩; replace HB := ak_ (qaa qao hb); replace HW := HW.mw hb; have qhq : w2.cell? ⟨gw, 0, none⟩ = some (.string x0) := qcR HW.1 0 x0 HX0.1; have qmd : w2.cell? ⟨gw, 1, none⟩ = some (.string x1) := qcR HW.1 1 x1 HX1.1; clear hb) | (refine gl_ 41 Tryz.func70 #[.string x1] rfl qb6 ?_; (refine (qaV.calls k x1 xs true _ A1.1 (qbc.below HG.1 qao)).mono ?_); rintro e w3 ⟨vx, rfl, hox, hb⟩; refine ⟨_, rfl, ?_⟩; have HX := ak_ (Kd.qaw hox (Nat.le_trans HBS.1 (qab qao))); clear hox; obtain ⟨Ax, cx, ex⟩ := Kd.qaI HX.1; subst ex; replace HB := ak_ (qaa qao hb); replace HW := HW.mw hb; have qqE : w3.cell? ⟨gw, 0, none⟩ = some (.string x0) := qcR HW.1 0 x0 HX0.1; have qqF : w3.cell? ⟨gw, 1, none⟩ = some (.string x1) := qcR HW.1 1 x1 HX1.1; clear hb) | (refine gl_ 60 Tryz.func71 #[.pointer (some ⟨g, 0, none⟩), .slice Ax xs.length cx, .bool true] rfl qb6 ?_; (refine (qeZ k base g Ax cx xs true rs mo rs1 qjD _ (SM.1 _ qao).1 qnq A2.1).mono ?_); rintro e w9 ⟨rfl, hD, hk⟩; refine ⟨_, rfl, ?_⟩; have HD := ak_ hD; have HKb := ak_ (qcA.trans (qcA.qbR qao g) hk); clear hD hk))
          go_ret
          exact ⟨rfl, HD.1, HKb.1⟩
         rw [if_pos (show Cmd.cAdd.bytes = [97, 100, 100] from rfl)] at h; obtain ⟨ys, A0_, h⟩ := qaB h; obtain ⟨⟨rs1, qjD⟩, A2, h⟩ := qaB h; dsimp only at h; obtain ⟨rfl, rfl, rfl⟩ := qfI h
         have hwx : x0.toList = [97, 100, 100] := by rw [HWD.1, toList_data]; rfl
         have hwy : (x0.toList == [97, 100, 100]) = true := by rw [hwx]; rfl
         have hle := A0_.1; clear A0_; by_cases hlq : rs.length + xs.length < 8796093022208; rotate_left
         ·rw [if_neg hlq] at hle; exact absurd hle (by simp)
         rw [if_pos hlq] at hle; have HLq := ak_ hlq; have HYE := ak_ (Option.some.inj hle); clear hkd htl hw0 hwl hln hwx hle hlq; go_enter Tryz.func45, Tryz.ntmps45
         go_wp2_with (first | (refine gl_ 16 Tryz.func68 #[.string s, .string ⟨#[32]⟩] rfl qb6 ?_; (refine (qdh s ⟨#[32]⟩ _ (by have := HS.1; omega) rfl (qbc.below HG.1 qao)).mono ?_); rintro e w1 ⟨vw, rfl, how, hb⟩; refine ⟨_, rfl, ?_⟩; have HW := ak_ (show Kd.R Kd.string 9 _ w.heap.size (fun _ => True) vw ws from qqH); obtain ⟨gw, cw, ew, -⟩ := Kd.qe8 HW.1 HWP.1; subst ew; replace HB := ak_ (qaa qao hb); have qhp : w1.cell? ⟨gw, 0, none⟩ = some (.string x0) := qcR HW.1 0 x0 HX0.1; have qmc : w1.cell? ⟨gw, 1, none⟩ = some (.string x1) := qcR HW.1 1 x1 HX1.1; clear hb; clear how) | (refine gl_ 21 Tryz.func69 #[.string x0] rfl qb6 ?_; (refine ((qbH.calls x0 ⟨#[114]⟩ true _ qrP)).mono ?_); rintro e w2 ⟨rfl, hb⟩; refine ⟨_, rfl, ?_⟩; replace HB := ak_ (qaa qao hb); replace HW := HW.mw hb; have qhq : w2.cell? ⟨gw, 0, none⟩ = some (.string x0) := qcR HW.1 0 x0 HX0.1; have qmd : w2.cell? ⟨gw, 1, none⟩ = some (.string x1) := qcR HW.1 1 x1 HX1.1; clear hb) | (refine gl_ 41 Tryz.func70 #[.string x1] rfl qb6 ?_; (refine (qaV.calls k x1 xs true _ A1.1 (qbc.below HG.1 qao)).mono ?_); rintro e w3 ⟨vx, rfl, hox, hb⟩; refine ⟨_, rfl, ?_⟩; have HX := ak_ (Kd.qaw hox (Nat.le_trans HBS.1 (qab qao))); clear hox; obtain ⟨Ax, cx, ex⟩ := Kd.qaI HX.1; subst ex; replace HB := ak_ (qaa qao hb); replace HW := HW.mw hb; have qqE : w3.cell? ⟨gw, 0, none⟩ = some (.string x0) := qcR HW.1 0 x0 HX0.1; have qqF : w3.cell? ⟨gw, 1, none⟩ = some (.string x1) := qcR HW.1 1 x1 HX1.1; clear hb; have HBA := HB; have HB3 := br_ w3; have HXw := HX; clear HX) | ((with_reducible refine qam (N := 50) rfl ?_); refine li_ qaG 85 50 rfl (xs := ([] : List qac)) qa1 ?_; intro vl50 w50 ho hb; have HV := ak_ (Kd.qaw ho (qab k79_)); replace HB3 := ak_ (qaa k79_ hb); clear hb ho; clear HB HC HO; have HB := ak_ (qaa HBA.1 HB3.1); have HC := ak_ (qap HCw.1 HB.1); have HO := ak_ (Kd.qbs HOw.1 HB.1); obtain ⟨hzw50_0, hzw50_1, hfw50_0, hfw50_1⟩ := qbl HC.1) | ((with_reducible refine qa5 (b := .append) (xs := #[.tmp 50, .tmp 54]) rfl ?_); at_builtin; refine Kd.qdS qaG (w0 := w3) w3.heap.size rfl (.tmp 50) (.tmp 54) 26 85 (.agg #[(.int .i64 0), (.int .i64 0)]) 16 rfl Tryz.underlying26 qcX rfl (by decide) (by omega) (vl50) [] rs _ _ _ (fun _ => True) (fun _ => False) rfl rfl ?aO ?aR (fun _ _ h => h) (fun _ h => h.elim) ?aF ?aB ?aS ?aL ?_; (case aR => exact qjW); (case aB => exact k79_); (case aF => exact (fun _ _ => trivial)); (case aO => exact (by apply_rules only [HV.1, Kd.qaq, Kd.qar, Kd.qax])); (case aS => exact (qab k79_)); (case aL => have := HLn.1; have := HLq.1; (try simp only [List.length_nil]); omega); intro v55 w55 ho hb hg hat; rw [List.nil_append] at ho; have HV2 := ak_ ho; replace HB3 := ak_ hb; clear HV; clear ho hb hg hat; clear HB; have HB := ak_ (qaa HBA.1 HB3.1); obtain ⟨Ay, cy, ey⟩ := Kd.qaI HV2.1; subst ey) | ((with_reducible refine qa5 (b := .append) (xs := #[.tmp 55, .tmp 56]) rfl ?_); at_builtin; refine Kd.qdS qaG (w0 := w3) w3.heap.size rfl (.tmp 55) (.tmp 56) 26 85 (.agg #[(.int .i64 0), (.int .i64 0)]) 16 rfl Tryz.underlying26 qcX rfl (by decide) (by omega) (.slice Ay rs.length cy) rs xs _ _ _ (fun _ => True) (fun _ => False) rfl rfl ?aO ?aR (fun _ _ h => h) (fun _ h => h.elim) ?aF ?aB ?aS ?aL ?_; (case aR => exact (Kd.qd0 (Kd.qan HXw.1).2.2 k79_)); (case aB => exact k79_); (case aF => exact (fun _ _ => trivial)); (case aO => exact (by apply_rules only [HV2.1, Kd.qaq, Kd.qar, Kd.qax])); (case aS => exact (qab k79_)); (case aL => have := HLn.1; have := HLq.1; (try simp only [List.length_nil]); omega); intro v57 w57 ho hb hg hat; rw [HYE.1] at ho; have HXx := ak_ ho; replace HB3 := ak_ hb; clear HV2; clear ho hb hg hat; clear HB; have HB := ak_ (qaa HBA.1 HB3.1); have HX := ak_ (Kd.qaw HXx.1 (Nat.le_trans HBS.1 (qab HBA.1))); clear HXx; obtain ⟨Az, cz, ez⟩ := Kd.qaI HX.1; subst ez) | (refine gl_ 60 Tryz.func71 #[.pointer (some ⟨g, 0, none⟩), .slice Az ys.length cz, .bool true] rfl qb6 ?_; (refine (qeZ k base g Az cz ys true rs mo rs1 qjD _ (SM.1 _ qao).1 qnq A2.1).mono ?_); rintro e w9 ⟨rfl, hD, hk⟩; refine ⟨_, rfl, ?_⟩; have HD := ak_ hD; have HKb := ak_ (qcA.trans (qcA.qbR qao g) hk); clear hD hk))
         go_ret
         exact ⟨rfl, HD.1, HKb.1⟩
      rw [hkd] at h htl; obtain ⟨x1, rfl⟩ := List.length_eq_one_iff.1 htl; have HX1 := ak_ (show ws[1]? = some x1 from by rw [hw0]; rfl); have HKD := ak_ hkd
      have hln : ws.length = 2 := by rw [hw0]; rfl
      have hlc : ((ws.length : Int) != 2) = false := bne_eq_false_iff_eq.2 (by omega); have hld : ((ws.length : Int) == 2) = true := beq_iff_eq.2 (by omega)
      have hlt1 : (1 : Int) < (ws.length : Int) := by omega
      have HS1 := ak_ (HWM.1 x1 (by rw [hw0]; simp)); clear hkd htl hw0 hwl hln; replace h : ((qcd.f x1).bind fun q => if q.2.2 = true then ((qc2.f k q.1 q.2.1).bind fun u => (qaH.f k u.1).bind fun z => (qb2.f z u.2).bind fun z => some (rs, mo, z)) else some (rs, mo, (⟨#[110, 111]⟩ : ByteArray))) = some (rs', mo', txt) := h; obtain ⟨⟨pa, pb, pok⟩, A1, h⟩ := qaB h; dsimp only at h
      cases pok with
      | false =>
        rw [if_neg (by decide)] at h; obtain ⟨rfl, rfl, rfl⟩ := qfI h; go_enter Tryz.func45, Tryz.ntmps45
        go_wp2_with (first | (refine gl_ 16 Tryz.func68 #[.string s, .string ⟨#[32]⟩] rfl qb6 ?_; (refine (qdh s ⟨#[32]⟩ _ (by have := HS.1; omega) rfl (qbc.below HG.1 qao)).mono ?_); rintro e w1 ⟨vw, rfl, how, hb⟩; refine ⟨_, rfl, ?_⟩; have HW := ak_ (show Kd.R Kd.string 9 _ w.heap.size (fun _ => True) vw ws from qqH); obtain ⟨gw, cw, ew, -⟩ := Kd.qe8 HW.1 HWP.1; subst ew; replace HB := ak_ (qaa qao hb); have qhp : w1.cell? ⟨gw, 0, none⟩ = some (.string x0) := qcR HW.1 0 x0 HX0.1; have qmc : w1.cell? ⟨gw, 1, none⟩ = some (.string x1) := qcR HW.1 1 x1 HX1.1; clear hb; clear how) | (refine gl_ 21 Tryz.func69 #[.string x0] rfl qb6 ?_; (refine ((qbH.calls x0 ⟨#[115]⟩ true _ qrP)).mono ?_); rintro e w2 ⟨rfl, hb⟩; refine ⟨_, rfl, ?_⟩; replace HB := ak_ (qaa qao hb); replace HW := HW.mw hb; have qhq : w2.cell? ⟨gw, 0, none⟩ = some (.string x0) := qcR HW.1 0 x0 HX0.1; have qmd : w2.cell? ⟨gw, 1, none⟩ = some (.string x1) := qcR HW.1 1 x1 HX1.1; clear hb) | (refine gl_ 84 Tryz.func74 #[.string x1] rfl qb6 ?_; (refine (qcd.calls x1 pa pb false _ A1.1 (qbc.below HG.1 qao).1).mono ?_); rintro e w4 ⟨rfl, hb⟩; refine ⟨_, rfl, ?_⟩; replace HB := ak_ (qaa qao hb); clear hb) | ((with_reducible refine qam (N := 12) rfl ?_); refine bx_ 12 rfl (cs := #[.string (⟨#[]⟩ : ByteArray), .int .i64 0]) (t := 99) qa1 ?_; intro gQ hg w5 hbox hb; have HGQ := ak_ (show w.heap.size ≤ gQ from qtD); have hz0 : w5.cell? ⟨gQ, 0, none⟩ = some (.string (⟨#[]⟩ : ByteArray)) := (qba hbox 0).trans rfl; have hz1 : w5.cell? ⟨gQ, 1, none⟩ = some (.int .i64 0) := (qba hbox 1).trans rfl; have hf0 := qae hbox 0; have hf1 := qae hbox 1; replace HB := ak_ (qaa qao hb); clear hb hbox hg))
        go_ret
        exact ⟨rfl, SM.1 _ (qat (qat HB.1 HGQ.1) HGQ.1)⟩
      | true =>
        rw [if_pos rfl] at h; obtain ⟨⟨xs, ok⟩, A2, h⟩ := qaB h; dsimp only at h; obtain ⟨z1, A3, h⟩ := qaB h; obtain ⟨z, A4, h⟩ := qaB h; obtain ⟨rfl, rfl, rfl⟩ := qfI h; go_enter Tryz.func45, Tryz.ntmps45
        go_wp2_with (first | (refine gl_ 16 Tryz.func68 #[.string s, .string ⟨#[32]⟩] rfl qb6 ?_; (refine (qdh s ⟨#[32]⟩ _ (by have := HS.1; omega) rfl (qbc.below HG.1 qao)).mono ?_); rintro e w1 ⟨vw, rfl, how, hb⟩; refine ⟨_, rfl, ?_⟩; have HW := ak_ (show Kd.R Kd.string 9 _ w.heap.size (fun _ => True) vw ws from qqH); obtain ⟨gw, cw, ew, -⟩ := Kd.qe8 HW.1 HWP.1; subst ew; replace HB := ak_ (qaa qao hb); have qhp : w1.cell? ⟨gw, 0, none⟩ = some (.string x0) := qcR HW.1 0 x0 HX0.1; have qmc : w1.cell? ⟨gw, 1, none⟩ = some (.string x1) := qcR HW.1 1 x1 HX1.1; clear hb; clear how) | (refine gl_ 21 Tryz.func69 #[.string x0] rfl qb6 ?_; (refine ((qbH.calls x0 ⟨#[115]⟩ true _ qrP)).mono ?_); rintro e w2 ⟨rfl, hb⟩; refine ⟨_, rfl, ?_⟩; replace HB := ak_ (qaa qao hb); replace HW := HW.mw hb; have qhq : w2.cell? ⟨gw, 0, none⟩ = some (.string x0) := qcR HW.1 0 x0 HX0.1; have qmd : w2.cell? ⟨gw, 1, none⟩ = some (.string x1) := qcR HW.1 1 x1 HX1.1; clear hb) | (refine gl_ 84 Tryz.func74 #[.string x1] rfl qb6 ?_; (refine (qcd.calls x1 pa pb true _ A1.1 (qbc.below HG.1 qao).1).mono ?_); rintro e w4 ⟨rfl, hb⟩; refine ⟨_, rfl, ?_⟩; replace HB := ak_ (qaa qao hb); clear hb) | ((with_reducible refine qam (N := 12) rfl ?_); refine bx_ 12 rfl (cs := #[.string (⟨#[]⟩ : ByteArray), .int .i64 0]) (t := 99) qa1 ?_; intro gQ hg w5 hbox hb; have HGQ := ak_ (show w.heap.size ≤ gQ from qtD); have hz0 : w5.cell? ⟨gQ, 0, none⟩ = some (.string (⟨#[]⟩ : ByteArray)) := (qba hbox 0).trans rfl; have hz1 : w5.cell? ⟨gQ, 1, none⟩ = some (.int .i64 0) := (qba hbox 1).trans rfl; have hf0 := qae hbox 0; have hf1 := qae hbox 1; replace HB := ak_ (qaa qao hb); clear hb hbox hg) | (refine gl_ 91 Tryz.func75 #[.agg #[.string pa, .int .i64 pb]] rfl qb6 ?_; (refine (qc2.calls k pa pb xs ok _ A2.1).mono ?_); rintro e w6 ⟨vx, rfl, hox, hb⟩; refine ⟨_, rfl, ?_⟩; have hB2 := qaa (w := w) (by first | exact (qat (qat HB.1 HGQ.1) HGQ.1) | apply_rules only [qal, qaf, qah, (qat (qat HB.1 HGQ.1) HGQ.1)]) hb; have HX := ak_ (Kd.qaw hox (Nat.le_trans HBS.1 (by first | exact qab (qat (qat HB.1 HGQ.1) HGQ.1) | exact qab (by apply_rules only [qal, qaf, qah, (qat (qat HB.1 HGQ.1) HGQ.1)])))); clear HB hox hb; have HB := ak_ hB2; clear hB2; obtain ⟨Ax, cx, ex⟩ := Kd.qaI HX.1; subst ex) | (refine gl_ 95 Tryz.func54 #[.slice Ax xs.length cx] rfl qb6 ?_; (refine (qaH.calls k _ _ xs z1 _ qrr (Kd.qan HX.1).2.1 A3.1).mono ?_); rintro e w7 ⟨rfl, hb⟩; refine ⟨_, rfl, ?_⟩; replace HB := ak_ (qaa qao hb); clear hb) | (refine gl_ 97 Tryz.func76 #[.string z1, .bool ok] rfl qb6 ?_; (refine ((qb2.calls z1 ok z _ A4.1)).mono ?_); rintro e w8 ⟨rfl, hd_⟩; refine ⟨_, rfl, ?_⟩; have hb := hd_.below; clear hd_; replace HB := ak_ (qaa qao hb); clear hb))
        go_ret
        exact ⟨rfl, SM.1 _ qao⟩
def qgM.f  : Option ((List (qac)) × Int) := some ((([(⟨2, 0⟩ : qac), (⟨3, 0⟩ : qac)] : List (qac))), 30)
theorem qgM.calls  (r1 : List (qac)) (r2 : Int) (w : World) (h : qgM.f  = some (r1, r2)) :
  Calls Tryz.prog 58 #[] w fun e w' => ∃ v0_ : Value, e = .returned (.agg #[v0_, .int .i64 r2]) ∧ Kd.R qaG 85 w' w.heap.size (fun _ => True) v0_ r1 ∧ Below w.heap.size w w' := by
 have hu28 := Tryz.underlying28; have qme := Tryz.underlying85; have HB := br_ w; have H : (some ((([(⟨2, 0⟩ : qac), (⟨3, 0⟩ : qac)] : List (qac))), 30)) = some (r1, r2) := h; clear h
 obtain ⟨qim, hy_⟩ : ∃ y_ : List (qac), y_ = (([(⟨2, 0⟩ : qac), (⟨3, 0⟩ : qac)] : List (qac))) := ⟨_, rfl⟩
 replace H : (some (qim, 30)) = some (r1, r2) := qfb; have qgI := ak_ hy_; clear hy_; obtain ⟨rfl, rfl⟩ := qdQ H; go_enter Tryz.func58, Tryz.ntmps58
 go_wp2_with (first | ((with_reducible refine qam (N := 0) rfl ?_); refine bx_ 0 rfl (cs := #[.slice none 0 0, .int .i64 0]) (t := 28) qa1 ?_; intro qbD hg w1 hbox hb; have qas := ak_ (hbox); have qdO := ak_ (HB.ge hg); have qdz := ak_ (HB.ge hg); replace HB := HB.mw hb; clear hb hbox hg) | ((with_reducible refine qam (N := 3) rfl ?_); refine Kd.qhH qaG _ 85 ?hg (N := 3) ?hd (xs := ([(⟨2, 0⟩ : qac), (⟨3, 0⟩ : qac)] : List (qac))) (inner := [.int .i64 2, .int .i64 0, .int .i64 3, .int .i64 0]) (ok := fun _ => True) (okp := fun _ => True) ?hr ?hp (fun _ hk => hk) trivial (Below.refl _ _) (Nat.le_refl _) (by simp) ?_; (case hd => rfl); (case hg => rfl); (case hr => exact qa1); (case hp => exact (qep.c2 (show Kd.M qaG _ _ _ (⟨2, 0⟩ : qac) [.int .i64 2, .int .i64 0] from (qc7 _ _ _ (⟨2, 0⟩ : qac) )) (qep.c2 (show Kd.M qaG _ _ _ (⟨3, 0⟩ : qac) [.int .i64 3, .int .i64 0] from (qc7 _ _ _ (⟨3, 0⟩ : qac) )) (qep.none _ _)))); intro qht w2 ho3 hb hg_ hnew_; clear hg_ hnew_; (first | rw [← qgI.1] at ho3 | (simp only [Int.reduceToNat] at ho3; rw [← qgI.1] at ho3)); have qbZ := ak_ (Kd.qaw ho3 (qab qcw)); replace qas := qas.mw hb; replace HB := ak_ (qaa qcw hb); clear hb ho3; obtain ⟨Ao4, co4, eo4⟩ := Kd.qaI qbZ.1; subst eo4; obtain ⟨qsX, qsY, qtd, qte⟩ := qbl qas.1))
 refine bodyPost_ret (results_cell_row rfl _ _ qbD 28 #[.slice Ao4 qim.length co4, .int .i64 30] (0, 0) _ rfl (by (with_reducible repeat (first | refine qaj ?_ _ | refine qak ?_ | refine qag ?_ _)); refine qa9 (cs := #[.slice Ao4 qim.length co4, .int .i64 0]) ?_ 1 _ rfl; (with_reducible repeat (first | refine qaj ?_ _ | refine qak ?_ | refine qag ?_ _)); refine qa9 (cs := #[.slice none 0 0, .int .i64 0]) ?_ 0 _ rfl; apply_rules only [qas.1, qaj, qak, qag]) Tryz.underlying28 rfl (by kernel_rfl)) rfl ?_; exact ⟨_, qca, by (with_reducible repeat (first | apply Kd.qaq | apply Kd.qar | apply Kd.qax)); exact Kd.qa2 (Kd.qco (p := ⟨qbD, 1, none⟩) (Kd.qco (p := ⟨qbD, 0, none⟩) (Kd.qcc qbZ.1 qas.1 (by decide)) (fun _ hk => hk.2) (.slice Ao4 qim.length co4)) (fun _ hk => hk.2) (.int .i64 30)) (fun _ hk => trivial), qcw⟩
def qbh.l0 (k : Nat) : Nat → List qac → Int → ByteArray → List ByteArray → Option (List ByteArray × List qac × Int × Bool)
  | 0, _, _, _, _ => none
  | n + 1, rs, mo, s, out => if s.toList = [] then some (out, rs, mo, true) else (if (Lib.cut s.data.toList [10]).2.2 = true then (if out.length = 50 then some ([], [], 0, false) else ((qfz.f k rs mo ⟨(Lib.cut s.data.toList [10]).1.toArray⟩).bind fun p => qbh.l0 k n p.1 p.2.1 ⟨(Lib.cut s.data.toList [10]).2.1.toArray⟩ (out ++ [p.2.2]))) else some ([], [], 0, false))
def qbh.f (k : Nat) (s : ByteArray) : Option (List ByteArray × List qac × Int × Bool) := if s.size ≤ 3000 then qbh.l0 k k ([⟨2, 0⟩, ⟨3, 0⟩] : List qac) 30 s [] else some ([], [], 0, false)
theorem qbh.calls (k : Nat) (s : ByteArray) (r1 : List ByteArray) (r2 : List qac) (r3 : Int) (r4 : Bool) (w : World) (h : qbh.f k s = some (r1, r2, r3, r4)) (hG : qbc w) :
    Calls Tryz.prog 56 #[.string s] w fun e w' => ∃ v0_ v1_ : Value, e = .returned (.tuple #[v0_, .agg #[v1_, .int .i64 r3], .bool r4]) ∧ Kd.R Kd.string 9 w' w.heap.size (fun _ => True) v0_ r1 ∧ Kd.R qaG 85 w' w.heap.size (fun _ => True) v1_ r2 ∧ Below w.heap.size w w' := by
  have hu := Tryz.underlying28; have HG := ak_ hG; have HB := br_ w; clear hG; unfold qbh.f at h; by_cases hs : s.size ≤ 3000; rotate_left
  ·rw [if_neg hs] at h; have hsb : decide (3000 < (s.size : Int)) = true := decide_eq_true (by omega); have hsc : decide (3000 < s.size) = true := decide_eq_true (by omega); have H := h; clear h hs; obtain ⟨rfl, rfl, rfl, rfl⟩ := pj4_ H; go_enter Tryz.func56, Tryz.ntmps56
   go_wp2_with (first | ((with_reducible refine qam (N := 3) rfl ?_); refine bx_ 3 rfl (cs := #[.slice none 0 0, .int .i64 0]) (t := 28) qa1 ?_; intro g3 hg w3 hbox hb; have B3 := ak_ hbox; have G3 := ak_ (show w.heap.size ≤ g3 from qtD); replace HB := ak_ (qaa qao hb); obtain ⟨hqw3_0, fqw3_0⟩ := qcx B3.1; have hqw3_1 := qbA B3.1; have fqw3_1 := qae B3.1 1; clear hb hbox hg))
   refine bodyPost_ret (qb8 (rs := [.tmp 2, .cell 3 28, .tmp 4]) rfl (by simp) (.tmp (.cell g3 28 #[.slice none 0 0, .int .i64 0] (0, 0) _ rfl k52_ Tryz.underlying28 rfl (by kernel_rfl) (.tmp .nil)))) rfl ?_; exact ⟨_, _, rfl, Kd.qf2 _ _ _ _ _, Kd.qf2 _ _ _ _ _, (by apply_rules only [HB.1, qal, qaf, qah, qat, G3.1])⟩
  rw [if_pos hs] at h; have hsb : decide (3000 < (s.size : Int)) = false := decide_eq_false (by omega); have hsc : decide (3000 < s.size) = false := decide_eq_false (by omega); have HS0 := ak_ hs; have H' := ak_ h; clear h hs; go_enter Tryz.func56, Tryz.ntmps56
  go_wp2_with (first | ((with_reducible refine qam (N := 3) rfl ?_); refine bx_ 3 rfl (cs := #[.slice none 0 0, .int .i64 0]) (t := 28) qa1 ?_; intro g3 hg w3 hbox hb; have B3 := ak_ hbox; have G3 := ak_ (show w.heap.size ≤ g3 from qtD); replace HB := ak_ (qaa qao hb); obtain ⟨hqw3_0, fqw3_0⟩ := qcx B3.1; have hqw3_1 := qbA B3.1; have fqw3_1 := qae B3.1 1; clear hb hbox hg) | (refine gl_ 14 Tryz.func58 #[] rfl qb6 ?_; (refine ((qgM.calls _ _ _ rfl)).mono ?_); rintro e w4 ⟨v0, rfl, ho, hb⟩; refine ⟨_, rfl, ?_⟩; have HO := ak_ (Kd.qaw ho (qab qao)); replace B3 := B3.mw hb; replace HB := ak_ (qaa qao hb); obtain ⟨A0, c0, eo⟩ := Kd.qaI HO.1; subst eo; clear ho hb) | ((with_reducible refine qam (N := 5) rfl ?_); refine bx_ 5 rfl (cs := #[.slice none 0 0, .int .i64 0]) (t := 28) qa1 ?_; intro g5 hg w5 hbox hb; have B5 := ak_ hbox; have G5 := ak_ (show w.heap.size ≤ g5 from qtD); have NE := ak_ (show g3 ≠ g5 from by rw [hg]; exact Nat.ne_of_lt (qd2 k97_)); replace B3 := B3.mw hb; replace HO := HO.mw hb; replace HB := ak_ (qaa qao hb); obtain ⟨hdw5_0, fdw5_0⟩ := qcx B5.1; have hdw5_1 := qbA B5.1; have fdw5_1 := qae B5.1 1; clear hb hbox hg) | ((with_reducible refine qam (N := 15) rfl ?_); refine li_ Kd.string 9 15 rfl (xs := ([] : List ByteArray)) qa1 ?_; intro vl15 w15 ho hb; have hW : Below w.heap.size w ((w5.setCell ⟨g5, 0, none⟩ (.slice A0 2 c0)).setCell ⟨g5, 1, none⟩ (.int .i64 30)) := qat (qat qao G5.1) G5.1; have HV := ak_ (Kd.qaw ho (qab hW)); have HD := ak_ (show qfR w15 w.heap.size g5 ([⟨2, 0⟩, ⟨3, 0⟩] : List qac) 30 from ⟨A0, c0, qap (qa9 (qa9 (by apply_rules only [B5.1, qaj, qak, qag]) 0 _ rfl) 1 _ rfl) hb, Kd.qbs (Kd.qg2 (Kd.qg2 k94_ (by apply_rules only [B5.1, qaj, qak, qag]) (by decide) 0 _) (qa9 (by apply_rules only [B5.1, qaj, qak, qag]) 0 _ rfl) (by decide) 1 _) hb⟩); have B3_ := ak_ (qap (qce (qce k97_ (by exact NE.1) _) (by exact NE.1) _) hb); clear B3; have B3 := B3_; clear B3_; replace HB := ak_ (qaa hW hb); clear hb ho hW))
  go_loopg [0, 6] k (fun kq v0 v6 w' => ∃ (s_1 : ByteArray) (qf6 : List ByteArray) (rs : List qac) (mo : Int), v0 = .string s_1 ∧ qai (qbh.l0 k kq rs mo s_1 qf6 = some (r1, r2, r3, r4)) ∧ qai (kq ≤ k) ∧ qai (s_1.size ≤ 3000) ∧ qai (qf6.length ≤ 50) ∧ qai (qfR w' w.heap.size g5 rs mo) ∧ qai (w'.heap[g3]? = some (.cells #[.slice none 0 0, .int .i64 0] 28 (0, 0))) ∧ qai (Kd.R Kd.string 9 w' w.heap.size (fun _ => True) v6 qf6) ∧ qai (Below w.heap.size w w'))
  case atStart => exact ⟨s, [], ([⟨2, 0⟩, ⟨3, 0⟩] : List qac), 30, rfl, H', ⟨Nat.le_refl _⟩, HS0, ⟨by simp⟩, HD, B3, HV, HB⟩
  case round =>
    clear H' HD B3 HV HB HO; (try clear B5); obtain ⟨s_1, qf6, rs, mo, rfl, HA, HK1, HSZ, HLO, HD, B3, qfH, HB⟩ := hrel; obtain ⟨A0, c0, hC5, hO5⟩ := HD.1; have B5 := ak_ hC5; have HO := ak_ hO5; clear hC5 hO5 HD; obtain ⟨hqwr_0, fqwr_0⟩ := qcx B3.1; have hqwr_1 := qbA B3.1; have fqwr_1 := qae B3.1 1; obtain ⟨hdwr_0, fdwr_0⟩ := qcx B5.1; have hdwr_1 := qbA B5.1; have fdwr_1 := qae B5.1 1
    cases gk with
    | zero => exact absurd HA.1 (by simp [qbh.l0])
    | succ k1 =>
      have H := HA.1; clear HA; unfold qbh.l0 at H; by_cases hd : s_1.toList = []
      ·rw [if_pos hd] at H; have hdb : (s_1.toList != []) = false := bne_eq_false_iff_eq.2 hd; have hdc : (s_1.toList == []) = true := beq_iff_eq.2 hd; clear hd; obtain ⟨rfl, rfl, rfl, rfl⟩ := pj4_ H; obtain ⟨A6, c6, e6⟩ := Kd.qaI qfH.1; subst e6; go_wp2
       go_region
       all_goals (go_wp2; refine bodyPost_ret (qb8 (rs := [.tmp 2, .cell 3 28, .tmp 4]) rfl (by simp) (.tmp (.cell g3 28 #[.slice A0 rs.length c0, .int .i64 mo] (0, 0) _ rfl k52_ Tryz.underlying28 rfl (by kernel_rfl) (.tmp .nil)))) rfl ?_; exact ⟨_, _, rfl, (by (with_reducible repeat (first | apply Kd.qaq | apply Kd.qar | apply Kd.qax)); exact (Kd.qa2 (Kd.qco (p := ⟨g3, 1, none⟩) (Kd.qco (p := ⟨g3, 0, none⟩) (Kd.qcc qpL k97_ (by decide)) (fun _ hk => hk.2) _) (fun _ hk => hk.2) _) (fun _ _ => trivial))), (by (with_reducible repeat (first | apply Kd.qaq | apply Kd.qar | apply Kd.qax)); exact (Kd.qa2 (Kd.qco (p := ⟨g3, 1, none⟩) (Kd.qco (p := ⟨g3, 0, none⟩) (Kd.qcc k94_ k97_ (by decide)) (fun _ hk => hk.2) _) (fun _ hk => hk.2) _) (fun _ _ => trivial))), (by apply_rules only [HB.1, qal, qaf, qah, qat, G3.1])⟩)
      rw [if_neg hd] at H; have hdb : (s_1.toList != []) = true := bne_iff_ne.2 hd; have hdc : (s_1.toList == []) = false := beq_eq_false_iff_ne.2 hd; have hl2 := qpf s_1.data.toList [10]
      obtain ⟨bf, hbf⟩ : ∃ x_ : ByteArray, x_ = ⟨(Lib.cut s_1.data.toList [10]).1.toArray⟩ := ⟨_, rfl⟩
      obtain ⟨nb, hnb⟩ : ∃ x_ : ByteArray, x_ = ⟨(Lib.cut s_1.data.toList [10]).2.1.toArray⟩ := ⟨_, rfl⟩
      obtain ⟨okc, hok⟩ : ∃ x_ : Bool, (Lib.cut s_1.data.toList [10]).2.2 = x_ := ⟨_, rfl⟩
      have hnd : nb.data.toList = (Lib.cut s_1.data.toList [10]).2.1 := by rw [hnb]
      have HNS := ak_ (show nb.size ≤ 3000 from by have h_ := HSZ.1; rw [qne] at h_ ⊢; rw [hnd]; omega); rw [← hbf, ← hnb, hok] at H; have HBF := ak_ hbf; have HNB := ak_ hnb; have HOK := ak_ hok; clear hbf hnb hok hnd hl2 hd; obtain ⟨A6, c6, e6⟩ := Kd.qaI qfH.1; subst e6
      cases okc with
      | false =>
        rw [if_neg (by decide)] at H; obtain ⟨rfl, rfl, rfl, rfl⟩ := pj4_ H
        go_wp2_with (first | (refine gl_ 20 Tryz.func90 #[.string s_1, .string ⟨#[10]⟩] rfl qb6 ?_; (refine (qip s_1 10 _ (by have := HSZ.1; omega) (qbc.below HG.1 qao).1).mono ?_); rintro e w20 ⟨rfl, hb⟩; refine ⟨_, rfl, ?_⟩; replace B3 := B3.mw hb; replace B5 := B5.mw hb; replace HO := HO.mw hb; replace qfH := qfH.mw hb; replace HB := ak_ (qaa qao hb); obtain ⟨qtk, qsB⟩ := qcx B3.1; have qtl := qbA B3.1; have qsC := qae B3.1 1; obtain ⟨qsZ, qsz⟩ := qcx B5.1; have qs0 := qbA B5.1; have qsA := qae B5.1 1; rw [← HBF.1, ← HNB.1, HOK.1]; clear hb))
        refine bodyPost_ret (qb8 (rs := [.tmp 2, .cell 3 28, .tmp 4]) rfl (by simp) (.tmp (.cell g3 28 #[.slice none 0 0, .int .i64 0] (0, 0) _ rfl k52_ Tryz.underlying28 rfl (by kernel_rfl) (.tmp .nil)))) rfl ?_; exact ⟨_, _, rfl, Kd.qf2 _ _ _ _ _, Kd.qf2 _ _ _ _ _, (by apply_rules only [HB.1, qal, qaf, qah, qat, G3.1])⟩
      | true =>
        rw [if_pos rfl] at H; by_cases hl : qf6.length = 50
        ·rw [if_pos hl] at H; have hlb : ((qf6.length : Int) == 50) = true := beq_iff_eq.2 (by omega); clear hl; obtain ⟨rfl, rfl, rfl, rfl⟩ := pj4_ H
         go_wp2_with (first | (refine gl_ 20 Tryz.func90 #[.string s_1, .string ⟨#[10]⟩] rfl qb6 ?_; (refine (qip s_1 10 _ (by have := HSZ.1; omega) (qbc.below HG.1 qao).1).mono ?_); rintro e w20 ⟨rfl, hb⟩; refine ⟨_, rfl, ?_⟩; replace B3 := B3.mw hb; replace B5 := B5.mw hb; replace HO := HO.mw hb; replace qfH := qfH.mw hb; replace HB := ak_ (qaa qao hb); obtain ⟨qtk, qsB⟩ := qcx B3.1; have qtl := qbA B3.1; have qsC := qae B3.1 1; obtain ⟨qsZ, qsz⟩ := qcx B5.1; have qs0 := qbA B5.1; have qsA := qae B5.1 1; rw [← HBF.1, ← HNB.1, HOK.1]; clear hb))
         refine bodyPost_ret (qb8 (rs := [.tmp 2, .cell 3 28, .tmp 4]) rfl (by simp) (.tmp (.cell g3 28 #[.slice none 0 0, .int .i64 0] (0, 0) _ rfl k52_ Tryz.underlying28 rfl (by kernel_rfl) (.tmp .nil)))) rfl ?_; exact ⟨_, _, rfl, Kd.qf2 _ _ _ _ _, Kd.qf2 _ _ _ _ _, (by apply_rules only [HB.1, qal, qaf, qah, qat, G3.1])⟩
        rw [if_neg hl] at H; have hlb : ((qf6.length : Int) == 50) = false := beq_eq_false_iff_ne.2 (by omega); obtain ⟨⟨rs2, mo2, txt⟩, A1, H⟩ := qaB H; have HLO2 := ak_ (show (qf6 ++ [txt]).length ≤ 50 from by have := HLO.1; rw [List.length_append]; simp only [List.length_cons, List.length_nil]; omega); have H' := ak_ H; clear hl H
        go_wp2_with (first | (refine gl_ 20 Tryz.func90 #[.string s_1, .string ⟨#[10]⟩] rfl qb6 ?_; (refine (qip s_1 10 _ (by have := HSZ.1; omega) (qbc.below HG.1 qao).1).mono ?_); rintro e w20 ⟨rfl, hb⟩; refine ⟨_, rfl, ?_⟩; replace B3 := B3.mw hb; replace B5 := B5.mw hb; replace HO := HO.mw hb; replace qfH := qfH.mw hb; replace HB := ak_ (qaa qao hb); obtain ⟨qtk, qsB⟩ := qcx B3.1; have qtl := qbA B3.1; have qsC := qae B3.1 1; obtain ⟨qsZ, qsz⟩ := qcx B5.1; have qs0 := qbA B5.1; have qsA := qae B5.1 1; rw [← HBF.1, ← HNB.1, HOK.1]; clear hb) | (refine gl_ 34 Tryz.func45 #[.pointer (some ⟨g5, 0, none⟩), .string bf] rfl qb6 ?_; (refine (qrv k w.heap.size g5 rs mo bf rs2 mo2 txt _ (qab qao) ⟨A0, c0, (by apply_rules only [B5.1, qaj, qak, qag]), k94_⟩ (qbc.below HG.1 qao) A1.1).mono ?_); rintro e w34 ⟨rfl, hD, hk⟩; refine ⟨_, rfl, ?_⟩; have HD := ak_ hD; have hB6 := Kd.qa2 (Kd.R_keep (Kd.qcc qpL (by apply_rules only [B5.1, qaj, qak, qag]) (by decide)) hk.1 (fun _ h_ => h_.2)) (fun _ _ => trivial); have hB3 := qeM.blk hk.1 k97_ NE.1 (by simp); have hB2 := qcA.below qao hk G5.1 (qab qao); clear qfH B3 HB B5 HO; have qfH := ak_ hB6; have B3 := ak_ hB3; have HB := ak_ hB2; clear hD hk hB6 hB3 hB2) | ((with_reducible refine qa5 (b := .append) (xs := #[.tmp 32, .tmp 35]) rfl ?_); at_builtin; refine Kd.qc8 Kd.string (w0 := w) w.heap.size rfl (.tmp 32) (.tmp 35) 43 9 (.string ⟨#[]⟩) 16 rfl Tryz.underlying43 qm1 rfl (by decide) (by omega) (.slice A6 qf6.length c6) qf6 txt [.string txt] (fun _ => True) (fun _ => False) rfl rfl ?aP (fun _ hk => hk.elim) ?aF ?aO ?aB ?aS ?aL ?_; (case aP => exact rfl); (case aB => exact qao); (case aF => exact (fun _ _ => trivial)); (case aO => exact qpL); (case aS => exact (qab qao)); (case aL => have := HLO.1; omega); intro v36 w36 ho hb hg hat; have HD2 := ak_ (show qfR w36 w.heap.size g5 rs2 mo2 from by obtain ⟨A_, c_, h1_, h2_⟩ := HD.1; exact ⟨A_, c_, qd9 (by apply_rules only [h1_, qaj, qak, qag]) hg (Kd.qo1 qpL (by apply_rules only [h1_, qaj, qak, qag]) (by decide)), Kd.qkF (by apply_rules only [h2_, Kd.qaq, Kd.qar, Kd.qax]) (Kd.qin qpL) (by decide) hg⟩); have B3_ := ak_ (qd9 k97_ hg (Kd.qo1 qpL k97_ (by decide))); clear HD B3 HB; have HD := HD2; have B3 := B3_; have HB := ak_ hb; have HO36 := ak_ ho; clear qfH HD2 B3_ ho hb hg hat))
        go_roundg k1
        case measure => have := HK1.1; omega
        case rel => exact ⟨nb, qf6 ++ [txt], rs2, mo2, rfl, H', ⟨qc9⟩, HNS, HLO2, HD, B3, HO36, HB⟩
def qcZ.f (k : Nat) (a0 : ByteArray) : Option ((List (qac)) × Int × Bool) := (qbh.f k a0).bind fun qdo => (some (qdo.2.1, qdo.2.2.1, qdo.2.2.2))
theorem qcZ.calls (k : Nat) (a0 : ByteArray) (r1 : List (qac)) (r2 : Int) (r3 : Bool) (w : World) (h : qcZ.f k a0 = some (r1, r2, r3)) (hG : qbc w) :
  Calls Tryz.prog 25 #[.string a0] w fun e w' => ∃ v0_ : Value, e = .returned (.tuple #[.agg #[v0_, .int .i64 r2], .bool r3]) ∧ Kd.R qaG 85 w' w.heap.size (fun _ => True) v0_ r1 ∧ Below w.heap.size w w' := by
 have hu28 := Tryz.underlying28; have HB := br_ w; have HG := ak_ hG; clear hG; have H : ((qbh.f k a0).bind fun qdo => (some (qdo.2.1, qdo.2.2.1, qdo.2.2.2))) = some (r1, r2, r3) := h; clear h; obtain ⟨⟨qaQ, t105, qrS, t109⟩, A2, H⟩ := qaB H; (try dsimp only at H); obtain ⟨rfl, rfl, rfl⟩ := qfI H; go_enter Tryz.func25, Tryz.ntmps25
 go_wp2_with (first | ((with_reducible refine qam (N := 2) rfl ?_); refine bx_ 2 rfl (cs := #[.slice none 0 0, .int .i64 0]) (t := 28) qa1 ?_; intro qbD hg w3 hbox hb; have qas := ak_ (hbox); have qdO := ak_ (HB.ge hg); have qdz := ak_ (HB.ge hg); replace HB := HB.mw hb; clear hb hbox hg) | (refine gl_ 9 Tryz.func56 #[.string a0] rfl qbJ ?_; (refine (qbh.calls k a0 qaQ t105 qrS t109 _ A2.1 (qbc.below HG.1 qcw)).mono ?_); rintro e w4 ⟨qht, qrK, rfl, ho0, ho1, hb⟩; refine ⟨_, rfl, ?_⟩; have qbZ := ak_ (Kd.qaw ho0 (qab qcw)); have qfa := ak_ (Kd.qaw ho1 (qab qcw)); replace qas := qas.mw hb; replace HB := ak_ (qaa qcw hb); (try clear hb ho0 ho1)) | ((with_reducible refine qam (N := 5) rfl ?_); refine bx_ 5 rfl (cs := #[.slice none 0 0, .int .i64 0]) (t := 28) qa1 ?_; intro qis hg w5 hbox hb; replace qbZ := qbZ.mw hb; replace qfa := qfa.mw hb; have qlC := ak_ (hbox); have GW110 := ak_ ((by rw [hg]; exact (qab qcw) : w.heap.size ≤ qis)); have GE110 := ak_ ((by rw [hg]; exact (qab qcw) : w.heap.size ≤ qis)); replace HB := ak_ (qaa qcw hb); have qeY := ak_ (qas.ne hg); have qhF := ak_ (qas.ne hg).symm; replace qas := qas.mw hb; clear hb hbox hg; obtain ⟨Ao6, co6, eo6⟩ := Kd.qaI qfa.1; subst eo6; have hnb7 := qhF.1; have hnc7 := qeY.1; obtain ⟨qjN, qjO, qjS, qjT⟩ := qbl qlC.1; obtain ⟨qgA, qgB, qgC, qgD⟩ := qbl qas.1))
 refine bodyPost_ret (qe6 rfl _ _ qbD 28 #[.slice Ao6 t105.length co6, .int .i64 qrS] (0, 0) _ rfl (by (with_reducible repeat (first | refine qaj ?_ _ | refine qak ?_ | refine qag ?_ _)); refine qa9 (cs := #[.slice Ao6 t105.length co6, .int .i64 0]) ?_ 1 _ rfl; (with_reducible repeat (first | refine qaj ?_ _ | refine qak ?_ | refine qag ?_ _)); refine qa9 (cs := #[.slice none 0 0, .int .i64 0]) ?_ 0 _ rfl; (with_reducible repeat (first | refine qaj ?_ _ | refine qak ?_ | refine qag ?_ _)); refine qce ?_ qeY.1 _; (with_reducible repeat (first | refine qaj ?_ _ | refine qak ?_ | refine qag ?_ _)); refine qce ?_ qeY.1 _; apply_rules only [qas.1, qaj, qak, qag]) Tryz.underlying28 rfl (by kernel_rfl)) rfl ?_; exact ⟨_, qca, by (with_reducible repeat (first | apply Kd.qaq | apply Kd.qar | apply Kd.qax)); exact Kd.qa2 (Kd.qco (p := ⟨qbD, 1, none⟩) (Kd.qco (p := ⟨qbD, 0, none⟩) (Kd.qco (p := ⟨qis, 1, none⟩) (Kd.qco (p := ⟨qis, 0, none⟩) (Kd.qcc (Kd.qcc qfa.1 qlC.1 (by decide)) qas.1 (by decide)) (fun _ hk => hk.1.2) (.slice Ao6 t105.length co6)) (fun _ hk => hk.1.2) (.int .i64 qrS)) (fun _ hk => hk.2) (.slice Ao6 t105.length co6)) (fun _ hk => hk.2) (.int .i64 qrS)) (fun _ hk => trivial), k68_⟩
def qdx.f (qfn : List (qac)) (qbY : Int) : Option ((List (qac)) × Int) := (some (([] : List (qac)) : List (qac))).bind fun qiN => (if qiN.length + qfn.length < 8796093022208 then (some ((qiN ++ qfn), qbY)) else (none))
def qdx.T1 : Bool × List (List Nat × List Nat) := (true, [([], []), ([], []), ([1], [1]), ([0, 2], [0, 2]), ([], []), ([4], [4]), ([3, 5], [3, 5]), ([6, 3, 0, 1, 2, 3, 4, 5, 6], [6])])
def qdx.B1 : List Nat := [0, 0, 2, 7, 0, 16, 63, 127]
theorem qdx.tab1 : qhC .any (opsOf Tryz.f41 1) = qdx.T1 := by kernel_rfl
theorem qdx.qse : qeG qdx.T1.2 qdx.B1 = true := by kernel_rfl
theorem qdx.calls (qlB : Option Addr) (qlG : Nat) (qfn : List (qac)) (qbY : Int) (r1 : List (qac)) (r2 : Int) (w : World) (qob : Kd.C qaG w qlB qfn.length qfn) (qn1 : qfn.length ≤ qlG) (h : qdx.f qfn qbY = some (r1, r2)) :
  Calls Tryz.prog 41 #[.agg #[.slice qlB qfn.length qlG, .int .i64 qbY]] w fun e w' => ∃ v0_ : Value, e = .returned (.agg #[v0_, .int .i64 r2]) ∧ Kd.R qaG 85 w' w.heap.size (fun _ => True) v0_ r1 ∧ Below w.heap.size w w' := by
 have hu28 := Tryz.underlying28; have HR0_0 := ak_ qob; have qoP := ak_ qn1; clear qob qn1; have HB := br_ w; have H : ((some (([] : List (qac)) : List (qac))).bind fun qiN => (if qiN.length + qfn.length < 8796093022208 then (some ((qiN ++ qfn), qbY)) else (none))) = some (r1, r2) := h; clear h
 obtain ⟨qiN, hy_⟩ : ∃ y_ : List (qac), y_ = (([] : List (qac))) := ⟨_, rfl⟩
 replace H : (if qiN.length + qfn.length < 8796093022208 then (some ((qiN ++ qfn), qbY)) else (none)) = some (r1, r2) := qfb; have qj8 := ak_ hy_; clear hy_; obtain ⟨c2, H⟩ := qct H; have LMc2 := ak_ c2; clear c2
 obtain ⟨qjH, hy_⟩ : ∃ y_ : List (qac), y_ = (qiN ++ qfn) := ⟨_, rfl⟩
 replace H : (some (qjH, qbY)) = some (r1, r2) := qfb; have qmF := ak_ hy_; clear hy_; obtain ⟨rfl, rfl⟩ := qdQ H; go_enter Tryz.func41, Tryz.ntmps41
 try go_wp2_with (first | ((with_reducible refine qam (N := 1) rfl ?_); refine bx_ 1 rfl (cs := #[.slice qlB qfn.length qlG, .int .i64 qbY]) (t := 28) qa1 ?_; intro qbD hg w3 hbox hb; have qas := ak_ (hbox); have qdO := ak_ (HB.ge hg); have qdz := ak_ (HB.ge hg); replace HB := HB.mw hb; clear hb hbox hg) | ((with_reducible refine qam (N := 2) rfl ?_); refine bx_ 2 rfl (cs := #[.slice none 0 0, .int .i64 0]) (t := 28) qa1 ?_; intro qcO hg w4 hbox hb; have qbI := ak_ (hbox); have qfE := ak_ ((by rw [hg]; exact (qab qcw) : w.heap.size ≤ qcO)); have qfq := ak_ ((by rw [hg]; exact (qab qcw) : w.heap.size ≤ qcO)); replace HB := ak_ (qaa qcw hb); have qdr := ak_ (qas.ne hg); have qd8 := ak_ (qas.ne hg).symm; replace qas := qas.mw hb; clear hb hbox hg))
 replace qas := ak_ (qak qas.1); replace qbI := ak_ (qak qbI.1); replace HB := ak_ (qah HB.1); refine qeS (n := 8) (S := fun w' => w'.cell? ⟨qbD, 0, none⟩ = some (.slice qlB qfn.length qlG) ∧ w'.cell? ⟨qbD, 1, none⟩ = some (.int .i64 qbY)) (ds := []) (rA_ [0, 8]) (by kernel_rfl) rfl rfl ⟨qd4 qas.1, qbA qas.1⟩ (fun hHeld => ?_); refine qc0 qdx.tab1 qdx.qse (fun HT_ HW_ => ?_)
 generalize w4.drew = w5 at qas qbI HB hHeld ⊢
 refine pu_ 1 4 [0, 1, 1, 6] ?_; refine pu_ 4 7 [0, 1, 1, 2, 1, 3] ?_; refine qii 2 5 [0, 1, 2, 1, 1, 3] ?_; refine qii 5 8 [0, 1, 2, 1, 2, 2] ?_; refine qfC (i := 0) (N := some 3) (rA_ [3, 1, 2, 2]) rfl rfl (qcJ HT_.out (by kernel_rfl)) (by decide) (fun K hK => ?_); refine Kd.qdJ qaG _ 85 ?hg (N := 3) ?hd (xs := ([] : List (qac))) (inner := []) (ok := fun _ => True) (okp := fun _ => True) ?hr ?hp (fun _ hk => hk) trivial (Below.refl _ _) (Nat.le_refl _) (by simp) ?_; (case hd => rfl); (case hg => rfl); (case hr => exact qa1); (case hp => exact (qep.none _ _)); intro qrJ w6 ho7 hb hg_ hnew_; clear hg_ hnew_; (first | rw [← qj8.1] at ho7 | (simp only [Int.reduceToNat] at ho7; rw [← qj8.1] at ho7)); have qes := ak_ (Kd.qaw ho7 (qab qqI)); replace qas := qas.mw hb; replace qbI := qbI.mw hb; replace HB := ak_ (qaa qqI hb); clear hb ho7; refine hK.out _ _ ⟨qd4 qas.1, qbA qas.1⟩ (fun hHeld => ?_); clear hK K; refine nm_ 3 ?_; refine qfC (i := 3) (N := some 6) (rA_ [6, 2]) rfl rfl (qcJ HT_.out (by kernel_rfl)) (by decide) (fun K hK => ?_); refine Kd.qbQ qaG (w0 := w) w.heap.size (by rfl) (.tmp 3) (.tmp 5) 26 85 (.agg #[(.int .i64 0), (.int .i64 0)]) 16 rfl Tryz.underlying26 qfV rfl (by decide) (by omega) qrJ qiN qfn _ _ _ (fun _ => True) (fun _ => False) rfl rfl ?aO ?aR (fun _ _ h => h) (fun _ h => h.elim) ?aF ?aB ?aS ?aL ?_
 (case aR => repeat (first | exact (Kd.qd0 HR0_0.1 HB.1) | (with_reducible refine Kd.C_alloc ?_ _) | (with_reducible refine Kd.C_drewN ?_ _) | (with_reducible refine Kd.C_drew ?_)))
 (case aB => exact qqI)
 (case aF => exact (fun _ _ => trivial))
 (case aO => exact (by apply_rules only [qes.1, Kd.qaq, Kd.qar, Kd.qax]))
 (case aS => exact (qab qqI))
 (case aL => have := LMc2.1; omega)
 intro v107 w8 ho hb hg hat; rw [← qmF.1] at ho; replace qas := ak_ (qd9 (g := qbD) (o := .cells #[.slice qlB qfn.length qlG, .int .i64 qbY] 28 (0, 0)) qmg hg (Kd.qo1 qes.1 qas.1 (by decide))); replace qbI := ak_ (qd9 (g := qcO) (o := .cells #[.slice none 0 0, .int .i64 0] 28 (0, 0)) (by apply_rules only [qbI.1, qaj, qak, qag]) hg (Kd.qo1 qes.1 qbI.1 (by decide))); replace HB := ak_ (hb); have qgx := ak_ (ho); clear qes; clear ho hb hg hat; obtain ⟨Ao9, co9, eo9⟩ := Kd.qaI qgx.1; (first | subst eo9 | (injection eo9 with f1_ f2_ f3_; have f4_ := f1_.symm; have f5_ := f3_.symm; clear f1_ f2_ f3_; subst f4_; subst f5_)); refine hK.out _ _ ⟨qd4 qas.1, qbA qas.1⟩ (fun hHeld => ?_); clear hK K; refine nm_ 6 ?_; refine pu_ 6 9 [7, 1] ?_; refine qfC (i := 7) (N := none) (rA_ [8]) rfl rfl (qcJ HT_.out (by kernel_rfl)) (by decide) (fun K hK => ?_); obtain ⟨hs10, hfs10⟩ := qcx qbI.1; have hns10_0 := qdr.1; have hms10_0 := qd8.1; have hs11 := qbA qbI.1; have hfs11 := qae qbI.1 1; have hns11_0 := qdr.1; have hms11_0 := qd8.1; refine skip_ (w1 := ?_) (by rfl) rfl ?_ ?_; rotate_left
 ·go_simp; rfl
 refine hK.out _ _ ⟨((cell_far (p := ⟨qcO, _, none⟩) qdr.1 _).trans (((cell_far (p := ⟨qcO, _, none⟩) qdr.1 _).trans (hHeld.1)))), ((cell_far (p := ⟨qcO, _, none⟩) qdr.1 _).trans (((cell_far (p := ⟨qcO, _, none⟩) qdr.1 _).trans (hHeld.2))))⟩ (fun hHeld => ?_); clear hK K; refine qf5 (qeh HT_.out (by kernel_rfl)) ?_
 try go_wp2
 refine bodyPost_ret (results_cell_row rfl _ _ qcO 28 #[.slice Ao9 qjH.length co9, .int .i64 qbY] (0, 0) _ rfl (by (with_reducible repeat (first | refine qaj ?_ _ | refine qak ?_ | refine qag ?_ _)); refine qa9 (cs := #[.slice Ao9 qjH.length co9, .int .i64 0]) ?_ 1 _ rfl; (with_reducible repeat (first | refine qaj ?_ _ | refine qak ?_ | refine qag ?_ _)); refine qa9 (cs := #[.slice none 0 0, .int .i64 0]) ?_ 0 _ rfl; apply_rules only [qbI.1, qaj, qak, qag]) Tryz.underlying28 rfl (by kernel_rfl)) rfl ?_; exact ⟨_, qca, by (with_reducible repeat (first | apply Kd.qaq | apply Kd.qar | apply Kd.qax)); exact Kd.qa2 (Kd.qco (p := ⟨qcO, 1, none⟩) (Kd.qco (p := ⟨qcO, 0, none⟩) (Kd.qcc qgx.1 qbI.1 (by decide)) (fun _ hk => hk.2) (.slice Ao9 qjH.length co9)) (fun _ hk => hk.2) (.int .i64 qbY)) (fun _ hk => trivial), qqI⟩
def qbj.l0 : Nat → ByteArray → Int → List ByteArray → Int → Int → Option (List ByteArray)
 | 0, _, _, _, _, _ => none
 | k + 1, x0, x1, x5, x6, x7 => if x7 < (x0.size : Int) then (if 0 ≤ x7 then (if (bt x0 x7) = x1 then (if 0 ≤ x6 then (if x6 ≤ x7 then (if x7 ≤ (x0.size : Int) then (if x5.length < 8796093022208 then (qbj.l0 k x0 x1 (x5 ++ [x0.extract (x6 : Int).toNat (x7 : Int).toNat]) (wrap64 (x7 + 1)) (wrap64 (x7 + 1))) else (none)) else (none)) else (none)) else (none)) else (qbj.l0 k x0 x1 x5 x6 (wrap64 (x7 + 1)))) else (none)) else (if 0 ≤ x6 then (if x6 ≤ (x0.size : Int) then (if x5.length < 8796093022208 then (some (x5 ++ [x0.extract (x6 : Int).toNat x0.size])) else (none)) else (none)) else (none))
def qbj.f (k : Nat) (a0 : ByteArray) (a1 : Int) : Option (List ByteArray) := qbj.l0 k a0 a1 ([] : List ByteArray) 0 0
theorem qbj.calls (k : Nat) (a0 : ByteArray) (a1 : Int) (r : List ByteArray) (w : World) (h : qbj.f k a0 a1 = some r) :
  Calls Tryz.prog 39 #[.string a0, .int .u8 a1] w fun e w' => ∃ v0_ : Value, e = .returned (v0_) ∧ Kd.R Kd.string 9 w' w.heap.size (fun _ => True) v0_ r ∧ Below w.heap.size w w' := by
 have HB := br_ w; have H : (qbj.l0 k a0 a1 ([] : List ByteArray) 0 0) = some r := h; clear h; have H' := ak_ H; clear H; go_enter Tryz.func39, Tryz.ntmps39; go_wp2
 go_loopg [5, 6, 7] k (fun kq v5 v6 v7 w' => ∃ (qbC : List ByteArray) (qdq : Int) (qdE : Int), v6 = .int .i64 qdq ∧ v7 = .int .i64 qdE ∧ qai (qbj.l0 kq a0 a1 qbC qdq qdE = some r) ∧ qai (kq ≤ k) ∧ qai (Kd.R Kd.string 9 w' w.heap.size (fun _ => True) v5 qbC) ∧ qai (Below w.heap.size w w'))
 case atStart => exact ⟨(([] : List ByteArray)), (0), (0), qay, qay, H', ⟨Nat.le_refl _⟩, ⟨qhg⟩, ⟨qao⟩⟩
 case round =>
  clear H'; obtain ⟨qbC, qdq, qdE, rfl, rfl, HA, HK1, qgT, HB⟩ := hrel
  cases gk with
  | zero => exact absurd HA.1 (by simp [qbj.l0])
  | succ k1 =>
   have H := HA.1; clear HA; simp only [qbj.l0] at H; by_cases c3 : qdE < (a0.size : Int); rotate_left
   ·rw [if_neg c3] at H; have qfr := decide_eq_false c3; clear c3; obtain ⟨c12, H⟩ := qct H; have qhN := eq_true c12; have c12b1 := decide_eq_true c12; clear c12; obtain ⟨c13, H⟩ := qct H; have qmP := eq_true c13; have c13b1 := decide_eq_true c13; clear c13; obtain ⟨c14, H⟩ := qct H; have qoV := ak_ c14; clear c14
    obtain ⟨qgU, hy_⟩ : ∃ y_ : List ByteArray, y_ = (qbC ++ [a0.extract (qdq : Int).toNat a0.size]) := ⟨_, rfl⟩
    replace H : (some qgU) = some r := qfb; have qiQ := ak_ hy_; clear hy_; obtain rfl := sj_ H
    go_wp2_with (first | ((with_reducible refine qa5 (b := .append) (xs := #[.tmp 28, .tmp 32]) rfl ?_); at_builtin; refine Kd.qc8 Kd.string (w0 := w) w.heap.size rfl (.tmp 28) (.tmp 32) 43 9 (.string ⟨#[]⟩) 16 rfl Tryz.underlying43 qm1 rfl (by decide) (by omega) u5 qbC (a0.extract (qdq : Int).toNat a0.size) [.string (a0.extract (qdq : Int).toNat a0.size)] (fun _ => True) (fun _ => False) rfl rfl ?aP (fun _ hk => hk.elim) ?aF ?aO ?aB ?aS ?aL ?_; (case aP => exact rfl); (case aB => exact qao); (case aF => exact (fun _ _ => trivial)); (case aO => exact qoM); (case aS => exact (qab qao)); (case aL => have := qoV.1; omega); intro v105 w15 ho hb hg hat; rw [← qiQ.1] at ho; replace HB := ak_ (hb); have qff := ak_ (ho); clear qgT; clear ho hb hg hat))
    go_ret
    exact ⟨_, qca, by (with_reducible repeat (first | apply Kd.qaq | apply Kd.qar | apply Kd.qax)); exact qff.1, qao⟩
   rw [if_pos c3] at H; have qfr := decide_eq_true c3; clear c3; obtain ⟨c4, H⟩ := qct H; have qfw := decide_eq_true c4; clear c4; by_cases c6 : (bt a0 qdE) = a1; rotate_left
   ·rw [if_neg c6] at H; have qgc : ((bt a0 qdE) == a1) = false := beq_eq_false_iff_ne.mpr c6; have qnJ : ((bt a0 qdE) != a1) = true := bne_iff_ne.mpr c6; have H' := ak_ H; clear H; have p5 : 0 ≤ (qdE : Int) := of_decide_eq_true qaL; have q5 : qdE < (a0.size : Int) := of_decide_eq_true qaL; have hx5 := qeu a0 qdE; replace p5 := eq_true p5; replace q5 := eq_true q5; go_wp2
    go_roundg k1
    case measure => have := HK1.1; omega
    case rel => exact ⟨(qbC), (qdq), (wrap64 (qdE + 1)), qay, qay, H', ⟨qc9⟩, ⟨qoM⟩, ⟨qao⟩⟩
   rw [if_pos c6] at H; have qgc : ((bt a0 qdE) == a1) = true := beq_iff_eq.mpr c6; have qnJ : ((bt a0 qdE) != a1) = false := bne_eq_false_iff_eq.mpr c6; clear c6; obtain ⟨c7, H⟩ := qct H; have qhx := eq_true c7; have qoH := decide_eq_true c7; clear c7; obtain ⟨c8, H⟩ := qct H; have qpc := eq_true c8; have c8b1 := decide_eq_true c8; clear c8; obtain ⟨c9, H⟩ := qct H; have qmQ := eq_true c9; have c9b1 := decide_eq_true c9; clear c9; obtain ⟨c10, H⟩ := qct H; have LMc10 := ak_ c10; clear c10
   obtain ⟨qeW, hy_⟩ : ∃ y_ : List ByteArray, y_ = (qbC ++ [a0.extract (qdq : Int).toNat (qdE : Int).toNat]) := ⟨_, rfl⟩
   replace H : (qbj.l0 k1 a0 a1 qeW (wrap64 (qdE + 1)) (wrap64 (qdE + 1))) = some r := qfb; have qet := ak_ hy_; clear hy_; have H' := ak_ H; clear H; have p5 : 0 ≤ (qdE : Int) := of_decide_eq_true qaL; have q5 : qdE < (a0.size : Int) := of_decide_eq_true qaL; have hx5 := qeu a0 qdE; replace p5 := eq_true p5; replace q5 := eq_true q5
   go_wp2_with (first | ((with_reducible refine qa5 (b := .append) (xs := #[.tmp 19, .tmp 24]) rfl ?_); at_builtin; refine Kd.qc8 Kd.string (w0 := w) w.heap.size rfl (.tmp 19) (.tmp 24) 43 9 (.string ⟨#[]⟩) 16 rfl Tryz.underlying43 qm1 rfl (by decide) (by omega) u5 qbC (a0.extract (qdq : Int).toNat (qdE : Int).toNat) [.string (a0.extract (qdq : Int).toNat (qdE : Int).toNat)] (fun _ => True) (fun _ => False) rfl rfl ?aP (fun _ hk => hk.elim) ?aF ?aO ?aB ?aS ?aL ?_; (case aP => exact rfl); (case aB => exact qao); (case aF => exact (fun _ _ => trivial)); (case aO => exact qoM); (case aS => exact (qab qao)); (case aL => have := LMc10.1; omega); intro qjd w11 ho hb hg hat; rw [← qet.1] at ho; replace HB := ak_ (hb); have qcI := ak_ (ho); clear qgT; clear ho hb hg hat))
   go_roundg k1
   case measure => have := HK1.1; omega
   case rel => exact ⟨(qeW), (wrap64 (qdE + 1)), (wrap64 (qdE + 1)), qay, qay, H', ⟨qc9⟩, ⟨qoL⟩, ⟨qao⟩⟩
def qe3.f (x : ByteArray) : Option ByteArray := match qhO x with
  | some c => some ⟨c.kind.toArray⟩
  | none => some ⟨#[63]⟩
theorem qe3.calls (x : ByteArray) (r : ByteArray) (w : World) (h : qe3.f x = some r) :
    Calls Tryz.prog 94 #[.string x] w fun e w' => e = .returned (.string r) ∧ Below w.heap.size w w' := by
  unfold qe3.f at h
  cases hc : qhO x with
  | some c =>
    rw [hc] at h; obtain rfl := Option.some.inj h; obtain rfl := qh2 hc; clear hc
    cases c <;> (simp only [Cmd.word, Cmd.bytes, Cmd.kind]; go_enter Tryz.func94, Tryz.ntmps94; go_wp2; go_ret; exact ⟨rfl, Below.refl _ _⟩)
  | none =>
    rw [hc] at h; obtain rfl := Option.some.inj h; have HN := qlZ hc; clear hc; have n0 : (x.toList == ([109, 105, 114, 114, 111, 114] : List UInt8)) = false := HN .cMirror; have n1 : (x.toList == ([116, 105, 100, 121] : List UInt8)) = false := HN .cTidy; have n2 : (x.toList == ([115, 104, 111, 119] : List UInt8)) = false := HN .cShow; have n3 : (x.toList == ([108, 101, 102, 116] : List UInt8)) = false := HN .cLeft; have n4 : (x.toList == ([99, 111, 117, 110, 116] : List UInt8)) = false := HN .cCount; have n5 : (x.toList == ([112, 101, 114, 105, 111, 100] : List UInt8)) = false := HN .cPeriod; have n6 : (x.toList == ([115, 112, 111, 107, 101, 115] : List UInt8)) = false := HN .cSpokes; have n7 : (x.toList == ([115, 116, 101, 112, 115] : List UInt8)) = false := HN .cSteps; have n8 : (x.toList == ([100, 114, 111, 112] : List UInt8)) = false := HN .cDrop; have n9 : (x.toList == ([109, 111, 115, 116] : List UInt8)) = false := HN .cMost; have n10 : (x.toList == ([109, 111, 118, 101] : List UInt8)) = false := HN .cMove; have n11 : (x.toList == ([112, 114, 105, 109, 101, 115] : List UInt8)) = false := HN .cPrimes; have n12 : (x.toList == ([114, 97, 110, 107] : List UInt8)) = false := HN .cRank; have n13 : (x.toList == ([102, 97, 99, 116, 111, 114, 115] : List UInt8)) = false := HN .cFactors; have n14 : (x.toList == ([112, 105] : List UInt8)) = false := HN .cPi; have n15 : (x.toList == ([100, 105, 118, 105, 115, 111, 114, 115] : List UInt8)) = false := HN .cDivisors; have n16 : (x.toList == ([116, 111, 116, 105, 101, 110, 116] : List UInt8)) = false := HN .cTotient; have n17 : (x.toList == ([112, 97, 116, 116, 101, 114, 110] : List UInt8)) = false := HN .cPattern; have n18 : (x.toList == ([114, 117, 108, 101, 115] : List UInt8)) = false := HN .cRules; have n19 : (x.toList == ([97, 100, 100] : List UInt8)) = false := HN .cAdd; have n20 : (x.toList == ([97, 110, 115, 119, 101, 114] : List UInt8)) = false := HN .cAnswer; clear HN; go_enter Tryz.func94, Tryz.ntmps94; go_wp2
    go_ret
    exact ⟨rfl, Below.refl _ _⟩
def qbi.f (a0 : Int) (a1 : Int) (a2 : Int) : Option (Bool) := if a0 ≥ a1 then (some (decide (a0 ≤ a2))) else (some false)
theorem qbi.calls (a0 : Int) (a1 : Int) (a2 : Int) (r : Bool) (w : World) (h : qbi.f a0 a1 a2 = some r) :
  Calls Tryz.prog 93 #[.int .i64 a0, .int .i64 a1, .int .i64 a2] w fun e w' => e = .returned (.bool r) ∧ qcY w w' := by
 have H : (if a0 ≥ a1 then (some (decide (a0 ≤ a2))) else (some false)) = some r := h; clear h; by_cases c4 : a0 ≥ a1
 ·rw [if_pos c4] at H; have qfw : decide (a1 ≤ a0) = true := decide_eq_true c4; clear c4; obtain rfl := sj_ H; go_enter Tryz.func93, Tryz.ntmps93; go_wp2
  go_ret
  exact ⟨qay, qc3⟩
 rw [if_neg c4] at H; have qfw : decide (a1 ≤ a0) = false := decide_eq_false c4; clear c4; obtain rfl := sj_ H; go_enter Tryz.func93, Tryz.ntmps93; go_wp2
 go_ret
 exact ⟨qay, qc3⟩
mutual
def qaW.j0 : Nat → ByteArray → Bool → Option (Int)
 | 0, _, _ => none
 | k + 1, x0, x18 => if x18 = true then (some (-1)) else (qaW.l0 k x0 0 0)
def qaW.l0 : Nat → ByteArray → Int → Int → Option (Int)
 | 0, _, _, _ => none
 | k + 1, x0, x3, x4 => if x4 < (x0.size : Int) then (if 0 ≤ x4 then (if (bt x0 x4) < 48 then (some (-1)) else (if (bt x0 x4) > 57 then (some (-1)) else (qaW.l0 k x0 (wrap64 ((wrap64 (10 * x3)) + (((bt x0 x4) - 48) % 256))) (wrap64 (x4 + 1))))) else (none)) else (some x3)
end
def qaW.f (k : Nat) (a0 : ByteArray) : Option (Int) := (qbi.f (a0.size : Int) 1 6).bind fun qav => (if qav = true then (if 0 < (a0.size : Int) then (if (bt a0 0) = 48 then (qaW.j0 k a0 (decide ((a0.size : Int) > 1))) else (qaW.j0 k a0 false)) else (none)) else (qaW.j0 k a0 true))
theorem qaW.calls (k : Nat) (a0 : ByteArray) (r : Int) (w : World) (h : qaW.f k a0 = some r) :
  Calls Tryz.prog 95 #[.string a0] w fun e w' => e = .returned (.int .i64 r) ∧ qcY w w' := by
 have H : ((qbi.f (a0.size : Int) 1 6).bind fun qav => (if qav = true then (if 0 < (a0.size : Int) then (if (bt a0 0) = 48 then (qaW.j0 k a0 (decide ((a0.size : Int) > 1))) else (qaW.j0 k a0 false)) else (none)) else (qaW.j0 k a0 true))) = some r := h; clear h; have HC2 := ak_ H; clear H; go_enter Tryz.func95, Tryz.ntmps95
 go_upto_region 1 with (fail)
 go_cut [18] (fun v18 wc => ∃ (kq : Nat) (x18_1 : Bool), v18 = .bool x18_1 ∧ qai (qaW.j0 kq a0 x18_1 = some r) ∧ qai (kq ≤ k) ∧ qcY w wc)
 case first =>
  have H := HC2.1; clear HC2; obtain ⟨qav, A3, H⟩ := qaB H; (try dsimp only at H); by_cases c4 : qav = true; rotate_left
  ·replace c4 := Bool.eq_false_iff.mpr c4; subst c4; rw [if_neg ff_] at H; have H' := ak_ H; clear H
   go_wp2_with (first | (refine gl_ 7 Tryz.func93 #[.int .i64 (a0.size : Int), .int .i64 1, .int .i64 6] rfl qbJ ?_; (with_reducible refine (qbi.calls (a0.size : Int) 1 6 false _ A3.1).mono ?_); rintro e w' ⟨rfl, ⟨nd, rfl⟩⟩; refine ⟨_, rfl, ?_⟩))
   go_meet
   case rel => exact ⟨_, (true), qay, H', ⟨qiC⟩, qc3⟩
  subst c4; rw [if_pos rfl] at H; obtain ⟨c5, H⟩ := qct H; have qgL := decide_eq_true c5; have qrb : decide (0 < a0.size) = true := decide_eq_true (by omega); clear c5; (first | rw [qgL] | rw [qrb] | (simp only [qec, qey]; rw [qgL]) | skip); by_cases c7 : (bt a0 0) = 48
  ·rw [if_pos c7] at H; have qhx : ((bt a0 0) == 48) = true := beq_iff_eq.mpr c7; have qoH : ((bt a0 0) != 48) = false := bne_eq_false_iff_eq.mpr c7; clear c7; have H' := ak_ H; clear H
   go_wp2_with (first | (refine gl_ 7 Tryz.func93 #[.int .i64 (a0.size : Int), .int .i64 1, .int .i64 6] rfl qbJ ?_; (with_reducible refine (qbi.calls (a0.size : Int) 1 6 true _ A3.1).mono ?_); rintro e w' ⟨rfl, ⟨nd, rfl⟩⟩; refine ⟨_, rfl, ?_⟩; have p6 : 0 ≤ (0 : Int) := (by omega); have q6 : 0 < a0.size := (by have : (0 : Int) < (a0.size : Int) := of_decide_eq_true qaL; omega); have hx6 : ∀ h : 0 < a0.size, ((a0[0]'h).toNat : Int) = bt a0 0 := qeu a0 0; clear p6; have qi6 : (0 < (a0.size : Int)) = True := eq_true (of_decide_eq_true qaL); replace q6 := eq_true q6))
   go_meet
   case rel => exact ⟨_, (decide ((a0.size : Int) > 1)), qay, H', ⟨qiC⟩, qc3⟩
  rw [if_neg c7] at H; have qhx : ((bt a0 0) == 48) = false := beq_eq_false_iff_ne.mpr c7; have qoH : ((bt a0 0) != 48) = true := bne_iff_ne.mpr c7; have H' := ak_ H; clear H
  go_wp2_with (first | (refine gl_ 7 Tryz.func93 #[.int .i64 (a0.size : Int), .int .i64 1, .int .i64 6] rfl qbJ ?_; (with_reducible refine (qbi.calls (a0.size : Int) 1 6 true _ A3.1).mono ?_); rintro e w' ⟨rfl, ⟨nd, rfl⟩⟩; refine ⟨_, rfl, ?_⟩; have p6 : 0 ≤ (0 : Int) := (by omega); have q6 : 0 < a0.size := (by have : (0 : Int) < (a0.size : Int) := of_decide_eq_true qaL; omega); have hx6 : ∀ h : 0 < a0.size, ((a0[0]'h).toNat : Int) = bt a0 0 := qeu a0 0; clear p6; have qi6 : (0 < (a0.size : Int)) = True := eq_true (of_decide_eq_true qaL); replace q6 := eq_true q6))
  go_meet
  case rel => exact ⟨_, (false), qay, H', ⟨qiC⟩, qc3⟩
 case rest =>
  clear HC2; obtain ⟨kq, x18_1, rfl, HA, HJ1, ⟨mc1, rfl⟩⟩ := hcut
  cases kq with
  | zero => exact absurd HA.1 (by simp [qaW.j0])
  | succ kj1 =>
   have H := HA.1; clear HA; simp only [qaW.j0] at H; by_cases c8 : x18_1 = true
   ·subst c8; rw [if_pos rfl] at H; obtain rfl := sj_ H; go_wp2
    go_ret
    exact ⟨qay, qc3⟩
   replace c8 := Bool.eq_false_iff.mpr c8; subst c8; rw [if_neg ff_] at H; have H' := ak_ H; clear H; go_wp2
   go_loopg [3, 4] kj1 (fun kq v3 v4 w' => ∃ (qg1 : Int) (qje : Int), v3 = .int .i64 qg1 ∧ v4 = .int .i64 qje ∧ qai (qaW.l0 kq a0 qg1 qje = some r) ∧ qai (kq ≤ kj1) ∧ qcY w w')
   case atStart => exact ⟨(0), (0), qay, qay, H', ⟨Nat.le_refl _⟩, qc3⟩
   case round =>
    clear H'; (try clear c8); obtain ⟨qg1, qje, rfl, rfl, HA, HK2, ⟨m2, rfl⟩⟩ := hrel
    cases gk with
    | zero => exact absurd HA.1 (by simp [qaW.l0])
    | succ k2 =>
     have H := HA.1; clear HA; simp only [qaW.l0] at H; by_cases c9 : qje < (a0.size : Int); rotate_left
     ·rw [if_neg c9] at H; have qmQ := decide_eq_false c9; clear c9; obtain rfl := sj_ H; go_wp2
      go_ret
      exact ⟨qay, qc3⟩
     rw [if_pos c9] at H; have qmQ := decide_eq_true c9; clear c9; obtain ⟨c10, H⟩ := qct H; have qgY := decide_eq_true c10; clear c10; by_cases c12 : (bt a0 qje) < 48
     ·rw [if_pos c12] at H; have qhN := decide_eq_true c12; clear c12; obtain rfl := sj_ H; have p11 : 0 ≤ (qje : Int) := of_decide_eq_true qaL; have q11 : qje < (a0.size : Int) := of_decide_eq_true qaL; have hx11 := qeu a0 qje; replace p11 := eq_true p11; replace q11 := eq_true q11; go_wp2
      go_ret
      exact ⟨qay, qc3⟩
     rw [if_neg c12] at H; have qhN := decide_eq_false c12; clear c12; by_cases c14 : (bt a0 qje) > 57
     ·rw [if_pos c14] at H; have qpa : decide (57 < (bt a0 qje)) = true := decide_eq_true c14; clear c14; obtain rfl := sj_ H; have p11 : 0 ≤ (qje : Int) := of_decide_eq_true qaL; have q11 : qje < (a0.size : Int) := of_decide_eq_true qaL; have hx11 := qeu a0 qje; replace p11 := eq_true p11; replace q11 := eq_true q11; have p13 : 0 ≤ (qje : Int) := of_decide_eq_true qaL; have q13 : qje < (a0.size : Int) := of_decide_eq_true qaL; have hx13 := qeu a0 qje; replace p13 := eq_true p13; replace q13 := eq_true q13; go_wp2
      go_ret
      exact ⟨qay, qc3⟩
     rw [if_neg c14] at H; have qpa : decide (57 < (bt a0 qje)) = false := decide_eq_false c14; clear c14; have H' := ak_ H; clear H; have p11 : 0 ≤ (qje : Int) := of_decide_eq_true qaL; have q11 : qje < (a0.size : Int) := of_decide_eq_true qaL; have hx11 := qeu a0 qje; replace p11 := eq_true p11; replace q11 := eq_true q11; have p13 : 0 ≤ (qje : Int) := of_decide_eq_true qaL; have q13 : qje < (a0.size : Int) := of_decide_eq_true qaL; have hx13 := qeu a0 qje; replace p13 := eq_true p13; replace q13 := eq_true q13; have p15 : 0 ≤ (qje : Int) := of_decide_eq_true qaL; have q15 : qje < (a0.size : Int) := of_decide_eq_true qaL; have hx15 := qeu a0 qje; replace p15 := eq_true p15; replace q15 := eq_true q15; go_wp2
     go_roundg k2
     case measure => have := HJ1.1; have := HK2.1; omega
     case rel => exact ⟨(wrap64 ((wrap64 (10 * qg1)) + (((bt a0 qje) - 48) % 256))), (wrap64 (qje + 1)), qay, qay, H', ⟨by have := HJ1.1; have := HK2.1; omega⟩, qc3⟩
def qfp.f (a0 : Int) (a1 : Int) : Option (Int) := if a0 < a1 then (some a0) else (some a1)
theorem qfp.calls (a0 : Int) (a1 : Int) (r : Int) (w : World) (h : qfp.f a0 a1 = some r) :
  Calls Tryz.prog 206 #[.int .i64 a0, .int .i64 a1] w fun e w' => e = .returned (.int .i64 r) ∧ qcY w w' := by
 have H : (if a0 < a1 then (some a0) else (some a1)) = some r := h; clear h; by_cases c3 : a0 < a1
 ·rw [if_pos c3] at H; have qfr := decide_eq_true c3; clear c3; obtain rfl := sj_ H; go_enter Tryz.func206, Tryz.ntmps206; go_wp2
  go_ret
  exact ⟨qay, qc3⟩
 rw [if_neg c3] at H; have qfr := decide_eq_false c3; clear c3; obtain rfl := sj_ H; go_enter Tryz.func206, Tryz.ntmps206; go_wp2
 go_ret
 exact ⟨qay, qc3⟩
def qbt.f : Nat → Int → Option (ByteArray)
 | 0, _ => none
 | k + 1, a0 => if a0 < 10 then (some (strOfNums (([(wrap64 (48 + a0)) % 256] : List Int)))) else ((qbt.f k (wrap64 (Int.tdiv a0 10))).bind fun qcq => ((some (([(wrap64 (48 + (Int.tmod a0 10))) % 256] : List Int) : List Int)).bind fun qic => (if qcq.size + (strOfNums qic).size ≤ 9223372036854775807 then (some (qcq ++ (strOfNums qic))) else (none))))
def qbt.T3 : Bool × List (List Nat × List Nat) := (true, [([], []), ([0], [0]), ([1], [1]), ([], []), ([3], [3]), ([4], [4]), ([5], [5]), ([6], [6]), ([7], [7]), ([2, 8], [2, 8]), ([9, 2, 0, 1, 2, 3, 4, 5, 6, 7, 8, 9], [9])])
def qbt.B3 : List Nat := [0, 1, 3, 0, 8, 24, 56, 120, 248, 511, 1023]
theorem qbt.tab3 : qhC .any (opsOf Tryz.f83 3) = qbt.T3 := by kernel_rfl
theorem qbt.bits3 : qeG qbt.T3.2 qbt.B3 = true := by kernel_rfl
theorem qbt.calls (k : Nat) : ∀ (a0 : Int) (r : ByteArray) (w : World) (h : qbt.f k a0 = some r),
  Calls Tryz.prog 83 #[.int .i64 a0] w fun e w' => e = .returned (.string r) ∧ Below w.heap.size w w' := by
 induction k using Nat.strongRecOn with
 | _ k ih =>
 intro a0 r w h
 cases k with
 | zero => exact absurd h (by simp [qbt.f])
 | succ k =>
 simp only [qbt.f] at h; have HB := br_ w; have H : (if a0 < 10 then (some (strOfNums (([(wrap64 (48 + a0)) % 256] : List Int)))) else ((qbt.f k (wrap64 (Int.tdiv a0 10))).bind fun qcq => ((some (([(wrap64 (48 + (Int.tmod a0 10))) % 256] : List Int) : List Int)).bind fun qic => (if qcq.size + (strOfNums qic).size ≤ 9223372036854775807 then (some (qcq ++ (strOfNums qic))) else (none))))) = some r := h; clear h; by_cases c2 : a0 < 10
 ·rw [if_pos c2] at H; have qfB := decide_eq_true c2; clear c2
  obtain ⟨qeW, hy_⟩ : ∃ y_ : List Int, y_ = (([(wrap64 (48 + a0)) % 256] : List Int)) := ⟨_, rfl⟩
  replace H : (some (strOfNums qeW)) = some r := qfb; have qet := ak_ hy_; clear hy_; obtain rfl := sj_ H; go_enter Tryz.func83, Tryz.ntmps83
  go_wp2_with (first | ((with_reducible refine qam (N := 8) rfl ?_); refine Kd.qhH (Kd.int .u8) _ 5 ?hg (N := 8) ?hd (xs := ([(wrap64 (48 + a0)) % 256] : List Int)) (inner := [.int .u8 ((wrap64 (48 + a0)) % 256)]) (ok := fun _ => True) (okp := fun _ => True) ?hr ?hp (fun _ hk => hk) trivial (Below.refl _ _) (Nat.le_refl _) (by simp) ?_; (case hd => rfl); (case hg => rfl); (case hr => exact qa1); (case hp => exact (qep.one (show Kd.M (Kd.int .u8) _ _ _ ((wrap64 (48 + a0)) % 256) [.int .u8 ((wrap64 (48 + a0)) % 256)] from rfl) (qep.none _ _))); intro qjd w3 ho4 hb hg_ hnew_; clear hg_ hnew_; (first | rw [← qet.1] at ho4 | (simp only [Int.reduceToNat] at ho4; rw [← qet.1] at ho4)); have qcI := ak_ (Kd.qaw ho4 (qab qao)); replace HB := HB.mw hb; clear hb ho4; have hcv5 := qh6 (P := Tryz.prog) Tryz.underlying35 Tryz.underlying5 Tryz.underlying9 (Kd.qkt qcI.1)))
  go_ret
  exact ⟨qca, qao⟩
 rw [if_neg c2] at H; have qfB := decide_eq_false c2; clear c2; obtain ⟨qcq, A6, H⟩ := qaB H; (try dsimp only at H)
 obtain ⟨qic, hy_⟩ : ∃ y_ : List Int, y_ = (([(wrap64 (48 + (Int.tmod a0 10))) % 256] : List Int)) := ⟨_, rfl⟩
 replace H : (if qcq.size + (strOfNums qic).size ≤ 9223372036854775807 then (some (qcq ++ (strOfNums qic))) else (none)) = some r := qfb; have qhG := ak_ hy_; clear hy_; obtain ⟨c7, H⟩ := qct H; have qhx := eq_true c7; have qoH := decide_eq_true c7
 try have c7b2 : (9223372036854775807 < qcq.size + (strOfNums qic).size) = False := eq_false (Nat.not_lt.2 c7)
 obtain rfl := sj_ H; go_enter Tryz.func83, Tryz.ntmps83
 try go_wp2
 replace HB := ak_ (qah HB.1); refine qeS (n := 11) (S := fun w' => True) (ds := []) (rA_ [0, 11]) (by kernel_rfl) rfl rfl trivial (fun hHeld => ?_); refine qc0 qbt.tab3 qbt.bits3 (fun HT_ HW_ => ?_)
 generalize w.drew = w8 at HB hHeld ⊢
 refine pu_ 0 10 [1, 10] ?_; refine pu_ 1 11 [2, 9] ?_; refine pu_ 3 13 [2, 1, 1, 7] ?_; refine pu_ 4 14 [2, 1, 2, 6] ?_; refine pu_ 5 15 [2, 1, 3, 5] ?_; refine pu_ 6 16 [2, 1, 4, 4] ?_; refine qtC (σ := Value) 2 (rA_ [9, 2]) (fun s_ => [(12, .string qcq), (17, s_), (18, .string (strOfNums qic))]) (fun s_ w' => (Kd.R (Kd.int .u8) 5 w' w.heap.size (fun _ => True) s_ qic) ∧ (Below w.heap.size w w')) ?_ ?_; rotate_left
 ·intro hCont; refine two_ (i := 2) (j := 7) (Ni := some 12) (Nj := some 17) (rA_ [7, 4]) (rA_ [2, 1, 5, 3]) rfl rfl rfl rfl (qq0 HT_.out (by kernel_rfl)) (by decide) (by decide) (fun K hK => ?_) (fun K hK => ?_)
  ·skip
   refine qfN Tryz.func83 (by kernel_rfl) rfl #[.int .i64 (wrap64 (Int.tdiv a0 10))] (by rfl) rfl rfl qbJ ?_
   with_reducible refine (ih k (by omega) (wrap64 (Int.tdiv a0 10)) qcq _ A6.1).mono ?_
   rintro e w9 ⟨rfl, hb⟩; refine ⟨_, rfl, ?_⟩; replace HB := HB.mw hb; (try clear hb); (try clear hb2); (try clear hk); (try clear hi); refine hK.out _ _ trivial (fun hHeld => ?_); clear hK K; refine nm_ 12 ?_; refine qfC (i := 7) (N := some 17) (rA_ [8, 3]) rfl rfl (qcJ HT_.out (by kernel_rfl)) (by decide) (fun K hK => ?_); refine Kd.qdJ (Kd.int .u8) _ 5 ?hg (N := 17) ?hd (xs := ([(wrap64 (48 + (Int.tmod a0 10))) % 256] : List Int)) (inner := [.int .u8 ((wrap64 (48 + (Int.tmod a0 10))) % 256)]) (ok := fun _ => True) (okp := fun _ => True) ?hr ?hp (fun _ hk => hk) trivial (Below.refl _ _) (Nat.le_refl _) (by simp) ?_; (case hd => rfl); (case hg => rfl); (case hr => exact qa1); (case hp => exact (qep.one (show Kd.M (Kd.int .u8) _ _ _ ((wrap64 (48 + (Int.tmod a0 10))) % 256) [.int .u8 ((wrap64 (48 + (Int.tmod a0 10))) % 256)] from rfl) (qep.none _ _))); intro qrK w10 qti hb hg_ hnew_; clear hg_ hnew_; (first | rw [← qhG.1] at qti | (simp only [Int.reduceToNat] at qti; rw [← qhG.1] at qti)); have qfa := ak_ (Kd.qaw qti (qab qao)); replace HB := HB.mw hb; clear hb qti; refine hK.out _ _ trivial (fun hHeld => ?_); clear hK K; refine nm_ 17 ?_; refine qfC (i := 8) (N := some 18) (rA_ [9, 2]) rfl rfl (qcJ HT_.out (by kernel_rfl)) (by decide) (fun K hK => ?_); have hcv12 := qh6 (P := Tryz.prog) Tryz.underlying35 Tryz.underlying5 Tryz.underlying9 (Kd.qkt qfa.1); refine qi9 (w1 := ?_) (v := ?_) (by rfl) rfl ?_ ?_; rotate_left 2
   ·go_simp; constructor
    ·rfl
    rfl
   clear hcv12; refine hK.out _ _ trivial (fun hHeld => ?_); clear hK K; refine nm_ 18 ?_; exact qeB qrs (hCont (qrK) _ ⟨(by apply_rules only [qfa.1, Kd.qaq, Kd.qar, Kd.qax]), qao⟩)
  skip
  refine Kd.qdJ (Kd.int .u8) _ 5 ?hg (N := 17) ?hd (xs := ([(wrap64 (48 + (Int.tmod a0 10))) % 256] : List Int)) (inner := [.int .u8 ((wrap64 (48 + (Int.tmod a0 10))) % 256)]) (ok := fun _ => True) (okp := fun _ => True) ?hr ?hp (fun _ hk => hk) trivial (Below.refl _ _) (Nat.le_refl _) (by simp) ?_; (case hd => rfl); (case hg => rfl); (case hr => exact qa1); (case hp => exact (qep.one (show Kd.M (Kd.int .u8) _ _ _ ((wrap64 (48 + (Int.tmod a0 10))) % 256) [.int .u8 ((wrap64 (48 + (Int.tmod a0 10))) % 256)] from rfl) (qep.none _ _))); intro qrK w9 qmb hb hg_ hnew_; clear hg_ hnew_; (first | rw [← qhG.1] at qmb | (simp only [Int.reduceToNat] at qmb; rw [← qhG.1] at qmb)); have qfa := ak_ (Kd.qaw qmb (qab qao)); replace HB := HB.mw hb; clear hb qmb; refine hK.out _ _ trivial (fun hHeld => ?_); clear hK K; refine nm_ 17 ?_; refine two_ (i := 2) (j := 8) (Ni := some 12) (Nj := some 18) (rA_ [8, 3]) (rA_ [2, 1, 6, 2]) rfl rfl rfl rfl (qq0 HT_.out (by kernel_rfl)) (by decide) (by decide) (fun K hK => ?_) (fun K hK => ?_)
  ·skip
   refine qfN Tryz.func83 (by kernel_rfl) rfl #[.int .i64 (wrap64 (Int.tdiv a0 10))] (by rfl) rfl rfl qbJ ?_
   with_reducible refine (ih k (by omega) (wrap64 (Int.tdiv a0 10)) qcq _ A6.1).mono ?_
   rintro e w11 ⟨rfl, hb⟩; refine ⟨_, rfl, ?_⟩; replace qfa := qfa.mw hb; replace HB := HB.mw hb; (try clear hb); (try clear hb2); (try clear hk); (try clear hi); refine hK.out _ _ trivial (fun hHeld => ?_); clear hK K; refine nm_ 12 ?_; refine qfC (i := 8) (N := some 18) (rA_ [9, 2]) rfl rfl (qcJ HT_.out (by kernel_rfl)) (by decide) (fun K hK => ?_); have hcv12 := qh6 (P := Tryz.prog) Tryz.underlying35 Tryz.underlying5 Tryz.underlying9 (Kd.qkt qfa.1); refine qi9 (w1 := ?_) (v := ?_) (by rfl) rfl ?_ ?_; rotate_left 2
   ·go_simp; constructor
    ·rfl
    rfl
   clear hcv12; refine hK.out _ _ trivial (fun hHeld => ?_); clear hK K; refine nm_ 18 ?_; exact qeB qrs (hCont (qrK) _ ⟨(by apply_rules only [qfa.1, Kd.qaq, Kd.qar, Kd.qax]), qao⟩)
  skip
  have hcv11 := qh6 (P := Tryz.prog) Tryz.underlying35 Tryz.underlying5 Tryz.underlying9 (Kd.qkt qfa.1); refine qi9 (w1 := ?_) (v := ?_) (by rfl) rfl ?_ ?_; rotate_left 2
  ·go_simp; constructor
   ·rfl
   rfl
  clear hcv11; refine hK.out _ _ trivial (fun hHeld => ?_); clear hK K; refine nm_ 18 ?_; refine qfC (i := 2) (N := some 12) (rA_ [9, 2]) rfl rfl (qcJ HT_.out (by kernel_rfl)) (by decide) (fun K hK => ?_); refine qfN Tryz.func83 (by kernel_rfl) rfl #[.int .i64 (wrap64 (Int.tdiv a0 10))] (by rfl) rfl rfl qbJ ?_
  with_reducible refine (ih k (by omega) (wrap64 (Int.tdiv a0 10)) qcq _ A6.1).mono ?_
  rintro e w12 ⟨rfl, hb⟩; refine ⟨_, rfl, ?_⟩; replace qfa := qfa.mw hb; replace HB := HB.mw hb; (try clear hb); (try clear hb2); (try clear hk); (try clear hi); refine hK.out _ _ trivial (fun hHeld => ?_); clear hK K; refine nm_ 12 ?_; exact qeB qrs (hCont (qrK) _ ⟨(by apply_rules only [qfa.1, Kd.qaq, Kd.qar, Kd.qax]), qao⟩)
 rintro qrK w13 ⟨h0_, h1_⟩
 have n0_ : qai (Kd.R (Kd.int .u8) 5 w13 w.heap.size (fun _ => True) qrK qic) := ⟨h0_⟩
 have n1_ : qai (Below w.heap.size w w13) := ⟨h1_⟩
 clear HB; clear h0_ h1_; have qfa := n0_; have HB := n1_; clear n0_ n1_; have hHeld := trivial; refine qeB (a' := ?_) ?_ ?_; rotate_left
 ·simp only [qi4, Act.put, List.setIfInBounds_toArray, List.set_cons_zero, List.set_cons_succ]; rfl
 refine pu_ 9 19 [10, 1] ?_; refine pu_ 10 2 [11] ?_; refine qf5 (qeh HT_.out (by kernel_rfl)) ?_
 try go_wp2
 go_ret
 exact ⟨qca, qao⟩
def qbp.l0 : Nat → ByteArray → List (qac) → Int → Int → Option (ByteArray)
 | 0, _, _, _, _ => none
 | k + 1, x3, x9, x10, x11 => if x11 < x10 then (if 0 ≤ x11 then (if x11 < (x9.length : Int) then (if x11 > 0 then (if x3.size + 1 ≤ 9223372036854775807 then ((qbt.f k ((qad x9 x11).f0)).bind fun qcb => (if qcb.size + 1 ≤ 9223372036854775807 then ((qbt.f k ((qad x9 x11).f1)).bind fun qcq => (if (qcb ++ (⟨#[58]⟩ : ByteArray)).size + qcq.size ≤ 9223372036854775807 then (if (x3 ++ (⟨#[44]⟩ : ByteArray)).size + ((qcb ++ (⟨#[58]⟩ : ByteArray)) ++ qcq).size ≤ 9223372036854775807 then (qbp.l0 k ((x3 ++ (⟨#[44]⟩ : ByteArray)) ++ ((qcb ++ (⟨#[58]⟩ : ByteArray)) ++ qcq)) x9 x10 (wrap64 (x11 + 1))) else (none)) else (none))) else (none))) else (none)) else ((qbt.f k ((qad x9 x11).f0)).bind fun t105 => (if t105.size + 1 ≤ 9223372036854775807 then ((qbt.f k ((qad x9 x11).f1)).bind fun qg0 => (if (t105 ++ (⟨#[58]⟩ : ByteArray)).size + qg0.size ≤ 9223372036854775807 then (if x3.size + ((t105 ++ (⟨#[58]⟩ : ByteArray)) ++ qg0).size ≤ 9223372036854775807 then (qbp.l0 k (x3 ++ ((t105 ++ (⟨#[58]⟩ : ByteArray)) ++ qg0)) x9 x10 (wrap64 (x11 + 1))) else (none)) else (none))) else (none)))) else (none)) else (none)) else (some x3)
def qbp.f (k : Nat) (l0 : List (qac)) : Option (ByteArray) := if (l0.length : Int) = 0 then (some (⟨#[45]⟩ : ByteArray)) else (qbp.l0 k (⟨#[]⟩ : ByteArray) l0 (l0.length : Int) 0)
def qbp.T9 : Bool × List (List Nat × List Nat) := (true, [([], []), ([], []), ([1], [1]), ([2], [2]), ([3], [3]), ([], []), ([5], [5]), ([6, 3], [6]), ([4, 7], [4, 7]), ([0, 8], [0, 8]), ([9, 7, 0, 1, 2, 3, 4, 5, 6, 7, 8, 9], [0, 9])])
def qbp.B9 : List Nat := [0, 0, 2, 6, 14, 0, 32, 110, 254, 511, 1023]
theorem qbp.tab9 : qhC .any (opsOf Tryz.f207 9) = qbp.T9 := by kernel_rfl
theorem qbp.bits9 : qeG qbp.T9.2 qbp.B9 = true := by kernel_rfl
theorem qbp.calls (k : Nat) (A0 : Option Addr) (c0 : Nat) (l0 : List (qac)) (r : ByteArray) (w : World) (hr0 : Kd.C qaG w A0 l0.length l0) (hc0 : l0.length ≤ c0) (h : qbp.f k l0 = some r) :
  Calls Tryz.prog 207 #[.slice A0 l0.length c0] w fun e w' => e = .returned (.string r) ∧ Below w.heap.size w w' := by
 have qme := Tryz.underlying85; have HR0 := ak_ hr0; have HC0 := ak_ hc0; clear hr0 hc0; have HB := br_ w; have H : (if (l0.length : Int) = 0 then (some (⟨#[45]⟩ : ByteArray)) else (qbp.l0 k (⟨#[]⟩ : ByteArray) l0 (l0.length : Int) 0)) = some r := h; clear h; by_cases c2 : (l0.length : Int) = 0
 ·rw [if_pos c2] at H; have qfB : ((l0.length : Int) == 0) = true := beq_iff_eq.mpr c2; have qnI : ((l0.length : Int) != 0) = false := bne_eq_false_iff_eq.mpr c2; clear c2; obtain rfl := sj_ H; go_enter Tryz.func207, Tryz.ntmps207; go_wp2
  go_ret
  exact ⟨qca, qao⟩
 rw [if_neg c2] at H; have qfB : ((l0.length : Int) == 0) = false := beq_eq_false_iff_ne.mpr c2; have qnI : ((l0.length : Int) != 0) = true := bne_iff_ne.mpr c2
 have c2b2 : ¬ (l0 = []) := fun h_ => c2 (by rw [h_]; rfl)
 have H' := ak_ H; clear H; go_enter Tryz.func207, Tryz.ntmps207; go_wp2
 go_loopg [3, 11] k (fun kq v3 v11 w' => ∃ (qbx : ByteArray) (qcv : Int), v3 = .string qbx ∧ v11 = .int .i64 qcv ∧ qai (qbp.l0 kq qbx l0 (l0.length : Int) qcv = some r) ∧ qai (kq ≤ k) ∧ qai (Below w.heap.size w w'))
 case atStart => exact ⟨((⟨#[]⟩ : ByteArray)), (0), qay, qay, H', ⟨Nat.le_refl _⟩, ⟨qao⟩⟩
 case round =>
  clear H'; (try clear c2); (try clear qfB); (try clear qnI); (try clear c2b2); obtain ⟨qbx, qcv, rfl, rfl, HA, HK1, HB⟩ := hrel
  cases gk with
  | zero => exact absurd HA.1 (by simp [qbp.l0])
  | succ k1 =>
   have H := HA.1; clear HA; simp only [qbp.l0] at H; by_cases c3 : qcv < (l0.length : Int); rotate_left
   ·rw [if_neg c3] at H; have qfr := decide_eq_false c3; clear c3; obtain rfl := sj_ H; go_wp2
    go_ret
    exact ⟨qca, qao⟩
   rw [if_pos c3] at H; have qfr := decide_eq_true c3; clear c3; obtain ⟨c4, H⟩ := qct H; have qfw := decide_eq_true c4; clear c4; obtain ⟨c5, H⟩ := qct H; have qgL := decide_eq_true c5; clear c5; by_cases c6 : qcv > 0; rotate_left
   ·rw [if_neg c6] at H; have qgc : decide (0 < qcv) = false := decide_eq_false c6; clear c6; obtain ⟨t105, A19, H⟩ := qaB H; (try dsimp only at H); obtain ⟨c20, H⟩ := qct H; have c20b0 := eq_true c20; have c20b1 := decide_eq_true c20
    try have c20b2 : (9223372036854775807 < t105.size + 1) = False := eq_false (Nat.not_lt.2 c20)
    obtain ⟨qg0, A21, H⟩ := qaB H; (try dsimp only at H); obtain ⟨c22, H⟩ := qct H; have c22b0 := eq_true c22; have c22b1 := decide_eq_true c22
    try have c22b2 : (9223372036854775807 < (t105 ++ (⟨#[58]⟩ : ByteArray)).size + qg0.size) = False := eq_false (Nat.not_lt.2 c22)
    have c22b3 := c22b2; simp only [ByteArray.size_append, show (⟨#[44]⟩ : ByteArray).size = 1 from rfl, show (⟨#[47]⟩ : ByteArray).size = 1 from rfl, show (⟨#[58]⟩ : ByteArray).size = 1 from rfl] at c22b3; obtain ⟨c23, H⟩ := qct H; have c23b0 := eq_true c23; have c23b1 := decide_eq_true c23
    try have c23b2 : (9223372036854775807 < qbx.size + ((t105 ++ (⟨#[58]⟩ : ByteArray)) ++ qg0).size) = False := eq_false (Nat.not_lt.2 c23)
    have c23b3 := c23b2; simp only [ByteArray.size_append, show (⟨#[44]⟩ : ByteArray).size = 1 from rfl, show (⟨#[47]⟩ : ByteArray).size = 1 from rfl, show (⟨#[58]⟩ : ByteArray).size = 1 from rfl] at c23b3; have H' := ak_ H; clear H; have qeC : 0 ≤ (qcv : Int) := of_decide_eq_true qaL; have qeJ : qcv < (l0.length : Int) := of_decide_eq_true qaL; obtain ⟨qfL, qg7, qbk, qbL⟩ := qc6 HR0.1 qcv qeC qeJ
    cases qg7
    replace qbk := (HB.1.cell (World.block_lt_of_cell? w _ qbk)).trans qbk; replace qbL := (HB.1.cell (World.block_lt_of_cell? w _ qbL)).trans qbL; replace qeC := eq_true qeC; replace qeJ := eq_true qeJ
    try go_wp2_with (first | ((with_reducible refine qam (N := 5) rfl ?_); refine bx_ 5 rfl (cs := #[.int .i64 0, .int .i64 0]) (t := 85) qa1 ?_; intro qcO hg w24 hbox hb; have qbI := ak_ (hbox); have qfE := ak_ (HB.ge hg); have qfq := ak_ (HB.ge hg); replace HB := HB.mw hb; clear hb hbox hg; obtain ⟨qsV, qsW, qtb, qtc⟩ := qbl qbI.1))
    have n0_ : qai (((w24.setCell ⟨qcO, 0, none⟩ (.int .i64 ((qad l0 qcv).f0))).setCell ⟨qcO, 1, none⟩ (.int .i64 ((qad l0 qcv).f1))).heap[qcO]? = some (.cells #[.int .i64 ((qad l0 qcv).f0), .int .i64 ((qad l0 qcv).f1)] 85 (0, 0))) := ⟨k3_⟩
    have n1_ : qai (Below w.heap.size w ((w24.setCell ⟨qcO, 0, none⟩ (.int .i64 ((qad l0 qcv).f0))).setCell ⟨qcO, 1, none⟩ (.int .i64 ((qad l0 qcv).f1)))) := ⟨qnp⟩
    (try clear qbI); (try clear HB)
    generalize ((w24.setCell ⟨qcO, 0, none⟩ (.int .i64 ((qad l0 qcv).f0))).setCell ⟨qcO, 1, none⟩ (.int .i64 ((qad l0 qcv).f1))) = w26 at n0_ n1_ ⊢
    have qbI := n0_; have HB := n1_; clear n0_ n1_; replace qbI := ak_ (qak qbI.1); replace HB := ak_ (qah HB.1); refine qeS (n := 11) (S := fun w' => w'.cell? ⟨qcO, 0, none⟩ = some (.int .i64 ((qad l0 qcv).f0)) ∧ w'.cell? ⟨qcO, 1, none⟩ = some (.int .i64 ((qad l0 qcv).f1))) (ds := []) (rA_ [0, 11]) (by kernel_rfl) rfl rfl ⟨qd4 qbI.1, qbA qbI.1⟩ (fun hHeld => ?_); refine qc0 qbp.tab9 qbp.bits9 (fun HT_ HW_ => ?_)
    generalize w26.drew = w27 at qbI HB hHeld ⊢
    refine pu_ 0 20 [1, 10] ?_; refine pu_ 1 21 [2, 9] ?_; refine pu_ 5 25 [2, 3, 1, 5] ?_; refine qii 2 22 [3, 2, 1, 5] ?_; refine qii 6 26 [3, 2, 2, 4] ?_; refine qfC (i := 3) (N := some 23) (rA_ [4, 1, 2, 4]) rfl rfl (qcJ HT_.out (by kernel_rfl)) (by decide) (fun K hK => ?_); refine qfN Tryz.func83 (by kernel_rfl) rfl #[.int .i64 ((qad l0 qcv).f0)] (by rfl) rfl rfl qbJ ?_
    with_reducible refine (qbt.calls k1 ((qad l0 qcv).f0) t105 _ A19.1).mono ?_
    rintro e w28 ⟨rfl, hb⟩; refine ⟨_, rfl, ?_⟩; replace qbI := qbI.mw hb; replace HB := ak_ (qaa qnp hb); (try clear hb); (try clear hb2); (try clear hk); (try clear hi); refine hK.out _ _ ⟨qd4 qbI.1, qbA qbI.1⟩ (fun hHeld => ?_); clear hK K; refine nm_ 23 ?_; refine pu_ 4 24 [7, 4] ?_; refine qfC (i := 7) (N := some 27) (rA_ [8, 3]) rfl rfl (qcJ HT_.out (by kernel_rfl)) (by decide) (fun K hK => ?_); refine qfN Tryz.func83 (by kernel_rfl) rfl #[.int .i64 ((qad l0 qcv).f1)] (by rfl) rfl rfl qbJ ?_
    with_reducible refine (qbt.calls k1 ((qad l0 qcv).f1) qg0 _ A21.1).mono ?_
    rintro e w29 ⟨rfl, hb⟩; refine ⟨_, rfl, ?_⟩; replace qbI := qbI.mw hb; replace HB := ak_ (qaa qnp hb); (try clear hb); (try clear hb2); (try clear hk); (try clear hi); refine hK.out _ _ ⟨qd4 qbI.1, qbA qbI.1⟩ (fun hHeld => ?_); clear hK K; refine nm_ 27 ?_; refine pu_ 8 28 [9, 2] ?_; refine pu_ 9 29 [10, 1] ?_; refine pu_ 10 3 [11] ?_; refine qf5 (qeh HT_.out (by kernel_rfl)) ?_
    try go_wp2
    go_roundg k1
    case measure => have := HK1.1; omega
    case rel => exact ⟨(qbx ++ ((t105 ++ (⟨#[58]⟩ : ByteArray)) ++ qg0)), (wrap64 (qcv + 1)), qay, qay, H', ⟨qc9⟩, ⟨qnp⟩⟩
   rw [if_pos c6] at H; have qgc : decide (0 < qcv) = true := decide_eq_true c6; clear c6; obtain ⟨c7, H⟩ := qct H; have qhx := eq_true c7; have qoH := decide_eq_true c7
   try have c7b2 : (9223372036854775807 < qbx.size + 1) = False := eq_false (Nat.not_lt.2 c7)
   obtain ⟨qcb, A8, H⟩ := qaB H; (try dsimp only at H); obtain ⟨c9, H⟩ := qct H; have qmQ := eq_true c9; have c9b1 := decide_eq_true c9
   try have c9b2 : (9223372036854775807 < qcb.size + 1) = False := eq_false (Nat.not_lt.2 c9)
   obtain ⟨qcq, A10, H⟩ := qaB H; (try dsimp only at H); obtain ⟨c11, H⟩ := qct H; have qgK := eq_true c11; have qhM := decide_eq_true c11
   try have qsl : (9223372036854775807 < (qcb ++ (⟨#[58]⟩ : ByteArray)).size + qcq.size) = False := eq_false (Nat.not_lt.2 c11)
   have c11b3 := qsl; simp only [ByteArray.size_append, show (⟨#[44]⟩ : ByteArray).size = 1 from rfl, show (⟨#[47]⟩ : ByteArray).size = 1 from rfl, show (⟨#[58]⟩ : ByteArray).size = 1 from rfl] at c11b3; obtain ⟨c12, H⟩ := qct H; have qhN := eq_true c12; have c12b1 := decide_eq_true c12
   try have c12b2 : (9223372036854775807 < (qbx ++ (⟨#[44]⟩ : ByteArray)).size + ((qcb ++ (⟨#[58]⟩ : ByteArray)) ++ qcq).size) = False := eq_false (Nat.not_lt.2 c12)
   have c12b3 := c12b2; simp only [ByteArray.size_append, show (⟨#[44]⟩ : ByteArray).size = 1 from rfl, show (⟨#[47]⟩ : ByteArray).size = 1 from rfl, show (⟨#[58]⟩ : ByteArray).size = 1 from rfl] at c12b3; have H' := ak_ H; clear H; have qeC : 0 ≤ (qcv : Int) := of_decide_eq_true qaL; have qeJ : qcv < (l0.length : Int) := of_decide_eq_true qaL; obtain ⟨qfL, qg7, qbk, qbL⟩ := qc6 HR0.1 qcv qeC qeJ
   cases qg7
   replace qbk := (HB.1.cell (World.block_lt_of_cell? w _ qbk)).trans qbk; replace qbL := (HB.1.cell (World.block_lt_of_cell? w _ qbL)).trans qbL; replace qeC := eq_true qeC; replace qeJ := eq_true qeJ
   try go_wp2_with (first | ((with_reducible refine qam (N := 5) rfl ?_); refine bx_ 5 rfl (cs := #[.int .i64 0, .int .i64 0]) (t := 85) qa1 ?_; intro qcO hg w13 hbox hb; have qbI := ak_ (hbox); have qfE := ak_ (HB.ge hg); have qfq := ak_ (HB.ge hg); replace HB := HB.mw hb; clear hb hbox hg; obtain ⟨qsN, qsO, qs3, qs4⟩ := qbl qbI.1))
   have n0_ : qai (((w13.setCell ⟨qcO, 0, none⟩ (.int .i64 ((qad l0 qcv).f0))).setCell ⟨qcO, 1, none⟩ (.int .i64 ((qad l0 qcv).f1))).heap[qcO]? = some (.cells #[.int .i64 ((qad l0 qcv).f0), .int .i64 ((qad l0 qcv).f1)] 85 (0, 0))) := ⟨k3_⟩
   have n1_ : qai (Below w.heap.size w ((w13.setCell ⟨qcO, 0, none⟩ (.int .i64 ((qad l0 qcv).f0))).setCell ⟨qcO, 1, none⟩ (.int .i64 ((qad l0 qcv).f1)))) := ⟨qnp⟩
   (try clear qbI); (try clear HB)
   generalize ((w13.setCell ⟨qcO, 0, none⟩ (.int .i64 ((qad l0 qcv).f0))).setCell ⟨qcO, 1, none⟩ (.int .i64 ((qad l0 qcv).f1))) = w15 at n0_ n1_ ⊢
   have qbI := n0_; have HB := n1_; clear n0_ n1_; replace qbI := ak_ (qak qbI.1); replace HB := ak_ (qah HB.1); refine qeS (n := 11) (S := fun w' => w'.cell? ⟨qcO, 0, none⟩ = some (.int .i64 ((qad l0 qcv).f0)) ∧ w'.cell? ⟨qcO, 1, none⟩ = some (.int .i64 ((qad l0 qcv).f1))) (ds := []) (rA_ [0, 11]) (by kernel_rfl) rfl rfl ⟨qd4 qbI.1, qbA qbI.1⟩ (fun hHeld => ?_); refine qc0 qbp.tab9 qbp.bits9 (fun HT_ HW_ => ?_)
   generalize w15.drew = w16 at qbI HB hHeld ⊢
   refine pu_ 0 20 [1, 10] ?_; refine pu_ 1 21 [2, 9] ?_; refine pu_ 5 25 [2, 3, 1, 5] ?_; refine qii 2 22 [3, 2, 1, 5] ?_; refine qii 6 26 [3, 2, 2, 4] ?_; refine qfC (i := 3) (N := some 23) (rA_ [4, 1, 2, 4]) rfl rfl (qcJ HT_.out (by kernel_rfl)) (by decide) (fun K hK => ?_); refine qfN Tryz.func83 (by kernel_rfl) rfl #[.int .i64 ((qad l0 qcv).f0)] (by rfl) rfl rfl qbJ ?_
   with_reducible refine (qbt.calls k1 ((qad l0 qcv).f0) qcb _ A8.1).mono ?_
   rintro e w17 ⟨rfl, hb⟩; refine ⟨_, rfl, ?_⟩; replace qbI := qbI.mw hb; replace HB := ak_ (qaa qnp hb); (try clear hb); (try clear hb2); (try clear hk); (try clear hi); refine hK.out _ _ ⟨qd4 qbI.1, qbA qbI.1⟩ (fun hHeld => ?_); clear hK K; refine nm_ 23 ?_; refine pu_ 4 24 [7, 4] ?_; refine qfC (i := 7) (N := some 27) (rA_ [8, 3]) rfl rfl (qcJ HT_.out (by kernel_rfl)) (by decide) (fun K hK => ?_); refine qfN Tryz.func83 (by kernel_rfl) rfl #[.int .i64 ((qad l0 qcv).f1)] (by rfl) rfl rfl qbJ ?_
   with_reducible refine (qbt.calls k1 ((qad l0 qcv).f1) qcq _ A10.1).mono ?_
   rintro e w18 ⟨rfl, hb⟩; refine ⟨_, rfl, ?_⟩; replace qbI := qbI.mw hb; replace HB := ak_ (qaa qnp hb); (try clear hb); (try clear hb2); (try clear hk); (try clear hi); refine hK.out _ _ ⟨qd4 qbI.1, qbA qbI.1⟩ (fun hHeld => ?_); clear hK K; refine nm_ 27 ?_; refine pu_ 8 28 [9, 2] ?_; refine pu_ 9 29 [10, 1] ?_; refine pu_ 10 3 [11] ?_; refine qf5 (qeh HT_.out (by kernel_rfl)) ?_
   try go_wp2
   go_roundg k1
   case measure => have := HK1.1; omega
   case rel => exact ⟨((qbx ++ (⟨#[44]⟩ : ByteArray)) ++ ((qcb ++ (⟨#[58]⟩ : ByteArray)) ++ qcq)), (wrap64 (qcv + 1)), qay, qay, H', ⟨qc9⟩, ⟨qnp⟩⟩
def qfl.f (qbK : Int) (qbY : Int) : Option (Bool) := (qbi.f qbK 2 60).bind fun qaQ => (if qaQ = true then ((qbi.f qbY 0 (wrap64 (qbK - 1))).bind fun qcb => (some qcb)) else (some false))
theorem qfl.calls (qbK : Int) (qbY : Int) (r : Bool) (w : World) (h : qfl.f qbK qbY = some r) :
  Calls Tryz.prog 92 #[.agg #[.int .i64 qbK, .int .i64 qbY]] w fun e w' => e = .returned (.bool r) ∧ Below w.heap.size w w' := by
 have qme := Tryz.underlying85; have HB := br_ w; have H : ((qbi.f qbK 2 60).bind fun qaQ => (if qaQ = true then ((qbi.f qbY 0 (wrap64 (qbK - 1))).bind fun qcb => (some qcb)) else (some false))) = some r := h; clear h; obtain ⟨qaQ, A2, H⟩ := qaB H; (try dsimp only at H); by_cases c3 : qaQ = true
 ·subst c3; rw [if_pos rfl] at H; obtain ⟨qcb, A4, H⟩ := qaB H; (try dsimp only at H); obtain rfl := sj_ H; go_enter Tryz.func92, Tryz.ntmps92
  go_wp2_with (first | ((with_reducible refine qam (N := 1) rfl ?_); refine bx_ 1 rfl (cs := #[.int .i64 qbK, .int .i64 qbY]) (t := 85) qa1 ?_; intro qbD hg w5 hbox hb; have qas := ak_ (hbox); have qdO := ak_ (HB.ge hg); have qdz := ak_ (HB.ge hg); replace HB := HB.mw hb; clear hb hbox hg; obtain ⟨qkV, qkW, qk0, qk1⟩ := qbl qas.1) | (refine gl_ 5 Tryz.func93 #[.int .i64 qbK, .int .i64 2, .int .i64 60] rfl qbJ ?_; (with_reducible refine (qbi.calls qbK 2 60 true _ A2.1).mono ?_); rintro e w' ⟨rfl, ⟨nd, rfl⟩⟩; refine ⟨_, rfl, ?_⟩) | (go_at_call 93; (with_reducible refine (qbi.calls qbY 0 (wrap64 (qbK - 1)) qcb _ A4.1).mono ?_); rintro e w' ⟨rfl, ⟨nd, rfl⟩⟩))
  go_ret
  exact ⟨qca, qcw⟩
 replace c3 := Bool.eq_false_iff.mpr c3; subst c3; rw [if_neg ff_] at H; obtain rfl := sj_ H; go_enter Tryz.func92, Tryz.ntmps92
 go_wp2_with (first | ((with_reducible refine qam (N := 1) rfl ?_); refine bx_ 1 rfl (cs := #[.int .i64 qbK, .int .i64 qbY]) (t := 85) qa1 ?_; intro qbD hg w7 hbox hb; have qas := ak_ (hbox); have qdO := ak_ (HB.ge hg); have qdz := ak_ (HB.ge hg); replace HB := HB.mw hb; clear hb hbox hg; obtain ⟨qjN, qjO, qjS, qjT⟩ := qbl qas.1) | (refine gl_ 5 Tryz.func93 #[.int .i64 qbK, .int .i64 2, .int .i64 60] rfl qbJ ?_; (with_reducible refine (qbi.calls qbK 2 60 false _ A2.1).mono ?_); rintro e w' ⟨rfl, ⟨nd, rfl⟩⟩; refine ⟨_, rfl, ?_⟩))
 go_ret
 exact ⟨qca, qcw⟩
def qaP.l0 : Nat → List (qac) → Int → Int → Option (Bool)
 | 0, _, _, _ => none
 | k + 1, x8, x9, x10 => if x10 < x9 then (if 0 ≤ x10 then (if x10 < (x8.length : Int) then ((qfl.f ((qad x8 x10).f0) ((qad x8 x10).f1)).bind fun qcb => (if qcb = true then (qaP.l0 k x8 x9 (wrap64 (x10 + 1))) else (some false))) else (none)) else (none)) else (some true)
def qaP.f (k : Nat) (l0 : List (qac)) : Option (Bool) := if (l0.length : Int) > 12 then (some false) else (qaP.l0 k l0 (l0.length : Int) 0)
theorem qaP.calls (k : Nat) (A0 : Option Addr) (c0 : Nat) (l0 : List (qac)) (r : Bool) (w : World) (hr0 : Kd.C qaG w A0 l0.length l0) (hc0 : l0.length ≤ c0) (h : qaP.f k l0 = some r) :
  Calls Tryz.prog 60 #[.slice A0 l0.length c0] w fun e w' => e = .returned (.bool r) ∧ Below w.heap.size w w' := by
 have qme := Tryz.underlying85; have HR0 := ak_ hr0; have HC0 := ak_ hc0; clear hr0 hc0; have HB := br_ w; have H : (if (l0.length : Int) > 12 then (some false) else (qaP.l0 k l0 (l0.length : Int) 0)) = some r := h; clear h; by_cases c2 : (l0.length : Int) > 12
 ·rw [if_pos c2] at H; have qfB : decide (12 < (l0.length : Int)) = true := decide_eq_true c2; have qnI : decide (12 < l0.length) = true := decide_eq_true (by omega); clear c2; obtain rfl := sj_ H; go_enter Tryz.func60, Tryz.ntmps60; go_wp2
  go_ret
  exact ⟨qca, qao⟩
 rw [if_neg c2] at H; have qfB : decide (12 < (l0.length : Int)) = false := decide_eq_false c2; have qnI : decide (12 < l0.length) = false := decide_eq_false (by omega); clear c2; have H' := ak_ H; clear H; go_enter Tryz.func60, Tryz.ntmps60; go_wp2
 go_loopg [10] k (fun kq v10 w' => ∃ (qcS : Int), v10 = .int .i64 qcS ∧ qai (qaP.l0 kq l0 (l0.length : Int) qcS = some r) ∧ qai (kq ≤ k) ∧ qai (Below w.heap.size w w'))
 case atStart => exact ⟨(0), qay, H', ⟨Nat.le_refl _⟩, ⟨qao⟩⟩
 case round =>
  clear H'; (try clear c2); (try clear qfB); (try clear qnI); obtain ⟨qcS, rfl, HA, HK1, HB⟩ := hrel
  cases gk with
  | zero => exact absurd HA.1 (by simp [qaP.l0])
  | succ k1 =>
   have H := HA.1; clear HA; simp only [qaP.l0] at H; by_cases c3 : qcS < (l0.length : Int); rotate_left
   ·rw [if_neg c3] at H; have qfr := decide_eq_false c3; clear c3; obtain rfl := sj_ H; go_wp2
    go_ret
    exact ⟨qca, qao⟩
   rw [if_pos c3] at H; have qfr := decide_eq_true c3; clear c3; obtain ⟨c4, H⟩ := qct H; have qfw := decide_eq_true c4; clear c4; obtain ⟨c5, H⟩ := qct H; have qgL := decide_eq_true c5; clear c5; obtain ⟨qcb, A6, H⟩ := qaB H; (try dsimp only at H); by_cases c7 : qcb = true
   ·subst c7; rw [if_pos rfl] at H; have H' := ak_ H; clear H; have qeC : 0 ≤ (qcS : Int) := of_decide_eq_true qaL; have qeJ : qcS < (l0.length : Int) := of_decide_eq_true qaL; obtain ⟨qfL, qg7, qbk, qbL⟩ := qc6 HR0.1 qcS qeC qeJ
    cases qg7
    replace qbk := (HB.1.cell (World.block_lt_of_cell? w _ qbk)).trans qbk; replace qbL := (HB.1.cell (World.block_lt_of_cell? w _ qbL)).trans qbL; replace qeC := eq_true qeC; replace qeJ := eq_true qeJ
    go_wp2_with (first | ((with_reducible refine qam (N := 4) rfl ?_); refine bx_ 4 rfl (cs := #[.int .i64 0, .int .i64 0]) (t := 85) qa1 ?_; intro qcO hg w8 hbox hb; have qbI := ak_ (hbox); have qfE := ak_ (HB.ge hg); have qfq := ak_ (HB.ge hg); replace HB := HB.mw hb; clear hb hbox hg; obtain ⟨qgA, qgB, qgC, qgD⟩ := qbl qbI.1) | (refine gl_ 15 Tryz.func92 #[.agg #[.int .i64 ((qad l0 qcS).f0), .int .i64 ((qad l0 qcS).f1)]] rfl qbJ ?_; (with_reducible refine (qfl.calls ((qad l0 qcS).f0) ((qad l0 qcS).f1) true _ A6.1).mono ?_); rintro e w10 ⟨rfl, hb⟩; refine ⟨_, rfl, ?_⟩; replace qbI := ak_ (qap (g := qcO) (o := .cells #[.int .i64 ((qad l0 qcS).f0), .int .i64 ((qad l0 qcS).f1)] 85 (0, 0)) k2_ hb); replace HB := ak_ (qaa qnp hb); (try clear hb)))
    go_roundg k1
    case measure => have := HK1.1; omega
    case rel => exact ⟨(wrap64 (qcS + 1)), qay, H', ⟨qc9⟩, ⟨qnp⟩⟩
   replace c7 := Bool.eq_false_iff.mpr c7; subst c7; rw [if_neg ff_] at H; obtain rfl := sj_ H; have qeC : 0 ≤ (qcS : Int) := of_decide_eq_true qaL; have qeJ : qcS < (l0.length : Int) := of_decide_eq_true qaL; obtain ⟨qfL, qg7, qbk, qbL⟩ := qc6 HR0.1 qcS qeC qeJ
   cases qg7
   replace qbk := (HB.1.cell (World.block_lt_of_cell? w _ qbk)).trans qbk; replace qbL := (HB.1.cell (World.block_lt_of_cell? w _ qbL)).trans qbL; replace qeC := eq_true qeC; replace qeJ := eq_true qeJ
   go_wp2_with (first | ((with_reducible refine qam (N := 4) rfl ?_); refine bx_ 4 rfl (cs := #[.int .i64 0, .int .i64 0]) (t := 85) qa1 ?_; intro qcO hg w11 hbox hb; have qbI := ak_ (hbox); have qfE := ak_ (HB.ge hg); have qfq := ak_ (HB.ge hg); replace HB := HB.mw hb; clear hb hbox hg; obtain ⟨qmX, qmY, qmZ, qm0⟩ := qbl qbI.1) | (refine gl_ 15 Tryz.func92 #[.agg #[.int .i64 ((qad l0 qcS).f0), .int .i64 ((qad l0 qcS).f1)]] rfl qbJ ?_; (with_reducible refine (qfl.calls ((qad l0 qcS).f0) ((qad l0 qcS).f1) false _ A6.1).mono ?_); rintro e w13 ⟨rfl, hb⟩; refine ⟨_, rfl, ?_⟩; replace qbI := ak_ (qap (g := qcO) (o := .cells #[.int .i64 ((qad l0 qcS).f0), .int .i64 ((qad l0 qcS).f1)] 85 (0, 0)) k2_ hb); replace HB := ak_ (qaa qnp hb); (try clear hb)))
   go_ret
   exact ⟨qca, qnp⟩
end
end Go.Proofs.YtjeoabbnalamcaaGreatDoor.P
