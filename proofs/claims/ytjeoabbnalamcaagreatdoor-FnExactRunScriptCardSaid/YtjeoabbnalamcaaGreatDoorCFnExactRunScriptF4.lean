/- What functions of the program answer. Proved in this text: its theorems. Conditions: as each theorem states them. -/
import Derived.Test.YtjeoabbnalamcaaGreatDoorCFnExactRunScriptP
import Derived.Test.YtjeoabbnalamcaaGreatDoorCFnExactRunScriptF3
import Derived.Test.YtjeoabbnalamcaaGreatDoorCFnExactRunScriptF2
import Derived.Test.YtjeoabbnalamcaaGreatDoorCFnExactRunScriptF0
namespace Go.Proofs.YtjeoabbnalamcaaGreatDoor.P
open Go.RowKit Go.Proofs.YtjeoabbnalamcaaGreatDoorW.qaY Go.Proofs.YtjeoabbnalamcaaGreatDoorW.PrintLast Go.Proofs.YtjeoabbnalamcaaGreatDoorW.PrintMore
set_option linter.unusedVariables false
set_option linter.unusedSimpArgs false
set_option maxHeartbeats 8000000
set_option maxRecDepth 100000
section
attribute [local go_sem] qgV qgX qif qig qge qgf qgW qgY
def qde.f (k : Nat) (a0 : Int) : Option (List Int × Bool) := (qdf.f a0).bind fun qas => (if qas = true then ((qb3.f k a0).bind fun qaI => (some (qaI, true))) else (some (([] : List Int), false)))
theorem qde.calls (k : Nat) (a0 : Int) (r1 : List Int) (r2 : Bool) (w : World) (h : qde.f k a0 = some (r1, r2)) :
  Calls Tryz.prog 115 #[.int .i64 a0] w fun e w' => ∃ v0_ : Value, e = .returned (.tuple #[v0_, .bool r2]) ∧ Kd.R (Kd.int .i64) 3 w' w.heap.size (fun _ => True) v0_ r1 ∧ Below w.heap.size w w' := by
 have HB := ak_ (Below.refl w.heap.size w); have H : ((qdf.f a0).bind fun qas => (if qas = true then ((qb3.f k a0).bind fun qaI => (some (qaI, true))) else (some (([] : List Int), false)))) = some (r1, r2) := h; clear h; obtain ⟨qas, A2, H⟩ := qaw H; (try dsimp only at H); by_cases c3 : qas = true
 ·subst c3; rw [if_pos rfl] at H; obtain ⟨qaI, A4, H⟩ := qaw H; (try dsimp only at H); obtain ⟨rfl, rfl⟩ := qdI H; go_enter Tryz.func115, Tryz.ntmps115
  go_wp2_with (first | (refine gl_ 5 Tryz.func170 #[.int .i64 a0] rfl qbK ?_; (with_reducible refine (qdf.calls a0 true _ A2.out).mono ?_); rintro e w' ⟨rfl, ⟨nd, rfl⟩⟩; refine ⟨_, rfl, ?_⟩) | (refine gl_ 8 Tryz.func171 #[.int .i64 a0] rfl qbK ?_; (with_reducible refine (qb3.calls k a0 qaI _ A4.out).mono ?_); rintro e w5 ⟨qhg, rfl, ho0, hb⟩; refine ⟨_, rfl, ?_⟩; have qbW := ak_ (Kd.qau ho0 (qab qam)); replace HB := HB.mw hb; (try clear hb ho0)))
  go_ret2
  exact ⟨_, qce, k63_, qam⟩
 replace c3 := Bool.eq_false_iff.mpr c3; subst c3; rw [if_neg (show ¬ (false = true) by decide)] at H; obtain ⟨rfl, rfl⟩ := qdI H; go_enter Tryz.func115, Tryz.ntmps115
 go_wp2_with (first | (refine gl_ 5 Tryz.func170 #[.int .i64 a0] rfl qbK ?_; (with_reducible refine (qdf.calls a0 false _ A2.out).mono ?_); rintro e w' ⟨rfl, ⟨nd, rfl⟩⟩; refine ⟨_, rfl, ?_⟩))
 go_ret2
 exact ⟨_, qce, qg4, qam⟩
def qcg.l0 : Nat → Int → List (List Int) → Int → Int → Option (Int)
 | 0, _, _, _, _ => none
 | k + 1, x0, x6, x7, x8 => if x8 < x7 then (if 0 ≤ x8 then (if x8 < (x6.length : Int) then (if 0 < ((qa0 x6 x8).length : Int) then (if (rd (qa0 x6 x8) 0) = 0 then (none) else (qcg.l0 k (wrap64 ((wrap64 (Int.tdiv x0 (rd (qa0 x6 x8) 0))) * (wrap64 ((rd (qa0 x6 x8) 0) - 1)))) x6 x7 (wrap64 (x8 + 1)))) else (none)) else (none)) else (none)) else (some x0)
def qcg.f (k : Nat) (a0 : Int) : Option (Int) := (qa4.f k a0).bind fun qas => (qcg.l0 k a0 qas (qas.length : Int) 0)
theorem qcg.calls (k : Nat) (a0 : Int) (r : Int) (w : World) (h : qcg.f k a0 = some r) :
  Calls Tryz.prog 172 #[.int .i64 a0] w fun e w' => e = .returned (.int .i64 r) ∧ Below w.heap.size w w' := by
 have HB := ak_ (Below.refl w.heap.size w); have H : ((qa4.f k a0).bind fun qas => (qcg.l0 k a0 qas (qas.length : Int) 0)) = some r := h; clear h; obtain ⟨qas, A2, H⟩ := qaw H; (try dsimp only at H); have H' := ak_ H; clear H; go_enter Tryz.func172, Tryz.ntmps172
 go_wp2_with (first | (go_at_call 167; (with_reducible refine (qa4.calls k a0 qas _ A2.out).mono ?_); rintro e w3 ⟨qiq, rfl, ho0, hb⟩; have qdi := ak_ (Kd.qdU ho0 (qab qam)); replace HB := HB.mw hb; (try clear hb ho0); obtain ⟨Ao4, co4, eo4⟩ := Kd.qdL qdi.out; subst eo4))
 repeat (go_quiet (first | (go_at_call 167; (with_reducible refine (qa4.calls k a0 qas _ A2.out).mono ?_); rintro e w3 ⟨qiq, rfl, ho0, hb⟩; have qdi := ak_ (Kd.qdU ho0 (qab qam)); replace HB := HB.mw hb; (try clear hb ho0); obtain ⟨Ao4, co4, eo4⟩ := Kd.qdL qdi.out; subst eo4)); try go_wp2_with (first | (go_at_call 167; (with_reducible refine (qa4.calls k a0 qas _ A2.out).mono ?_); rintro e w3 ⟨qiq, rfl, ho0, hb⟩; have qdi := ak_ (Kd.qdU ho0 (qab qam)); replace HB := HB.mw hb; (try clear hb ho0); obtain ⟨Ao4, co4, eo4⟩ := Kd.qdL qdi.out; subst eo4)))
 go_loopg [0, 8] k (fun kq v0 v8 w' => ∃ (qfq : Int) (qcM : Int), v0 = .int .i64 qfq ∧ v8 = .int .i64 qcM ∧ qag (qcg.l0 kq qfq qas (qas.length : Int) qcM = some r) ∧ qag (kq ≤ k) ∧ qag (Kd.S (Kd.slice 3 (Kd.int .i64)) 48 w' w.heap.size (fun _ => True) (.slice Ao4 qas.length co4) qas) ∧ qag (Below w.heap.size w w'))
 case atStart => exact ⟨(a0), (0), qav, qav, H', ⟨Nat.le_refl _⟩, ⟨by apply_rules only [qdi.out, Kd.qdl, Kd.qdm, Kd.qea]⟩, ⟨qam⟩⟩
 case round =>
  clear H'; obtain ⟨qfq, qcM, rfl, rfl, HA, HK1, qfv, HB⟩ := hrel
  cases gk with
  | zero => exact absurd HA.out (by simp [qcg.l0])
  | succ k1 =>
   have H := HA.out; clear HA; simp only [qcg.l0] at H; by_cases c5 : qcM < (qas.length : Int); rotate_left
   ·rw [if_neg c5] at H; have qgH : decide (qcM < (qas.length : Int)) = false := decide_eq_false c5; clear c5; obtain rfl := Option.some.inj H; go_wp2
    repeat (go_quiet (fail); try go_wp2)
    go_ret
    exact ⟨qce, qam⟩
   rw [if_pos c5] at H; have qgH : decide (qcM < (qas.length : Int)) = true := decide_eq_true c5; clear c5; by_cases c6 : 0 ≤ qcM; rotate_left
   ·rw [if_neg c6] at H; exact absurd H (by simp)
   rw [if_pos c6] at H; have qfY : decide (0 ≤ qcM) = true := decide_eq_true c6; clear c6; by_cases c7 : qcM < (qas.length : Int); rotate_left
   ·rw [if_neg c7] at H; exact absurd H (by simp)
   rw [if_pos c7] at H; have qgM : decide (qcM < (qas.length : Int)) = true := decide_eq_true c7; clear c7; by_cases c8 : 0 < ((qa0 qas qcM).length : Int); rotate_left
   ·rw [if_neg c8] at H; exact absurd H (by simp)
   rw [if_pos c8] at H; have qnK : decide (0 < ((qa0 qas qcM).length : Int)) = true := decide_eq_true c8; have c8b1 : decide (0 < (qa0 qas qcM).length) = true := decide_eq_true (by omega); clear c8; by_cases c9 : (rd (qa0 qas qcM) 0) = 0
   ·rw [if_pos c9] at H; exact absurd H (by simp)
   rw [if_neg c9] at H; have qlX : ((rd (qa0 qas qcM) 0) == 0) = false := beq_eq_false_iff_ne.mpr c9; have c9b1 : ((rd (qa0 qas qcM) 0) != 0) = true := bne_iff_ne.mpr c9; have H' := ak_ H; clear H; have qhc : 0 ≤ (qcM : Int) := of_decide_eq_true qaU; have qhd : qcM < (qas.length : Int) := of_decide_eq_true qaU; obtain ⟨qhP, qqQ, qre, qmU, qdW, qhv, qhu⟩ := qiR (Kd.S_reads' qfv.out).2.2 qcM qhc qhd
   cases qmU
   obtain ⟨ce104, qrG, qrE, qm2⟩ := Kd.qq3 qfv.out [] qcM qhc (by first | exact qhd | exact of_decide_eq_true qaU | (have e_ := (Kd.S_reads' qfv.out).1; omega)); obtain ⟨ve104_0, rfl, qh7⟩ := qrE; have qf9 := qm2 0 _ rfl; rw [Nat.add_zero, show ((Kd.slice 3 (Kd.int .i64))).sz = 1 from rfl, Nat.mul_one] at qf9; replace qf9 := Option.some.inj (qf9.symm.trans qdW); rw [qf9] at qh7; have HL104_0 := ak_ (show Kd.R (Kd.int .i64) 3 _ _ _ _ (qa0 qas qcM) from qh7); clear qf9 qh7; clear qm2 qrG; have qjP := ak_ qhu; have qnQ := ak_ qhv; clear qhu qhv; replace qhc := eq_true qhc; replace qhd := eq_true qhd
   have qhw : 0 ≤ (0 : Int) := (by omega)
   have qhx : 0 < ((qa0 qas qcM).length : Int) := of_decide_eq_true qaU; obtain ⟨qec, qmV, qcR⟩ := Kd.qem k32_ 0 qhw qhx
   cases qmV
   have qsw : (0 < (qa0 qas qcM).length) = True := eq_true (by omega); (try rw [show ((0 : Int)).toNat = 0 from rfl] at qcR); (try rw [Addr.add_zero'] at qcR); replace qhw := eq_true qhw; replace qhx := eq_true qhx
   have qfH : 0 ≤ (0 : Int) := (by omega)
   have qfJ : 0 < ((qa0 qas qcM).length : Int) := of_decide_eq_true qaU; obtain ⟨qgL, qjx, qcq⟩ := Kd.qem k32_ 0 qfH qfJ
   obtain rfl : qec = qgL := (by injection qjx)
   have qsx : (0 < (qa0 qas qcM).length) = True := eq_true (by omega); (try rw [show ((0 : Int)).toNat = 0 from rfl] at qcq); (try rw [Addr.add_zero'] at qcq); replace qfH := eq_true qfH; replace qfJ := eq_true qfJ; go_wp2
   repeat (go_quiet (fail); try go_wp2)
   go_roundg k1
   case measure => have := HK1.out; omega
   case rel => exact ⟨(wrap64 ((wrap64 (Int.tdiv qfq (rd (qa0 qas qcM) 0))) * (wrap64 ((rd (qa0 qas qcM) 0) - 1)))), (wrap64 (qcM + 1)), qav, qav, H', ⟨qc9⟩, ⟨by apply_rules only [qfv.out, Kd.qdl, Kd.qdm, Kd.qea]⟩, ⟨qam⟩⟩
def qdx.f (k : Nat) (a0 : Int) : Option (Int × Bool) := (qdf.f a0).bind fun qas => (if qas = true then ((qcg.f k a0).bind fun qaI => (some (qaI, true))) else (some (0, false)))
theorem qdx.calls (k : Nat) (a0 : Int) (r1 : Int) (r2 : Bool) (w : World) (h : qdx.f k a0 = some (r1, r2)) :
  Calls Tryz.prog 116 #[.int .i64 a0] w fun e w' => e = .returned (.tuple #[.int .i64 r1, .bool r2]) ∧ Below w.heap.size w w' := by
 have HB := ak_ (Below.refl w.heap.size w); have H : ((qdf.f a0).bind fun qas => (if qas = true then ((qcg.f k a0).bind fun qaI => (some (qaI, true))) else (some (0, false)))) = some (r1, r2) := h; clear h; obtain ⟨qas, A2, H⟩ := qaw H; (try dsimp only at H); by_cases c3 : qas = true
 ·subst c3; rw [if_pos rfl] at H; obtain ⟨qaI, A4, H⟩ := qaw H; (try dsimp only at H); obtain ⟨rfl, rfl⟩ := qdI H; go_enter Tryz.func116, Tryz.ntmps116
  go_wp2_with (first | (refine gl_ 5 Tryz.func170 #[.int .i64 a0] rfl qbK ?_; (with_reducible refine (qdf.calls a0 true _ A2.out).mono ?_); rintro e w' ⟨rfl, ⟨nd, rfl⟩⟩; refine ⟨_, rfl, ?_⟩) | (refine gl_ 8 Tryz.func172 #[.int .i64 a0] rfl qbK ?_; (with_reducible refine (qcg.calls k a0 qaI _ A4.out).mono ?_); rintro e w5 ⟨rfl, hb⟩; refine ⟨_, rfl, ?_⟩; replace HB := HB.mw hb; (try clear hb)))
  go_ret2
  exact ⟨qce, qam⟩
 replace c3 := Bool.eq_false_iff.mpr c3; subst c3; rw [if_neg (show ¬ (false = true) by decide)] at H; obtain ⟨rfl, rfl⟩ := qdI H; go_enter Tryz.func116, Tryz.ntmps116
 go_wp2_with (first | (refine gl_ 5 Tryz.func170 #[.int .i64 a0] rfl qbK ?_; (with_reducible refine (qdf.calls a0 false _ A2.out).mono ?_); rintro e w' ⟨rfl, ⟨nd, rfl⟩⟩; refine ⟨_, rfl, ?_⟩))
 go_ret2
 exact ⟨qce, qam⟩
mutual
def qaZ.j0 : Nat → List (qac) → Int → Bool → Option (ByteArray × Bool)
 | 0, _, _, _ => none
 | k + 1, x0, x1, x15 => if x15 = true then (some ((⟨#[]⟩ : ByteArray), false)) else (qaZ.l0 k x0 x1 (⟨#[]⟩ : ByteArray) 1)
def qaZ.l0 : Nat → List (qac) → Int → ByteArray → Int → Option (ByteArray × Bool)
 | 0, _, _, _, _ => none
 | k + 1, x0, x1, x6, x7 => if x7 ≤ x1 then ((qch.f k x0 x7).bind fun qb7 => (if qb7 = true then (if x6.size + 1 ≤ 9223372036854775807 then (qaZ.l0 k x0 x1 (x6 ++ (⟨#[111]⟩ : ByteArray)) (wrap64 (x7 + 1))) else (none)) else (if x6.size + 1 ≤ 9223372036854775807 then (qaZ.l0 k x0 x1 (x6 ++ (⟨#[120]⟩ : ByteArray)) (wrap64 (x7 + 1))) else (none)))) else (some (x6, true))
end
def qaZ.f (k : Nat) (l0 : List (qac)) (a1 : Int) : Option (ByteArray × Bool) := (qaO.f k l0).bind fun qas => (if qas = true then ((qbf.f a1 1 48).bind fun qaI => (qaZ.j0 k l0 a1 (!qaI))) else (qaZ.j0 k l0 a1 true))
theorem qaZ.calls (k : Nat) (A0 : Option Addr) (c0 : Nat) (l0 : List (qac)) (a1 : Int) (r1 : ByteArray) (r2 : Bool) (w : World) (hr0 : Kd.C qaN w A0 l0.length l0) (hc0 : l0.length ≤ c0) (h : qaZ.f k l0 a1 = some (r1, r2)) :
  Calls Tryz.prog 117 #[.slice A0 l0.length c0, .int .i64 a1] w fun e w' => e = .returned (.tuple #[.string r1, .bool r2]) ∧ Below w.heap.size w w' := by
 have HR0 := ak_ hr0; have HC0 := ak_ hc0; clear hr0 hc0; have HB := ak_ (Below.refl w.heap.size w); have H : ((qaO.f k l0).bind fun qas => (if qas = true then ((qbf.f a1 1 48).bind fun qaI => (qaZ.j0 k l0 a1 (!qaI))) else (qaZ.j0 k l0 a1 true))) = some (r1, r2) := h; clear h; have HC3 := ak_ H; clear H; go_enter Tryz.func117, Tryz.ntmps117
 go_upto_region 1 with (fail)
 go_cut [15] (fun v15 wc => ∃ (kq : Nat) (qmp : Bool), v15 = .bool qmp ∧ qag (qaZ.j0 kq l0 a1 qmp = some (r1, r2)) ∧ qag (kq ≤ k) ∧ qag (Below w.heap.size w wc))
 case first =>
  have H := HC3.out; clear HC3; obtain ⟨qas, A4, H⟩ := qaw H; (try dsimp only at H); by_cases c5 : qas = true
  ·subst c5; rw [if_pos rfl] at H; obtain ⟨qaI, A6, H⟩ := qaw H; (try dsimp only at H); have H' := ak_ H; clear H
   go_wp2_with (first | (refine gl_ 9 Tryz.func60 #[.slice A0 l0.length c0] rfl qbK ?_; (with_reducible refine (qaO.calls k _ _ l0 true _ ?qay ?qaz A4.out).mono ?_); (case qay => exact qg3); (case qaz => exact qb6); rintro e w7 ⟨rfl, hb⟩; refine ⟨_, rfl, ?_⟩; replace HB := HB.mw hb; (try clear hb)) | (go_at_call 93; (with_reducible refine (qbf.calls a1 1 48 qaI _ A6.out).mono ?_); rintro e w' ⟨rfl, ⟨nd, rfl⟩⟩))
   go_meet
   case rel => exact ⟨_, (!qaI), qav, H', ⟨qid⟩, ⟨qam⟩⟩
  replace c5 := Bool.eq_false_iff.mpr c5; subst c5; rw [if_neg (show ¬ (false = true) by decide)] at H; have H' := ak_ H; clear H
  go_wp2_with (first | (refine gl_ 9 Tryz.func60 #[.slice A0 l0.length c0] rfl qbK ?_; (with_reducible refine (qaO.calls k _ _ l0 false _ ?qay ?qaz A4.out).mono ?_); (case qay => exact qg3); (case qaz => exact qb6); rintro e w8 ⟨rfl, hb⟩; refine ⟨_, rfl, ?_⟩; replace HB := HB.mw hb; (try clear hb)))
  go_meet
  case rel => exact ⟨_, (true), qav, H', ⟨qid⟩, ⟨qam⟩⟩
 case rest =>
  clear HC3; obtain ⟨kq, qmp, rfl, HA, HJ2, HB⟩ := hcut
  cases kq with
  | zero => exact absurd HA.out (by simp [qaZ.j0])
  | succ kj2 =>
   have H := HA.out; clear HA; simp only [qaZ.j0] at H; by_cases c9 : qmp = true
   ·subst c9; rw [if_pos rfl] at H; obtain ⟨rfl, rfl⟩ := qdI H; go_wp2
    go_ret2
    exact ⟨qce, qam⟩
   replace c9 := Bool.eq_false_iff.mpr c9; subst c9; rw [if_neg (show ¬ (false = true) by decide)] at H; have H' := ak_ H; clear H; go_wp2
   go_loopg [6, 7] kj2 (fun kq v6 v7 w' => ∃ (qgz : ByteArray) (qkK : Int), v6 = .string qgz ∧ v7 = .int .i64 qkK ∧ qag (qaZ.l0 kq l0 a1 qgz qkK = some (r1, r2)) ∧ qag (kq ≤ kj2) ∧ qag (Below w.heap.size w w'))
   case atStart => exact ⟨((⟨#[]⟩ : ByteArray)), (1), qav, qav, H', ⟨Nat.le_refl _⟩, ⟨qam⟩⟩
   case round =>
    clear H'; (try clear c9); obtain ⟨qgz, qkK, rfl, rfl, HA, HK2, HB⟩ := hrel
    cases gk with
    | zero => exact absurd HA.out (by simp [qaZ.l0])
    | succ k2 =>
     have H := HA.out; clear HA; simp only [qaZ.l0] at H; by_cases c10 : qkK ≤ a1; rotate_left
     ·rw [if_neg c10] at H; have qgC : decide (qkK ≤ a1) = false := decide_eq_false c10; clear c10; obtain ⟨rfl, rfl⟩ := qdI H; go_wp2
      go_ret2
      exact ⟨qce, qam⟩
     rw [if_pos c10] at H; have qgC : decide (qkK ≤ a1) = true := decide_eq_true c10; clear c10; obtain ⟨qb7, A11, H⟩ := qaw H; (try dsimp only at H); by_cases c12 : qb7 = true
     ·subst c12; rw [if_pos rfl] at H; by_cases c13 : qgz.size + 1 ≤ 9223372036854775807; rotate_left
      ·rw [if_neg c13] at H; exact absurd H (by simp)
      rw [if_pos c13] at H; have qlU := eq_true c13; have c13b1 : decide (qgz.size + 1 ≤ 9223372036854775807) = true := decide_eq_true c13
      try have c13b2 : (9223372036854775807 < qgz.size + 1) = False := eq_false (Nat.not_lt.2 c13)
      have H' := ak_ H; clear H
      go_wp2_with (first | (refine gl_ 23 Tryz.func173 #[.slice A0 l0.length c0, .int .i64 qkK] rfl qbK ?_; (with_reducible refine (qch.calls k2 _ _ l0 qkK true _ ?qay ?qaz A11.out).mono ?_); (case qay => exact qg3); (case qaz => exact qb6); rintro e w14 ⟨rfl, hb⟩; refine ⟨_, rfl, ?_⟩; replace HB := HB.mw hb; (try clear hb)))
      go_roundg k2
      case measure => have := HJ2.out; have := HK2.out; omega
      case rel => exact ⟨(qgz ++ (⟨#[111]⟩ : ByteArray)), (wrap64 (qkK + 1)), qav, qav, H', ⟨by have := HJ2.out; have := HK2.out; omega⟩, ⟨qam⟩⟩
     replace c12 := Bool.eq_false_iff.mpr c12; subst c12; rw [if_neg (show ¬ (false = true) by decide)] at H; by_cases c15 : qgz.size + 1 ≤ 9223372036854775807; rotate_left
     ·rw [if_neg c15] at H; exact absurd H (by simp)
     rw [if_pos c15] at H; have qmI := eq_true c15; have qoa : decide (qgz.size + 1 ≤ 9223372036854775807) = true := decide_eq_true c15
     try have c15b2 : (9223372036854775807 < qgz.size + 1) = False := eq_false (Nat.not_lt.2 c15)
     have H' := ak_ H; clear H
     go_wp2_with (first | (refine gl_ 23 Tryz.func173 #[.slice A0 l0.length c0, .int .i64 qkK] rfl qbK ?_; (with_reducible refine (qch.calls k2 _ _ l0 qkK false _ ?qay ?qaz A11.out).mono ?_); (case qay => exact qg3); (case qaz => exact qb6); rintro e w16 ⟨rfl, hb⟩; refine ⟨_, rfl, ?_⟩; replace HB := HB.mw hb; (try clear hb)))
     go_roundg k2
     case measure => have := HJ2.out; have := HK2.out; omega
     case rel => exact ⟨(qgz ++ (⟨#[120]⟩ : ByteArray)), (wrap64 (qkK + 1)), qav, qav, H', ⟨by have := HJ2.out; have := HK2.out; omega⟩, ⟨qam⟩⟩
def qbw.l0 : Nat → ByteArray → Int → Option (Bool)
 | 0, _, _ => none
 | k + 1, x0, x3 => if x3 < (x0.size : Int) then (if 0 ≤ x3 then (if (bt x0 x3) = 111 then (qbw.l0 k x0 (wrap64 (x3 + 1))) else (if (bt x0 x3) = 120 then (qbw.l0 k x0 (wrap64 (x3 + 1))) else (if (bt x0 x3) = 63 then (qbw.l0 k x0 (wrap64 (x3 + 1))) else (some false)))) else (none)) else (some true)
def qbw.f (k : Nat) (a0 : ByteArray) : Option (Bool) := (qbf.f (a0.size : Int) 1 48).bind fun qas => (if qas = true then (qbw.l0 k a0 0) else (some false))
theorem qbw.calls (k : Nat) (a0 : ByteArray) (r : Bool) (w : World) (h : qbw.f k a0 = some r) :
  Calls Tryz.prog 212 #[.string a0] w fun e w' => e = .returned (.bool r) ∧ qcX w w' := by
 have H : ((qbf.f (a0.size : Int) 1 48).bind fun qas => (if qas = true then (qbw.l0 k a0 0) else (some false))) = some r := h; clear h; obtain ⟨qas, A2, H⟩ := qaw H; (try dsimp only at H); by_cases c3 : qas = true; rotate_left
 ·replace c3 := Bool.eq_false_iff.mpr c3; subst c3; rw [if_neg (show ¬ (false = true) by decide)] at H; obtain rfl := Option.some.inj H; go_enter Tryz.func212, Tryz.ntmps212
  go_wp2_with (first | (refine gl_ 6 Tryz.func93 #[.int .i64 (a0.size : Int), .int .i64 1, .int .i64 48] rfl qbK ?_; (with_reducible refine (qbf.calls (a0.size : Int) 1 48 false _ A2.out).mono ?_); rintro e w' ⟨rfl, ⟨nd, rfl⟩⟩; refine ⟨_, rfl, ?_⟩))
  go_ret
  exact ⟨qav, qc2⟩
 subst c3; rw [if_pos rfl] at H; have H' := ak_ H; clear H; go_enter Tryz.func212, Tryz.ntmps212
 go_wp2_with (first | (refine gl_ 6 Tryz.func93 #[.int .i64 (a0.size : Int), .int .i64 1, .int .i64 48] rfl qbK ?_; (with_reducible refine (qbf.calls (a0.size : Int) 1 48 true _ A2.out).mono ?_); rintro e w' ⟨rfl, ⟨nd, rfl⟩⟩; refine ⟨_, rfl, ?_⟩))
 go_loopg [3] k (fun kq v3 w' => ∃ (qbg : Int), v3 = .int .i64 qbg ∧ qag (qbw.l0 kq a0 qbg = some r) ∧ qag (kq ≤ k) ∧ qcX w w')
 case atStart => exact ⟨(0), qav, H', ⟨Nat.le_refl _⟩, qc2⟩
 case round =>
  clear H'; (try clear c3); obtain ⟨qbg, rfl, HA, HK1, ⟨m1, rfl⟩⟩ := hrel
  cases gk with
  | zero => exact absurd HA.out (by simp [qbw.l0])
  | succ k1 =>
   have H := HA.out; clear HA; simp only [qbw.l0] at H; by_cases c4 : qbg < (a0.size : Int); rotate_left
   ·rw [if_neg c4] at H; have qfx : decide (qbg < (a0.size : Int)) = false := decide_eq_false c4; clear c4; obtain rfl := Option.some.inj H; go_wp2
    go_ret
    exact ⟨qav, qc2⟩
   rw [if_pos c4] at H; have qfx : decide (qbg < (a0.size : Int)) = true := decide_eq_true c4; clear c4; by_cases c5 : 0 ≤ qbg; rotate_left
   ·rw [if_neg c5] at H; exact absurd H (by simp)
   rw [if_pos c5] at H; have qgH : decide (0 ≤ qbg) = true := decide_eq_true c5; clear c5; by_cases c7 : (bt a0 qbg) = 111
   ·rw [if_pos c7] at H; have qgM : ((bt a0 qbg) == 111) = true := beq_iff_eq.mpr c7; have qmr : ((bt a0 qbg) != 111) = false := bne_eq_false_iff_eq.mpr c7; clear c7; have H' := ak_ H; clear H; have p6 : 0 ≤ (qbg : Int) := of_decide_eq_true qaU; have q6 : qbg < (a0.size : Int) := of_decide_eq_true qaU; have hx6 := qel a0 qbg; replace p6 := eq_true p6; replace q6 := eq_true q6; go_wp2
    go_roundg k1
    case measure => have := HK1.out; omega
    case rel => exact ⟨(wrap64 (qbg + 1)), qav, H', ⟨qc9⟩, qc2⟩
   rw [if_neg c7] at H; have qgM : ((bt a0 qbg) == 111) = false := beq_eq_false_iff_ne.mpr c7; have qmr : ((bt a0 qbg) != 111) = true := bne_iff_ne.mpr c7; by_cases c9 : (bt a0 qbg) = 120
   ·rw [if_pos c9] at H; have qlX : ((bt a0 qbg) == 120) = true := beq_iff_eq.mpr c9; have c9b1 : ((bt a0 qbg) != 120) = false := bne_eq_false_iff_eq.mpr c9; clear c9; have H' := ak_ H; clear H; have p6 : 0 ≤ (qbg : Int) := of_decide_eq_true qaU; have q6 : qbg < (a0.size : Int) := of_decide_eq_true qaU; have hx6 := qel a0 qbg; replace p6 := eq_true p6; replace q6 := eq_true q6; have p8 : 0 ≤ (qbg : Int) := of_decide_eq_true qaU; have q8 : qbg < (a0.size : Int) := of_decide_eq_true qaU; have hx8 := qel a0 qbg; replace p8 := eq_true p8; replace q8 := eq_true q8; go_wp2
    go_roundg k1
    case measure => have := HK1.out; omega
    case rel => exact ⟨(wrap64 (qbg + 1)), qav, H', ⟨qc9⟩, qc2⟩
   rw [if_neg c9] at H; have qlX : ((bt a0 qbg) == 120) = false := beq_eq_false_iff_ne.mpr c9; have c9b1 : ((bt a0 qbg) != 120) = true := bne_iff_ne.mpr c9; by_cases c11 : (bt a0 qbg) = 63; rotate_left
   ·rw [if_neg c11] at H; have qgs : ((bt a0 qbg) == 63) = false := beq_eq_false_iff_ne.mpr c11; have qhl : ((bt a0 qbg) != 63) = true := bne_iff_ne.mpr c11; obtain rfl := Option.some.inj H; have p6 : 0 ≤ (qbg : Int) := of_decide_eq_true qaU; have q6 : qbg < (a0.size : Int) := of_decide_eq_true qaU; have hx6 := qel a0 qbg; replace p6 := eq_true p6; replace q6 := eq_true q6; have p8 : 0 ≤ (qbg : Int) := of_decide_eq_true qaU; have q8 : qbg < (a0.size : Int) := of_decide_eq_true qaU; have hx8 := qel a0 qbg; replace p8 := eq_true p8; replace q8 := eq_true q8; have p10 : 0 ≤ (qbg : Int) := of_decide_eq_true qaU; have q10 : qbg < (a0.size : Int) := of_decide_eq_true qaU; have hx10 := qel a0 qbg; replace p10 := eq_true p10; replace q10 := eq_true q10; go_wp2
    go_ret
    exact ⟨qav, qc2⟩
   rw [if_pos c11] at H; have qgs : ((bt a0 qbg) == 63) = true := beq_iff_eq.mpr c11; have qhl : ((bt a0 qbg) != 63) = false := bne_eq_false_iff_eq.mpr c11; clear c11; have H' := ak_ H; clear H; have p6 : 0 ≤ (qbg : Int) := of_decide_eq_true qaU; have q6 : qbg < (a0.size : Int) := of_decide_eq_true qaU; have hx6 := qel a0 qbg; replace p6 := eq_true p6; replace q6 := eq_true q6; have p8 : 0 ≤ (qbg : Int) := of_decide_eq_true qaU; have q8 : qbg < (a0.size : Int) := of_decide_eq_true qaU; have hx8 := qel a0 qbg; replace p8 := eq_true p8; replace q8 := eq_true q8; have p10 : 0 ≤ (qbg : Int) := of_decide_eq_true qaU; have q10 : qbg < (a0.size : Int) := of_decide_eq_true qaU; have hx10 := qel a0 qbg; replace p10 := eq_true p10; replace q10 := eq_true q10; go_wp2
   go_roundg k1
   case measure => have := HK1.out; omega
   case rel => exact ⟨(wrap64 (qbg + 1)), qav, H', ⟨qc9⟩, qc2⟩
def qdu.f (k : Nat) (qbL : ByteArray) (qcx : Int) : Option (Bool) := (qbw.f k qbL).bind fun qaI => (if qaI = true then ((qbf.f qcx 0 3).bind fun qb7 => (some qb7)) else (some false))
theorem qdu.calls (k : Nat) (qbL : ByteArray) (qcx : Int) (r : Bool) (w : World) (h : qdu.f k qbL qcx = some r) :
  Calls Tryz.prog 174 #[.agg #[.string qbL, .int .i64 qcx]] w fun e w' => e = .returned (.bool r) ∧ Below w.heap.size w w' := by
 have hu99 := Tryz.underlying99; have HB := ak_ (Below.refl w.heap.size w); have H : ((qbw.f k qbL).bind fun qaI => (if qaI = true then ((qbf.f qcx 0 3).bind fun qb7 => (some qb7)) else (some false))) = some r := h; clear h; obtain ⟨qaI, A2, H⟩ := qaw H; (try dsimp only at H); by_cases c3 : qaI = true
 ·subst c3; rw [if_pos rfl] at H; obtain ⟨qb7, A4, H⟩ := qaw H; (try dsimp only at H); obtain rfl := Option.some.inj H; go_enter Tryz.func174, Tryz.ntmps174
  go_wp2_with (first | ((with_reducible refine qak (N := 1) rfl ?_); refine bx_ 1 rfl (cs := #[.string qbL, .int .i64 qcx]) (t := 99) qbb ?_; intro qb8 hg w5 hbox hb; have qaF := ak_ (hbox); have qeJ := ak_ (HB.ge hg); have qen := ak_ (HB.ge hg); replace HB := HB.mw hb; clear hb hbox hg; obtain ⟨qj6, qj7, qj9, qka⟩ := qbG qaF.out) | (refine gl_ 5 Tryz.func212 #[.string qbL] rfl qbK ?_; (with_reducible refine (qbw.calls k qbL true _ A2.out).mono ?_); rintro e w' ⟨rfl, ⟨nd, rfl⟩⟩; refine ⟨_, rfl, ?_⟩) | (go_at_call 93; (with_reducible refine (qbf.calls qcx 0 3 qb7 _ A4.out).mono ?_); rintro e w' ⟨rfl, ⟨nd, rfl⟩⟩))
  go_ret
  exact ⟨qce, qdt⟩
 replace c3 := Bool.eq_false_iff.mpr c3; subst c3; rw [if_neg (show ¬ (false = true) by decide)] at H; obtain rfl := Option.some.inj H; go_enter Tryz.func174, Tryz.ntmps174
 go_wp2_with (first | ((with_reducible refine qak (N := 1) rfl ?_); refine bx_ 1 rfl (cs := #[.string qbL, .int .i64 qcx]) (t := 99) qbb ?_; intro qb8 hg w7 hbox hb; have qaF := ak_ (hbox); have qeJ := ak_ (HB.ge hg); have qen := ak_ (HB.ge hg); replace HB := HB.mw hb; clear hb hbox hg; obtain ⟨qm6, qm7, qna, qnb⟩ := qbG qaF.out) | (refine gl_ 5 Tryz.func212 #[.string qbL] rfl qbK ?_; (with_reducible refine (qbw.calls k qbL false _ A2.out).mono ?_); rintro e w' ⟨rfl, ⟨nd, rfl⟩⟩; refine ⟨_, rfl, ?_⟩))
 go_ret
 exact ⟨qce, qdt⟩
def qaB.j0 : Nat → List ByteArray → Bool → Option (ByteArray × Int × Bool)
 | 0, _, _ => none
 | k + 1, x4, x15 => if x15 = true then (some ((⟨#[]⟩ : ByteArray), 0, false)) else (if 0 < (x4.length : Int) then (if 1 < (x4.length : Int) then ((qaV.f k (qeW ByteArray.empty x4 1)).bind fun t107 => ((qdu.f k (qeW ByteArray.empty x4 0) t107).bind fun t109 => (if t109 = true then (some (qeW ByteArray.empty x4 0, t107, true)) else (some ((⟨#[]⟩ : ByteArray), 0, false))))) else (none)) else (none))
def qaB.f (k : Nat) (a0 : ByteArray) : Option (ByteArray × Int × Bool) := (qbi.f k a0 58).bind fun qaI => (if (a0.size : Int) > 50 then (qaB.j0 k qaI true) else (qaB.j0 k qaI ((qaI.length : Int) != 2)))
def qaB.T4 : Bool × List (List Nat × List Nat) := (true, [([], []), ([0], [0]), ([1], [1]), ([], []), ([3], [3]), ([4], [4]), ([5], [5]), ([2, 6], [2, 6]), ([], []), ([8, 7, 6, 0, 1, 2, 3, 4, 5, 6, 7, 8], [7, 8])])
def qaB.B4 : List Nat := [0, 1, 3, 0, 8, 24, 56, 127, 0, 511]
theorem qaB.tab4 : qhK .any (opsOf Tryz.f118 4) = qaB.T4 := by kernel_rfl
theorem qaB.qqb : qeR qaB.T4.2 qaB.B4 = true := by kernel_rfl
theorem qaB.calls (k : Nat) (a0 : ByteArray) (r1 : ByteArray) (r2 : Int) (r3 : Bool) (w : World) (h : qaB.f k a0 = some (r1, r2, r3)) :
  Calls Tryz.prog 118 #[.string a0] w fun e w' => e = .returned (.tuple #[.agg #[.string r1, .int .i64 r2], .bool r3]) ∧ Below w.heap.size w w' := by
 have hu99 := Tryz.underlying99; have HB := ak_ (Below.refl w.heap.size w); have H : ((qbi.f k a0 58).bind fun qaI => (if (a0.size : Int) > 50 then (qaB.j0 k qaI true) else (qaB.j0 k qaI ((qaI.length : Int) != 2)))) = some (r1, r2, r3) := h; clear h; obtain ⟨qaI, A2, H⟩ := qaw H; (try dsimp only at H); have HC3 := ak_ H; clear H; go_enter Tryz.func118, Tryz.ntmps118
 go_upto_region 2 with (first | ((with_reducible refine qak (N := 2) rfl ?_); refine bx_ 2 rfl (cs := #[.string (⟨#[]⟩ : ByteArray), .int .i64 0]) (t := 99) qbb ?_; intro qb8 hg w4 hbox hb; have qaF := ak_ (hbox); have qeJ := ak_ (HB.ge hg); have qen := ak_ (HB.ge hg); replace HB := HB.mw hb; clear hb hbox hg) | (refine gl_ 7 Tryz.func39 #[.string a0, .int .u8 58] rfl qbK ?_; (with_reducible refine (qbi.calls k a0 58 qaI _ A2.out).mono ?_); rintro e w5 ⟨qhg, rfl, ho0, hb⟩; refine ⟨_, rfl, ?_⟩; have qbW := ak_ (Kd.qau ho0 (qab qdt)); replace qaF := ak_ (qao qmu hb); replace HB := ak_ (qaa qdt hb); (try clear hb ho0)))
 (try simp only [Act.put, List.setIfInBounds_toArray, List.set_cons_zero, List.set_cons_succ])
 go_cut [15] (fun v15 wc => ∃ (kq : Nat) (qmp : Bool), v15 = .bool qmp ∧ qag (qaB.j0 kq qaI qmp = some (r1, r2, r3)) ∧ qag (kq ≤ k) ∧ qag (Kd.R Kd.string 9 wc w.heap.size (fun _ => True) qhg qaI) ∧ qag (wc.heap[qb8]? = some (.cells #[.string (⟨#[]⟩ : ByteArray), .int .i64 0] 99 (0, 0))) ∧ qag (Below w.heap.size w wc))
 case first =>
  have H := HC3.out; clear HC3; by_cases c6 : (a0.size : Int) > 50
  ·rw [if_pos c6] at H; have qfY : decide (50 < (a0.size : Int)) = true := decide_eq_true c6; have qmK : decide (50 < a0.size) = true := decide_eq_true (by omega); clear c6; (first | rw [qfY] | rw [qmK] | (simp only [qcF, qcO]; rw [qfY]) | skip); have H' := ak_ H; clear H; go_wp2; go_meet
   case rel => exact ⟨_, (true), qav, H', ⟨qid⟩, ⟨qqL⟩, ⟨qmu⟩, ⟨qdt⟩⟩
  rw [if_neg c6] at H; have qfY : decide (50 < (a0.size : Int)) = false := decide_eq_false c6; have qmK : decide (50 < a0.size) = false := decide_eq_false (by omega); clear c6; (first | rw [qfY] | rw [qmK] | (simp only [qcF, qcO]; rw [qfY]) | skip); have H' := ak_ H; clear H; obtain ⟨Ao7, co7, eo7⟩ := Kd.qaJ qbW.out; subst eo7; go_wp2; go_meet
  case rel => exact ⟨_, (((qaI.length : Int) != 2)), qav, H', ⟨qid⟩, ⟨qqL⟩, ⟨qmu⟩, ⟨qdt⟩⟩
 case rest =>
  clear HC3; obtain ⟨kq, qmp, rfl, HA, HJ2, qdn, qaF, HB⟩ := hcut
  cases kq with
  | zero => exact absurd HA.out (by simp [qaB.j0])
  | succ kj2 =>
   have H := HA.out; clear HA; simp only [qaB.j0] at H; by_cases c8 : qmp = true
   ·subst c8; rw [if_pos rfl] at H; obtain ⟨rfl, rfl, rfl⟩ := qfI H; obtain ⟨qhq, qhr, qhs, qht⟩ := qbG qaF.out; go_wp2; refine bodyPost_ret (qf0 rfl _ _ qb8 99 #[.string (⟨#[]⟩ : ByteArray), .int .i64 0] (0, 0) _ rfl k1_ Tryz.underlying99 rfl (by kernel_rfl)) rfl ?_; exact ⟨qce, qdt⟩
   replace c8 := Bool.eq_false_iff.mpr c8; subst c8; rw [if_neg (show ¬ (false = true) by decide)] at H; by_cases c10 : 0 < (qaI.length : Int); rotate_left
   ·rw [if_neg c10] at H; exact absurd H (by simp)
   rw [if_pos c10] at H; have qgC : decide (0 < (qaI.length : Int)) = true := decide_eq_true c10; have c10b1 : decide (0 < qaI.length) = true := decide_eq_true (by omega); clear c10; by_cases c11 : 1 < (qaI.length : Int); rotate_left
   ·rw [if_neg c11] at H; exact absurd H (by simp)
   rw [if_pos c11] at H; have qgs : decide (1 < (qaI.length : Int)) = true := decide_eq_true c11; have qhl : decide (1 < qaI.length) = true := decide_eq_true (by omega); clear c11; obtain ⟨t107, A12, H⟩ := qaw H; (try dsimp only at H); obtain ⟨t109, A13, H⟩ := qaw H; (try dsimp only at H); by_cases c14 : t109 = true
   ·subst c14; rw [if_pos rfl] at H; obtain ⟨rfl, rfl, rfl⟩ := qfI H
    try go_wp2
    replace qdn := ak_ (Kd.qaC qdn.out); replace qaF := ak_ (qan qaF.out); replace HB := ak_ (qah HB.out); obtain ⟨Ao16, co16, eo16⟩ := Kd.qaJ qdn.out; (first | subst eo16 | (injection eo16 with f1_ f2_ f3_; have f4_ := f1_.symm; have f5_ := f3_.symm; clear f1_ f2_ f3_; subst f4_; subst f5_))
    have qhw : 0 ≤ (0 : Int) := (by omega)
    have qhx : 0 < (qaI.length : Int) := of_decide_eq_true qaU; obtain ⟨qec, qmV, qcR⟩ := Kd.qeu (Kd.R_reads' qdn.out).2.2 0 qhw qhx
    cases qmV
    have qsw : (0 < qaI.length) = True := eq_true (by omega); (try rw [show ((0 : Int)).toNat = 0 from rfl] at qcR); (try rw [Addr.add_zero'] at qcR); replace qhw := eq_true qhw; replace qhx := eq_true qhx
    have qfH : 0 ≤ (1 : Int) := (by omega)
    have qfJ : 1 < (qaI.length : Int) := of_decide_eq_true qaU; obtain ⟨qgL, qjx, qcq⟩ := Kd.qeu (Kd.R_reads' qdn.out).2.2 1 qfH qfJ
    obtain rfl : qec = qgL := (by injection qjx)
    (try simp only [show (1 : Int).toNat = 1 from rfl, Nat.reduceMul, Nat.reduceEqDiff, Go.Addr.add, ↓reduceIte] at qcq); have qsx : (1 < qaI.length) = True := eq_true (by omega); (try rw [show ((1 : Int)).toNat = 1 from rfl] at qcq); replace qfH := eq_true qfH; replace qfJ := eq_true qfJ; refine qeQ (n := 10) (S := fun w' => w'.cell? qec = some (.string (qeW ByteArray.empty qaI 0)) ∧ w'.cell? ⟨qec.block, qec.off + 1, none⟩ = some (.string (qeW ByteArray.empty qaI 1))) (ds := []) (rA_ [0, 10]) (by kernel_rfl) rfl rfl ⟨qcR, qcq⟩ (fun hHeld => ?_); refine qdp qaB.tab4 qaB.qqb (fun HT_ HW_ => ?_)
    generalize wc.drew = w15 at qdn qaF HB qcR qcq hHeld ⊢
    refine pu_ 0 17 [1, 9] ?_; refine pu_ 1 18 [2, 8] ?_; refine pu_ 3 20 [2, 1, 1, 6] ?_; refine pu_ 4 21 [2, 1, 2, 5] ?_; refine qip 2 19 [5, 5] ?_; refine qip 5 22 [6, 4] ?_; refine qsh (σ := Nat) 1 (rA_ [9, 1]) (fun s_ => [(23, .int .i64 t107), (5, .pointer (some ⟨s_, 0, none⟩)), (24, .agg #[.string (qeW ByteArray.empty qaI 0), .int .i64 t107])]) (fun s_ w' => (w'.cell? qec = some (.string (qeW ByteArray.empty qaI 0)) ∧ w'.cell? ⟨qec.block, qec.off + 1, none⟩ = some (.string (qeW ByteArray.empty qaI 1))) ∧ (Kd.R Kd.string 9 w' w.heap.size (fun _ => True) (.slice (some qec) qaI.length co16) qaI) ∧ (w'.heap[qb8]? = some (.cells #[.string (⟨#[]⟩ : ByteArray), .int .i64 0] 99 (0, 0))) ∧ (w'.heap[s_]? = some (.cells #[.string (⟨#[]⟩ : ByteArray), .int .i64 0] 99 (0, 0))) ∧ (w.heap.size ≤ s_) ∧ (w.heap.size ≤ s_) ∧ (qb8 ≠ s_) ∧ (s_ ≠ qb8) ∧ (Below w.heap.size w w')) ?_ ?_; rotate_left
    ·intro hCont; refine two_ (i := 6) (j := 8) (Ni := some 23) (Nj := some 5) (rA_ [7, 3]) (rA_ [6, 2, 1, 1]) rfl rfl rfl rfl (qp2 HT_.out (by kernel_rfl)) (by decide) (by decide) (fun K hK => ?_) (fun K hK => ?_)
     ·skip
      refine qfz Tryz.func95 (by kernel_rfl) rfl #[.string (qeW ByteArray.empty qaI 1)] (by rfl) rfl rfl qbK ?_
      with_reducible refine (qaV.calls kj2 (qeW ByteArray.empty qaI 1) t107 _ A12.out).mono ?_
      rintro e w' ⟨rfl, ⟨nd, rfl⟩⟩; refine ⟨_, rfl, ?_⟩; refine hK.out _ _ ⟨hHeld.1, hHeld.2⟩ (fun hHeld => ?_); clear hK K; refine nm_ 23 ?_; refine pu_ 7 24 [8, 2] ?_; refine qfA (i := 8) (N := some 5) (rA_ [9, 1]) rfl rfl (qc5 HT_.out (by kernel_rfl)) (by decide) (fun K hK => ?_); refine qjC ?hg (N := 5) ?hd (cs := #[.string (⟨#[]⟩ : ByteArray), .int .i64 0]) (t := 99) ?hr ?_; (case hd => rfl); (case hg => rfl); (case hr => exact qbb); intro qeo hg w17 hbox hb; have HS0_ := (hb.cell (World.block_lt_of_cell? _ _ (hHeld.1))).trans (hHeld.1); have HS1_ := (hb.cell (World.block_lt_of_cell? _ _ (hHeld.2))).trans (hHeld.2); replace qdn := qdn.mw hb; have qfC := ak_ (hbox); have qlK := ak_ ((by rw [hg]; exact (qab qdt) : w.heap.size ≤ qeo)); have qkN := ak_ ((by rw [hg]; exact (qab qdt) : w.heap.size ≤ qeo)); replace HB := ak_ (qaa qdt hb); have qdy := ak_ (qaF.ne hg); have qdS := ak_ (qaF.ne hg).symm; replace qaF := ak_ (qao qmu hb); clear hb hbox hg; refine hK.out _ _ ⟨HS0_, HS1_⟩ (fun hHeld => ?_); clear hK K; refine nm_ 5 ?_; exact qeq qqr (hCont (qeo) _ ⟨hHeld, qjI, qmu, (by apply_rules only [qfC.out, qal, qan, qaj]), qlK.out, qkN.out, qdy.out, qdS.out, k67_⟩)
     skip
     refine qjC ?hg (N := 5) ?hd (cs := #[.string (⟨#[]⟩ : ByteArray), .int .i64 0]) (t := 99) ?hr ?_; (case hd => rfl); (case hg => rfl); (case hr => exact qbb); intro qeo hg w17 hbox hb; have HS0_ := (hb.cell (World.block_lt_of_cell? _ _ (hHeld.1))).trans (hHeld.1); have HS1_ := (hb.cell (World.block_lt_of_cell? _ _ (hHeld.2))).trans (hHeld.2); replace qdn := qdn.mw hb; have qfC := ak_ (hbox); have qlK := ak_ ((by rw [hg]; exact (qab qdt) : w.heap.size ≤ qeo)); have qkN := ak_ ((by rw [hg]; exact (qab qdt) : w.heap.size ≤ qeo)); replace HB := ak_ (qaa qdt hb); have qdy := ak_ (qaF.ne hg); have qdS := ak_ (qaF.ne hg).symm; replace qaF := ak_ (qao qmu hb); clear hb hbox hg; refine hK.out _ _ ⟨HS0_, HS1_⟩ (fun hHeld => ?_); clear hK K; refine nm_ 5 ?_; refine qfA (i := 6) (N := some 23) (rA_ [7, 1, 1, 1]) rfl rfl (qc5 HT_.out (by kernel_rfl)) (by decide) (fun K hK => ?_); refine qfz Tryz.func95 (by kernel_rfl) rfl #[.string (qeW ByteArray.empty qaI 1)] (by rfl) rfl rfl qbK ?_
     with_reducible refine (qaV.calls kj2 (qeW ByteArray.empty qaI 1) t107 _ A12.out).mono ?_
     rintro e w' ⟨rfl, ⟨nd, rfl⟩⟩; refine ⟨_, rfl, ?_⟩; refine hK.out _ _ ⟨hHeld.1, hHeld.2⟩ (fun hHeld => ?_); clear hK K; refine nm_ 23 ?_; refine pu_ 7 24 [9, 1] ?_; exact qeq qqr (hCont (qeo) _ ⟨hHeld, qjI, qmu, (by apply_rules only [qfC.out, qal, qan, qaj]), qlK.out, qkN.out, qdy.out, qdS.out, k67_⟩)
    rintro qeo w18 ⟨hS_, h0_, h1_, h2_, h3_, h4_, h5_, h6_, h7_⟩
    have n0_ : qag (Kd.R Kd.string 9 w18 w.heap.size (fun _ => True) (.slice (some qec) qaI.length co16) qaI) := ⟨h0_⟩
    have n1_ : qag (w18.heap[qb8]? = some (.cells #[.string (⟨#[]⟩ : ByteArray), .int .i64 0] 99 (0, 0))) := ⟨h1_⟩
    have n2_ : qag (w18.heap[qeo]? = some (.cells #[.string (⟨#[]⟩ : ByteArray), .int .i64 0] 99 (0, 0))) := ⟨h2_⟩
    have n3_ : qag (w.heap.size ≤ qeo) := ⟨h3_⟩
    have n4_ : qag (w.heap.size ≤ qeo) := ⟨h4_⟩
    have n5_ : qag (qb8 ≠ qeo) := ⟨h5_⟩
    have n6_ : qag (qeo ≠ qb8) := ⟨h6_⟩
    have n7_ : qag (Below w.heap.size w w18) := ⟨h7_⟩
    clear qdn; clear qaF; clear HB; clear h0_ h1_ h2_ h3_ h4_ h5_ h6_ h7_; have qdn := n0_; have qaF := n1_; have qfC := n2_; have qlK := n3_; have qkN := n4_; have qdy := n5_; have qdS := n6_; have HB := n7_; clear n0_ n1_ n2_ n3_ n4_ n5_ n6_ n7_; have hHeld : w18.cell? qec = some (.string (qeW ByteArray.empty qaI 0)) ∧ w18.cell? ⟨qec.block, qec.off + 1, none⟩ = some (.string (qeW ByteArray.empty qaI 1)) := hS_; refine qeq (a' := ?_) ?_ ?_; rotate_left
    ·simp only [qiG, Act.put, List.setIfInBounds_toArray, List.set_cons_zero, List.set_cons_succ]; rfl
    refine qfA (i := 9) (N := none) (rA_ [10]) rfl rfl (qc5 HT_.out (by kernel_rfl)) (by decide) (fun K hK => ?_); obtain ⟨hs19, hfs19⟩ := qcv qfC.out; have hns19_0 := qdy.out; have hms19_0 := qdS.out; have hs20 := qbB qfC.out; have hfs20 := qad qfC.out 1; have hns20_0 := qdy.out; have hms20_0 := qdS.out; refine skip_ (w1 := ?_) (by rfl) rfl ?_ ?_; rotate_left
    ·go_simp; rfl
    refine hK.out _ _ ⟨((cell_far (p := ⟨qeo, _, none⟩) k17_ _).trans (((cell_far (p := ⟨qeo, _, none⟩) k17_ _).trans (hHeld.1)))), ((cell_far (p := ⟨qeo, _, none⟩) k17_ _).trans (((cell_far (p := ⟨qeo, _, none⟩) k17_ _).trans (hHeld.2))))⟩ (fun hHeld => ?_); clear hK K; refine qf4 (qeC HT_.out (by kernel_rfl)) ?_; have hnb21 := qdS.out; have hnc21 := qdy.out; obtain ⟨hcz22_0, hcz22_1, hfz22_0, hfz22_1⟩ := qbG qfC.out
    try go_wp2_with (first | (refine gl_ 26 Tryz.func174 #[.agg #[.string (qeW ByteArray.empty qaI 0), .int .i64 t107]] rfl qbK ?_; (with_reducible refine (qdu.calls kj2 (qeW ByteArray.empty qaI 0) t107 true _ A13.out).mono ?_); rintro e w23 ⟨rfl, hb⟩; refine ⟨_, rfl, ?_⟩; replace qdn := ak_ (Kd.qbx k9_ hb); replace qaF := ak_ (qao (g := qb8) (o := .cells #[.string (⟨#[]⟩ : ByteArray), .int .i64 0] 99 (0, 0)) k10_ hb); replace qfC := ak_ (qao (g := qeo) (o := .cells #[.string (qeW ByteArray.empty qaI 0), .int .i64 t107] 99 (0, 0)) k0_ hb); replace HB := ak_ (qaa k67_ hb); (try clear hb); obtain ⟨hcz24_0, hcz24_1, hfz24_0, hfz24_1⟩ := qbG qfC.out; obtain ⟨hcz25_0, hcz25_1, hfz25_0, hfz25_1⟩ := qbG qaF.out))
    refine bodyPost_ret (qf0 rfl _ _ qb8 99 #[.string (qeW ByteArray.empty qaI 0), .int .i64 t107] (0, 0) _ rfl (by (with_reducible repeat (first | refine qal ?_ _ | refine qan ?_ | refine qaj ?_ _)); refine qbp (cs := #[.string (qeW ByteArray.empty qaI 0), .int .i64 0]) ?_ 1 _ rfl; (with_reducible repeat (first | refine qal ?_ _ | refine qan ?_ | refine qaj ?_ _)); refine qbp (cs := #[.string (⟨#[]⟩ : ByteArray), .int .i64 0]) ?_ 0 _ rfl; apply_rules only [qaF.out, qal, qan, qaj]) Tryz.underlying99 rfl (by kernel_rfl)) rfl ?_; exact ⟨qce, k67_⟩
   replace c14 := Bool.eq_false_iff.mpr c14; subst c14; rw [if_neg (show ¬ (false = true) by decide)] at H; obtain ⟨rfl, rfl, rfl⟩ := qfI H
   try go_wp2
   replace qdn := ak_ (Kd.qaC qdn.out); replace qaF := ak_ (qan qaF.out); replace HB := ak_ (qah HB.out); obtain ⟨Ao27, co27, eo27⟩ := Kd.qaJ qdn.out; (first | subst eo27 | (injection eo27 with f1_ f2_ f3_; have f4_ := f1_.symm; have f5_ := f3_.symm; clear f1_ f2_ f3_; subst f4_; subst f5_))
   have qhw : 0 ≤ (0 : Int) := (by omega)
   have qhx : 0 < (qaI.length : Int) := of_decide_eq_true qaU; obtain ⟨qec, qmV, qcR⟩ := Kd.qeu (Kd.R_reads' qdn.out).2.2 0 qhw qhx
   cases qmV
   have qsw : (0 < qaI.length) = True := eq_true (by omega); (try rw [show ((0 : Int)).toNat = 0 from rfl] at qcR); (try rw [Addr.add_zero'] at qcR); replace qhw := eq_true qhw; replace qhx := eq_true qhx
   have qfH : 0 ≤ (1 : Int) := (by omega)
   have qfJ : 1 < (qaI.length : Int) := of_decide_eq_true qaU; obtain ⟨qgL, qjx, qcq⟩ := Kd.qeu (Kd.R_reads' qdn.out).2.2 1 qfH qfJ
   obtain rfl : qec = qgL := (by injection qjx)
   (try simp only [show (1 : Int).toNat = 1 from rfl, Nat.reduceMul, Nat.reduceEqDiff, Go.Addr.add, ↓reduceIte] at qcq); have qsx : (1 < qaI.length) = True := eq_true (by omega); (try rw [show ((1 : Int)).toNat = 1 from rfl] at qcq); replace qfH := eq_true qfH; replace qfJ := eq_true qfJ; refine qeQ (n := 10) (S := fun w' => w'.cell? qec = some (.string (qeW ByteArray.empty qaI 0)) ∧ w'.cell? ⟨qec.block, qec.off + 1, none⟩ = some (.string (qeW ByteArray.empty qaI 1))) (ds := []) (rA_ [0, 10]) (by kernel_rfl) rfl rfl ⟨qcR, qcq⟩ (fun hHeld => ?_); refine qdp qaB.tab4 qaB.qqb (fun HT_ HW_ => ?_)
   generalize wc.drew = w26 at qdn qaF HB qcR qcq hHeld ⊢
   refine pu_ 0 17 [1, 9] ?_; refine pu_ 1 18 [2, 8] ?_; refine pu_ 3 20 [2, 1, 1, 6] ?_; refine pu_ 4 21 [2, 1, 2, 5] ?_; refine qip 2 19 [5, 5] ?_; refine qip 5 22 [6, 4] ?_; refine qsh (σ := Nat) 1 (rA_ [9, 1]) (fun s_ => [(23, .int .i64 t107), (5, .pointer (some ⟨s_, 0, none⟩)), (24, .agg #[.string (qeW ByteArray.empty qaI 0), .int .i64 t107])]) (fun s_ w' => (w'.cell? qec = some (.string (qeW ByteArray.empty qaI 0)) ∧ w'.cell? ⟨qec.block, qec.off + 1, none⟩ = some (.string (qeW ByteArray.empty qaI 1))) ∧ (Kd.R Kd.string 9 w' w.heap.size (fun _ => True) (.slice (some qec) qaI.length co27) qaI) ∧ (w'.heap[qb8]? = some (.cells #[.string (⟨#[]⟩ : ByteArray), .int .i64 0] 99 (0, 0))) ∧ (w'.heap[s_]? = some (.cells #[.string (⟨#[]⟩ : ByteArray), .int .i64 0] 99 (0, 0))) ∧ (w.heap.size ≤ s_) ∧ (w.heap.size ≤ s_) ∧ (qb8 ≠ s_) ∧ (s_ ≠ qb8) ∧ (Below w.heap.size w w')) ?_ ?_; rotate_left
   ·intro hCont; refine two_ (i := 6) (j := 8) (Ni := some 23) (Nj := some 5) (rA_ [7, 3]) (rA_ [6, 2, 1, 1]) rfl rfl rfl rfl (qp2 HT_.out (by kernel_rfl)) (by decide) (by decide) (fun K hK => ?_) (fun K hK => ?_)
    ·skip
     refine qfz Tryz.func95 (by kernel_rfl) rfl #[.string (qeW ByteArray.empty qaI 1)] (by rfl) rfl rfl qbK ?_
     with_reducible refine (qaV.calls kj2 (qeW ByteArray.empty qaI 1) t107 _ A12.out).mono ?_
     rintro e w' ⟨rfl, ⟨nd, rfl⟩⟩; refine ⟨_, rfl, ?_⟩; refine hK.out _ _ ⟨hHeld.1, hHeld.2⟩ (fun hHeld => ?_); clear hK K; refine nm_ 23 ?_; refine pu_ 7 24 [8, 2] ?_; refine qfA (i := 8) (N := some 5) (rA_ [9, 1]) rfl rfl (qc5 HT_.out (by kernel_rfl)) (by decide) (fun K hK => ?_); refine qjC ?hg (N := 5) ?hd (cs := #[.string (⟨#[]⟩ : ByteArray), .int .i64 0]) (t := 99) ?hr ?_; (case hd => rfl); (case hg => rfl); (case hr => exact qbb); intro qeo hg w28 hbox hb; have HS0_ := (hb.cell (World.block_lt_of_cell? _ _ (hHeld.1))).trans (hHeld.1); have HS1_ := (hb.cell (World.block_lt_of_cell? _ _ (hHeld.2))).trans (hHeld.2); replace qdn := qdn.mw hb; have qfC := ak_ (hbox); have qlK := ak_ ((by rw [hg]; exact (qab qdt) : w.heap.size ≤ qeo)); have qkN := ak_ ((by rw [hg]; exact (qab qdt) : w.heap.size ≤ qeo)); replace HB := ak_ (qaa qdt hb); have qdy := ak_ (qaF.ne hg); have qdS := ak_ (qaF.ne hg).symm; replace qaF := ak_ (qao qmu hb); clear hb hbox hg; refine hK.out _ _ ⟨HS0_, HS1_⟩ (fun hHeld => ?_); clear hK K; refine nm_ 5 ?_; exact qeq qqr (hCont (qeo) _ ⟨hHeld, qjI, qmu, (by apply_rules only [qfC.out, qal, qan, qaj]), qlK.out, qkN.out, qdy.out, qdS.out, k67_⟩)
    skip
    refine qjC ?hg (N := 5) ?hd (cs := #[.string (⟨#[]⟩ : ByteArray), .int .i64 0]) (t := 99) ?hr ?_; (case hd => rfl); (case hg => rfl); (case hr => exact qbb); intro qeo hg w28 hbox hb; have HS0_ := (hb.cell (World.block_lt_of_cell? _ _ (hHeld.1))).trans (hHeld.1); have HS1_ := (hb.cell (World.block_lt_of_cell? _ _ (hHeld.2))).trans (hHeld.2); replace qdn := qdn.mw hb; have qfC := ak_ (hbox); have qlK := ak_ ((by rw [hg]; exact (qab qdt) : w.heap.size ≤ qeo)); have qkN := ak_ ((by rw [hg]; exact (qab qdt) : w.heap.size ≤ qeo)); replace HB := ak_ (qaa qdt hb); have qdy := ak_ (qaF.ne hg); have qdS := ak_ (qaF.ne hg).symm; replace qaF := ak_ (qao qmu hb); clear hb hbox hg; refine hK.out _ _ ⟨HS0_, HS1_⟩ (fun hHeld => ?_); clear hK K; refine nm_ 5 ?_; refine qfA (i := 6) (N := some 23) (rA_ [7, 1, 1, 1]) rfl rfl (qc5 HT_.out (by kernel_rfl)) (by decide) (fun K hK => ?_); refine qfz Tryz.func95 (by kernel_rfl) rfl #[.string (qeW ByteArray.empty qaI 1)] (by rfl) rfl rfl qbK ?_
    with_reducible refine (qaV.calls kj2 (qeW ByteArray.empty qaI 1) t107 _ A12.out).mono ?_
    rintro e w' ⟨rfl, ⟨nd, rfl⟩⟩; refine ⟨_, rfl, ?_⟩; refine hK.out _ _ ⟨hHeld.1, hHeld.2⟩ (fun hHeld => ?_); clear hK K; refine nm_ 23 ?_; refine pu_ 7 24 [9, 1] ?_; exact qeq qqr (hCont (qeo) _ ⟨hHeld, qjI, qmu, (by apply_rules only [qfC.out, qal, qan, qaj]), qlK.out, qkN.out, qdy.out, qdS.out, k67_⟩)
   rintro qeo w29 ⟨hS_, h0_, h1_, h2_, h3_, h4_, h5_, h6_, h7_⟩
   have n0_ : qag (Kd.R Kd.string 9 w29 w.heap.size (fun _ => True) (.slice (some qec) qaI.length co27) qaI) := ⟨h0_⟩
   have n1_ : qag (w29.heap[qb8]? = some (.cells #[.string (⟨#[]⟩ : ByteArray), .int .i64 0] 99 (0, 0))) := ⟨h1_⟩
   have n2_ : qag (w29.heap[qeo]? = some (.cells #[.string (⟨#[]⟩ : ByteArray), .int .i64 0] 99 (0, 0))) := ⟨h2_⟩
   have n3_ : qag (w.heap.size ≤ qeo) := ⟨h3_⟩
   have n4_ : qag (w.heap.size ≤ qeo) := ⟨h4_⟩
   have n5_ : qag (qb8 ≠ qeo) := ⟨h5_⟩
   have n6_ : qag (qeo ≠ qb8) := ⟨h6_⟩
   have n7_ : qag (Below w.heap.size w w29) := ⟨h7_⟩
   clear qdn; clear qaF; clear HB; clear h0_ h1_ h2_ h3_ h4_ h5_ h6_ h7_; have qdn := n0_; have qaF := n1_; have qfC := n2_; have qlK := n3_; have qkN := n4_; have qdy := n5_; have qdS := n6_; have HB := n7_; clear n0_ n1_ n2_ n3_ n4_ n5_ n6_ n7_; have hHeld : w29.cell? qec = some (.string (qeW ByteArray.empty qaI 0)) ∧ w29.cell? ⟨qec.block, qec.off + 1, none⟩ = some (.string (qeW ByteArray.empty qaI 1)) := hS_; refine qeq (a' := ?_) ?_ ?_; rotate_left
   ·simp only [qiG, Act.put, List.setIfInBounds_toArray, List.set_cons_zero, List.set_cons_succ]; rfl
   refine qfA (i := 9) (N := none) (rA_ [10]) rfl rfl (qc5 HT_.out (by kernel_rfl)) (by decide) (fun K hK => ?_); obtain ⟨hs30, hfs30⟩ := qcv qfC.out; have hns30_0 := qdy.out; have hms30_0 := qdS.out; have hs31 := qbB qfC.out; have hfs31 := qad qfC.out 1; have hns31_0 := qdy.out; have hms31_0 := qdS.out; refine skip_ (w1 := ?_) (by rfl) rfl ?_ ?_; rotate_left
   ·go_simp; rfl
   refine hK.out _ _ ⟨((cell_far (p := ⟨qeo, _, none⟩) k17_ _).trans (((cell_far (p := ⟨qeo, _, none⟩) k17_ _).trans (hHeld.1)))), ((cell_far (p := ⟨qeo, _, none⟩) k17_ _).trans (((cell_far (p := ⟨qeo, _, none⟩) k17_ _).trans (hHeld.2))))⟩ (fun hHeld => ?_); clear hK K; refine qf4 (qeC HT_.out (by kernel_rfl)) ?_; have hnb32 := qdS.out; have hnc32 := qdy.out; obtain ⟨hcz33_0, hcz33_1, hfz33_0, hfz33_1⟩ := qbG qfC.out
   try go_wp2_with (first | (refine gl_ 26 Tryz.func174 #[.agg #[.string (qeW ByteArray.empty qaI 0), .int .i64 t107]] rfl qbK ?_; (with_reducible refine (qdu.calls kj2 (qeW ByteArray.empty qaI 0) t107 false _ A13.out).mono ?_); rintro e w34 ⟨rfl, hb⟩; refine ⟨_, rfl, ?_⟩; replace qdn := ak_ (Kd.qbx k9_ hb); replace qaF := ak_ (qao (g := qb8) (o := .cells #[.string (⟨#[]⟩ : ByteArray), .int .i64 0] 99 (0, 0)) k10_ hb); replace qfC := ak_ (qao (g := qeo) (o := .cells #[.string (qeW ByteArray.empty qaI 0), .int .i64 t107] 99 (0, 0)) k0_ hb); replace HB := ak_ (qaa k67_ hb); (try clear hb); obtain ⟨hcz35_0, hcz35_1, hfz35_0, hfz35_1⟩ := qbG qaF.out))
   refine bodyPost_ret (qf0 rfl _ _ qb8 99 #[.string (⟨#[]⟩ : ByteArray), .int .i64 0] (0, 0) _ rfl k1_ Tryz.underlying99 rfl (by kernel_rfl)) rfl ?_; exact ⟨qce, k67_⟩
def qcI.l0 : Nat → ByteArray → Int → Int → Nat → Option Bool
  | 0, _, _, _, _ => none
  | k + 1, s, e, t, pos => if pos < s.size then (if bt s pos < 128 then (if bt s pos = 111 then ((qcw.f (wrap64 ((pos : Int) + 1)) e).bind fun q => (if q = t then some false else qcI.l0 k s e t (pos + 1))) else qcI.l0 k s e t (pos + 1)) else none) else some true
def qcI.f (k : Nat) (a0 : ByteArray) (qq4 : Int) (qp9 : Int) : Option (Bool) := qcI.l0 k a0 qq4 qp9 0
theorem qpn (s : ByteArray) (pos : Nat) (h : pos < s.size) : ((s[pos]'h).toNat : Int) = bt s pos := by
  exact qel s (pos : Int) h
theorem qcI.calls (k : Nat) (a0 : ByteArray) (qq4 : Int) (qp9 : Int) (r : Bool) (w : World) (h : qcI.f k a0 qq4 qp9 = some r) :
    Calls Tryz.prog 247 #[.string a0, .agg #[.int .i64 qq4, .int .i64 qp9]] w fun e w' => e = .returned (.bool r) ∧ Below w.heap.size w w' := by
  have hu := Tryz.underlying85; have H : qcI.l0 k a0 qq4 qp9 0 = some r := h; clear h; have H' := ak_ H; clear H; go_enter Tryz.func247, Tryz.ntmps247; go_wp2
  go_loopg [] k (fun kq wx => ∃ pos : Nat, wx.heap[w.heap.size + 1]? = some (.stringIter a0 pos) ∧ qag (Below w.heap.size w wx) ∧ wx.cell? ⟨w.heap.size, 0, none⟩ = some (.int .i64 qq4) ∧ wx.cell? ⟨w.heap.size, 1, none⟩ = some (.int .i64 qp9) ∧ qag (qcI.l0 kq a0 qq4 qp9 pos = some r) ∧ qag (kq ≤ k))
  case atStart =>
    have hb_ : Below (w.heap.size + 1) (w.alloc (Obj.cells #[Value.int IntKind.i64 qq4, Value.int IntKind.i64 qp9] 85)) ((w.alloc (Obj.cells #[Value.int IntKind.i64 qq4, Value.int IntKind.i64 qp9] 85)).iter a0 0) := (Below.refl _ _).alloc (by simp) _; exact ⟨0, by have h_ := World.iter_heap (w.alloc (Obj.cells #[Value.int IntKind.i64 qq4, Value.int IntKind.i64 qp9] 85)) a0 0; simpa using h_, ⟨((Below.refl _ w).alloc (Nat.le_refl _) _).alloc (by simp) _⟩, (hb_.cell (p := ⟨w.heap.size, 0, none⟩) (by simp)).trans (by simp), (hb_.cell (p := ⟨w.heap.size, 1, none⟩) (by simp)).trans (by simp), H', ⟨Nat.le_refl _⟩⟩
  case round =>
    clear H'; obtain ⟨pos, hit, HB, hc0, hc1, HA, HK⟩ := hrel
    cases gk with
    | zero => exact absurd HA.out (by simp [qcI.l0])
    | succ k1 =>
      have H := HA.out; clear HA; simp only [qcI.l0] at H; by_cases hps : pos < a0.size; rotate_left
      ·rw [if_neg hps] at H
       have hnx : ∀ ty, (Instr.next (.pointer (some ⟨w.heap.size + 1, 0, none⟩)) true ty).run Tryz.prog wr = _ := fun ty => Lib.run_next_end_at wr (w.heap.size + 1) a0 pos ty hit hps
       obtain rfl := Option.some.inj H; go_wp2
       go_ret
       exact ⟨rfl, HB.out⟩
      rw [if_pos hps] at H; by_cases ha : bt a0 pos < 128; rotate_left
      ·rw [if_neg ha] at H; exact absurd H (by simp)
      rw [if_pos ha] at H
      have hnx : ∀ ty, (Instr.next (.pointer (some ⟨w.heap.size + 1, 0, none⟩)) true ty).run Tryz.prog wr = _ := fun ty => Lib.run_next_ascii_at wr (w.heap.size + 1) a0 pos ty hit hps (by have := qpn a0 pos hps; omega)
      have hit2 := Lib.iterAt_heap wr (w.heap.size + 1) a0 pos (pos + 1) hit; have hbw2 := Lib.below_iterAt HB.out (k := w.heap.size + 1) (by omega) a0 (pos + 1); have hb3 := Lib.below_iterAt (Below.refl (w.heap.size + 1) wr) (k := w.heap.size + 1) (by omega) a0 (pos + 1); have hd0 := (hb3.cell (p := ⟨w.heap.size, 0, none⟩) (by simp)).trans hc0; have hd1 := (hb3.cell (p := ⟨w.heap.size, 1, none⟩) (by simp)).trans hc1
      obtain ⟨W, hWd⟩ : ∃ W, wr.iterAt (w.heap.size + 1) a0 (pos + 1) = W := ⟨_, rfl⟩
      rw [hWd] at hnx hit2 hbw2 hd0 hd1; clear hb3 hc0 hc1 hit hWd HB ha; have HB := ak_ hbw2; have HI := ak_ hit2; clear hbw2 hit2; have hx6 := qpn a0 pos; have p6 := eq_true (show 0 ≤ ((pos : Nat) : Int) by omega); have q6 := eq_true (show ((pos : Nat) : Int) < (a0.size : Int) by omega)
      try clear c4
      by_cases c11 : (bt a0 pos) = 111; rotate_left
      ·rw [if_neg c11] at H; have qgs : ((bt a0 pos) == 111) = false := beq_eq_false_iff_ne.mpr c11; have qhl : ((bt a0 pos) != 111) = true := bne_iff_ne.mpr c11; have H' := ak_ H; clear H; go_wp2
       go_quiet (fail)
       go_wp2
       go_roundg k1
       case measure => have := HK.out; omega
       case rel => exact ⟨pos + 1, by simpa using HI.out, ⟨qaf HB.out _⟩, by simpa using hd0, by simpa using hd1, H', ⟨by have := HK.out; omega⟩⟩
      rw [if_pos c11] at H; have qgs : ((bt a0 pos) == 111) = true := beq_iff_eq.mpr c11; have qhl : ((bt a0 pos) != 111) = false := bne_eq_false_iff_eq.mpr c11; clear c11; replace H := Option.bind_eq_some_iff.mp H; obtain ⟨q, A20, H⟩ := H; have HM := ak_ (fun W => qcw.calls (wrap64 ((pos : Int) + 1)) qq4 q W A20); clear A20; by_cases c12 : q = qp9
      ·rw [if_pos c12] at H; have qhm : (q == qp9) = true := beq_iff_eq.mpr c12; obtain rfl := Option.some.inj H; clear H c12; go_wp2
       go_quiet ((go_at_call 154; exact Calls.quiet_of ((HM.out _).mono (fun e w' h => ⟨h.1, h.2.out⟩))))
       go_wp2
       go_ret
       exact ⟨rfl, qaf HB.out _⟩
      rw [if_neg c12] at H; have qhm : (q == qp9) = false := beq_eq_false_iff_ne.mpr c12; have H' := ak_ H; clear H c12; go_wp2
      go_quiet ((go_at_call 154; exact Calls.quiet_of ((HM.out _).mono (fun e w' h => ⟨h.1, h.2.out⟩))))
      go_wp2
      go_roundg k1
      case measure => have := HK.out; omega
      case rel => exact ⟨pos + 1, by simpa using HI.out, ⟨qaf HB.out _⟩, by simpa using hd0, by simpa using hd1, H', ⟨by have := HK.out; omega⟩⟩
def qcd.l0 : Nat → ByteArray → List qac → Nat → Option Bool
  | 0, _, _, _ => none
  | k + 1, s, l, pos => if pos < s.size then (if bt s pos < 128 then (if bt s pos = 120 then ((qch.f k l (wrap64 ((pos : Int) + 1))).bind fun q => (if q = true then some false else qcd.l0 k s l (pos + 1))) else qcd.l0 k s l (pos + 1)) else none) else some true
def qcd.f (k : Nat) (a0 : ByteArray) (l1 : List (qac)) : Option (Bool) := qcd.l0 k a0 l1 0
theorem qcd.calls (k : Nat) (a0 : ByteArray) (A1 : Option Addr) (c1 : Nat) (l1 : List (qac)) (r : Bool) (w : World) (hr1 : Kd.C qaN w A1 l1.length l1) (hc1 : l1.length ≤ c1) (h : qcd.f k a0 l1 = some r) :
    Calls Tryz.prog 246 #[.string a0, .slice A1 l1.length c1] w fun e w' => e = .returned (.bool r) ∧ Below w.heap.size w w' := by
  have HR := ak_ hr1; have HC := ak_ hc1; clear hr1 hc1; have H : qcd.l0 k a0 l1 0 = some r := h; clear h; have H' := ak_ H; clear H; go_enter Tryz.func246, Tryz.ntmps246; go_wp2
  go_loopg [] k (fun kq wx => ∃ pos : Nat, wx.heap[w.heap.size]? = some (.stringIter a0 pos) ∧ qag (Below w.heap.size w wx) ∧ qag (qcd.l0 kq a0 l1 pos = some r) ∧ qag (kq ≤ k))
  case atStart => exact ⟨0, World.iter_heap w a0 0, ⟨(Below.refl _ w).alloc (Nat.le_refl _) _⟩, H', ⟨Nat.le_refl _⟩⟩
  case round =>
    clear H'; obtain ⟨pos, hit, HB, HA, HK⟩ := hrel
    cases gk with
    | zero => exact absurd HA.out (by simp [qcd.l0])
    | succ k1 =>
      have H := HA.out; clear HA; simp only [qcd.l0] at H; by_cases hps : pos < a0.size; rotate_left
      ·rw [if_neg hps] at H
       have hnx : ∀ ty, (Instr.next (.pointer (some ⟨w.heap.size, 0, none⟩)) true ty).run Tryz.prog wr = _ := fun ty => Lib.run_next_end_at wr w.heap.size a0 pos ty hit hps
       obtain rfl := Option.some.inj H; go_wp2
       go_ret
       exact ⟨rfl, HB.out⟩
      rw [if_pos hps] at H; by_cases ha : bt a0 pos < 128; rotate_left
      ·rw [if_neg ha] at H; exact absurd H (by simp)
      rw [if_pos ha] at H
      have hnx : ∀ ty, (Instr.next (.pointer (some ⟨w.heap.size, 0, none⟩)) true ty).run Tryz.prog wr = _ := fun ty => Lib.run_next_ascii_at wr w.heap.size a0 pos ty hit hps (by have := qpn a0 pos hps; omega)
      have hit2 := Lib.iterAt_heap wr w.heap.size a0 pos (pos + 1) hit; have hbw2 := Lib.below_iterAt HB.out (k := w.heap.size) (Nat.le_refl _) a0 (pos + 1)
      obtain ⟨W, hWd⟩ : ∃ W, wr.iterAt w.heap.size a0 (pos + 1) = W := ⟨_, rfl⟩
      rw [hWd] at hnx hit2 hbw2; have hltW : w.heap.size < W.heap.size := (Array.getElem?_eq_some_iff.1 hit2).1; clear hit hWd HB ha; have HB := ak_ hbw2; have HI := ak_ hit2; clear hbw2 hit2; have hx6 := qpn a0 pos; have p6 := eq_true (show 0 ≤ ((pos : Nat) : Int) by omega); have q6 := eq_true (show ((pos : Nat) : Int) < (a0.size : Int) by omega); by_cases c11 : (bt a0 pos) = 120; rotate_left
      ·rw [if_neg c11] at H; have qgs : ((bt a0 pos) == 120) = false := beq_eq_false_iff_ne.mpr c11; have qhl : ((bt a0 pos) != 120) = true := bne_iff_ne.mpr c11; have H' := ak_ H; clear H; go_wp2
       go_roundg k1
       case measure => have := HK.out; omega
       case rel => exact ⟨pos + 1, HI.out, HB, H', ⟨by have := HK.out; omega⟩⟩
      rw [if_pos c11] at H; have qgs : ((bt a0 pos) == 120) = true := beq_iff_eq.mpr c11; have qhl : ((bt a0 pos) != 120) = false := bne_eq_false_iff_eq.mpr c11; clear c11; replace H := Option.bind_eq_some_iff.mp H; obtain ⟨q, A20, H⟩ := H; have HM := ak_ (qch.calls k1 A1 c1 l1 (wrap64 ((pos : Int) + 1)) q W (Kd.qei HR.out HB.out) HC.out A20); clear A20
      cases q with
      | true =>
        rw [if_pos rfl] at H; obtain rfl := Option.some.inj H; clear H
        go_wp2_with (go_at_call 173; refine HM.out.mono ?_; rintro e W' ⟨rfl, hbc⟩)
        go_ret
        exact ⟨rfl, HB.out.trans (hbc.mono HB.out.size)⟩
      | false =>
        rw [if_neg (by decide)] at H; have H' := ak_ H; clear H
        go_wp2_with (go_at_call 173; refine HM.out.mono ?_; rintro e W' ⟨rfl, hbc⟩)
        go_roundg k1
        case measure => have := HK.out; omega
        case rel => exact ⟨pos + 1, (hbc.block _ hltW).trans HI.out, ⟨HB.out.trans (hbc.mono HB.out.size)⟩, H', ⟨by have := HK.out; omega⟩⟩
mutual
def qbZ.f : Nat → ByteArray → List qac → List qac → Int → List (List qac) → Option (List (List qac))
  | 0, _, _, _, _, _ => none
  | k + 1, p, fit, rules, left, out => if left = 0 then ((qcd.f k p rules).bind fun t => if t = true then (if out.length < 5864062014805 then (if rules.length < 8796093022207 then some (out ++ [rules]) else none) else none) else some out) else qbZ.l0 k p fit rules left out 0
def qbZ.l0 : Nat → ByteArray → List qac → List qac → Int → List (List qac) → Nat → Option (List (List qac))
  | 0, _, _, _, _, _, _ => none
  | k + 1, p, fit, rules, left, out, i => if i < fit.length then (if 300 < out.length then some out else (if rules.length < 8796093022207 then ((qbZ.f k p (fit.drop (i + 1)) (rules ++ [qae fit i]) (wrap64 (left - 1)) out).bind fun o => qbZ.l0 k p fit rules left o (i + 1)) else none)) else some out
end
theorem qqo : (Tryz.prog.info? 26).map (fun i => (i.zero, i.size, i.bytes)) = some (some (.slice none 0 0), 1, 24) := by kernel_rfl
theorem qbZ.own (k : Nat) : ∀ (p : ByteArray) (fit rules : List qac) (left : Int) (out r : List (List qac)) (A1 : Option Addr) (c1 : Nat) (A2 : Option Addr) (c2 : Nat) (vo : Value) (w0 w : World)
    (_ : ∀ W', w.grownBy W' vo.ownBlock → Kd.C qaN W' A1 fit.length fit) (_ : fit.length ≤ c1) (_ : ∀ W', w.grownBy W' vo.ownBlock → Kd.C qaN W' A2 rules.length rules) (_ : rules.length ≤ c2)
    (_ : Kd.S (Kd.slice 85 qaN) 26 w w0.heap.size (fun _ => True) vo out) (_ : Below w0.heap.size w0 w) (_ : qbZ.f k p fit rules left out = some r),
    Calls Tryz.prog 213 #[.string p, .slice A1 fit.length c1, .slice A2 rules.length c2, .int .i64 left, vo] w fun e w' => ∃ v1, e = .returned v1 ∧ qeF w0 w vo v1 r w' := by
  induction k using Nat.strongRecOn with
  | ind k ih =>
  intro p fit rules left out r A1 c1 A2 c2 vo w0 w h1 hc1 h2 hc2 hS hB h; have IH := ak_ ih; have H1 := ak_ h1; have HC1 := ak_ hc1; have H2 := ak_ h2; have HC2 := ak_ hc2; have HP := ak_ (qeF.refl hS hB); have HB := ak_ hB; have HS0 := ak_ (Kd.qgk (Kd.qlN hS) (fun _ hk => hk.2.2.1)); have HVO := ak_ (Kd.S_lt hS); obtain ⟨Ao, co, eo⟩ := Kd.qdL hS; subst eo; clear ih h1 hc1 h2 hc2 hS hB
  cases k with
  | zero => exact absurd h (by simp [qbZ.f])
  | succ k =>
    simp only [qbZ.f] at h; by_cases c1_ : left = 0
    ·rw [if_pos c1_] at h; have c1b : (left == 0) = true := beq_iff_eq.mpr c1_; clear c1_; replace h := Option.bind_eq_some_iff.mp h; obtain ⟨t, A0_, h⟩ := h; have A_ := ak_ A0_; clear A0_
     cases t with
     | true =>
       rw [if_pos rfl] at h; by_cases c2_ : out.length < 5864062014805; rotate_left
       ·rw [if_neg c2_] at h; exact absurd h (by simp)
       rw [if_pos c2_] at h; have HLO := ak_ c2_; clear c2_; by_cases c3_ : rules.length < 8796093022207; rotate_left
       ·rw [if_neg c3_] at h; exact absurd h (by simp)
       rw [if_pos c3_] at h; have HLB := ak_ c3_; clear c3_; have HR := ak_ (Option.some.inj h); clear h; go_enter Tryz.func213, Tryz.ntmps213
       go_wp2_with (first | (refine gl_ 17 Tryz.func246 #[.string p, .slice A2 rules.length c2] rfl qb1 ?_; (with_reducible refine (qcd.calls k p _ _ rules true _ ?qay ?qaz A_.out).mono ?_); (case qay => exact H2.out _ (qd4 (Below.refl _ _) _)); (case qaz => exact HC2.out); rintro e w1 ⟨rfl, hb⟩; refine ⟨_, rfl, ?_⟩; have HB1 := ak_ hb; have HS1 := ak_ (H2.out _ (qd4 hb _)); clear hb) | ((with_reducible refine qak (N := 19) rfl ?_); refine Kd.qg9 qaN _ 85 ?hg (N := 19) ?hd (xs := ([] : List qac)) (inner := []) (ok := fun _ => True) (okp := fun _ => True) ?hr ?hp (fun _ hk => hk) trivial (Below.refl _ _) (Nat.le_refl _) (by simp) ?_; (case hd => rfl); (case hg => rfl); (case hr => exact qbb); (case hp => exact qd9.none _ _); intro v19 w2 ho hb hg_ hnew_; clear hg_ hnew_; have HL0 := ak_ ho; have HB2 := ak_ hb; clear ho hb) | ((with_reducible refine qa3 (b := .append) (xs := #[.tmp 19, .tmp 20]) rfl ?_); at_builtin; refine Kd.qdK qaN (w0 := w1) w1.heap.size rfl (.tmp 19) (.tmp 20) 26 85 (.agg #[(.int .i64 0), (.int .i64 0)]) 16 rfl Tryz.underlying26 qcW rfl (by decide) (by omega) v19 ([] : List qac) rules _ _ _ (fun _ => True) (fun _ => False) rfl rfl ?aO ?aR (fun _ _ h => h) (fun _ h => h.elim) (fun _ _ => trivial) ?aB ?aS ?aL ?_; (case aO => exact HL0.out); (case aR => exact Kd.qei HS1.out HB2.out); (case aB => exact HB2.out); (case aS => exact qab HB2.out); (case aL => have h_ := HLB.out; simp only [List.length_nil]; omega); intro v21 w3 ho hb hg_ hat_; clear hg_ hat_; simp only [List.nil_append] at ho; have HL := ak_ ho; have HB3 := ak_ hb; clear HL0 HB2 ho hb; obtain ⟨A21, c21, e21⟩ := Kd.qaJ HL.out; subst e21) | ((with_reducible refine qa3 (b := .append) (xs := #[.tmp 18, .tmp 22]) rfl ?_); at_builtin; refine Kd.qjB (Kd.slice 85 qaN) (w0 := w0) w0.heap.size rfl (.tmp 18) (.tmp 22) 145 26 (.slice none 0 0) 24 rfl Tryz.underlying145 qqo rfl (by decide) (by omega) (.slice Ao out.length co) out rules [.slice A21 rules.length c21] (fun _ => True) (fun k_ => some k_ = (.slice A21 rules.length c21 : Value).ownBlock) rfl rfl ?aP ?aK (fun _ _ => trivial) ?aO ?aB ?aS ?aL ?_; (case aP => exact Kd.M_row (Kd.qh2 rfl (Kd.qau HL.out (Nat.le_trans HB.out.size HB1.out.size)))); (case aK => exact (fun k_ hk => ⟨trivial, fun e_ => by have h1_ := Kd.qfk HL.out k_ hk.symm; have h2_ := HVO.out k_ e_.symm; have h3_ := HB1.out.size; omega⟩)); (case aO => exact Kd.qgk (Kd.qgK HS0.out (qaa HB1.out HB3.out)) (fun k_ hk => ⟨trivial, fun e_ => by have h1_ := Kd.qfk HL.out k_ e_.symm; have h3_ := HB1.out.size; omega⟩)); (case aB => exact qaa (qaa HB.out HB1.out) HB3.out); (case aS => exact qab (qaa (qaa HB.out HB1.out) HB3.out)); (case aL => have h_ := HLO.out; omega); intro v1 w4 ho hb hg hat; have HFIN := ak_ (show qeF w0 w (.slice Ao out.length co) v1 (out ++ [rules]) w4 from ⟨ho, hb, qmG (qaa HB1.out HB3.out) hg, hat.imp id (fun ⟨b_, e_, hb_⟩ => ⟨b_, e_, Nat.le_trans (qaa HB1.out HB3.out).size hb_⟩)⟩); clear ho hb hg hat))
       go_ret
       exact ⟨_, rfl, by rw [← HR.out]; exact HFIN.out⟩
     | false =>
       rw [if_neg (by decide)] at h; have HR := ak_ (Option.some.inj h); clear h; go_enter Tryz.func213, Tryz.ntmps213
       go_wp2_with ((refine gl_ 17 Tryz.func246 #[.string p, .slice A2 rules.length c2] rfl qb1 ?_; (with_reducible refine (qcd.calls k p _ _ rules false _ ?qay ?qaz A_.out).mono ?_); (case qay => exact H2.out _ (qd4 (Below.refl _ _) _)); (case qaz => exact HC2.out); rintro e w1 ⟨rfl, hb⟩; refine ⟨_, rfl, ?_⟩; have HP1 := ak_ (qeF.below HP.out hb); clear HP hb))
       go_ret
       exact ⟨_, rfl, by rw [← HR.out]; exact HP1.out⟩
    rw [if_neg c1_] at h; have c1b : (left == 0) = false := beq_eq_false_iff_ne.mpr c1_; clear c1_; have H' := ak_ h; clear h; go_enter Tryz.func213, Tryz.ntmps213; go_wp2
    go_loopg [4, 27] k (fun kq v4 v27 wx => ∃ (o : List (List qac)) (i : Nat), v27 = .int .i64 i ∧ qag (qbZ.l0 kq p fit rules left o i = some r) ∧ qag (kq ≤ k) ∧ qag (qeF w0 w (.slice Ao out.length co) v4 o wx))
    case atStart => exact ⟨out, 0, rfl, H', ⟨Nat.le_refl _⟩, HP⟩
    case round =>
      clear H' HP; obtain ⟨o, i, rfl, HA_, HK, HPS⟩ := hrel
      cases gk with
      | zero => exact absurd HA_.out (by simp [qbZ.l0])
      | succ k1 =>
        have H := HA_.out; clear HA_; simp only [qbZ.l0] at H; by_cases c1_ : i < fit.length; rotate_left
        ·rw [if_neg c1_] at H; have c1b : decide ((i : Int) < (fit.length : Int)) = false := decide_eq_false (by omega); have c1c : decide (i < fit.length) = false := decide_eq_false c1_; clear c1_; have HR := ak_ (Option.some.inj H); clear H; go_wp2
         go_ret
         exact ⟨_, rfl, by rw [← HR.out]; exact HPS.out⟩
        rw [if_pos c1_] at H; have c1b : decide ((i : Int) < (fit.length : Int)) = true := decide_eq_true (by omega); have c1c : decide (i < fit.length) = true := decide_eq_true c1_; obtain ⟨ad, e_, hx0, hx1⟩ := qdV (H1.out _ HPS.out.2.2.1) (i : Int) (by omega) (by omega)
        cases e_
        simp only [Int.toNat_natCast] at hx0 hx1
        have c1z : (i : Int) < (fit.length : Int) := by omega
        by_cases c2_ : 300 < o.length
        ·rw [if_pos c2_] at H; have c2b : decide ((300 : Int) < (o.length : Int)) = true := decide_eq_true (by omega); have c2c : decide (300 < o.length) = true := decide_eq_true c2_; clear c2_; have HR := ak_ (Option.some.inj H); clear H; obtain ⟨Aq, cq, eq_⟩ := Kd.qdL HPS.out.1; subst eq_
         go_wp2_with ((with_reducible refine qak (N := 12) rfl ?_); refine bx_ 12 rfl (cs := #[.int .i64 0, .int .i64 0]) (t := 85) qbb ?_; intro g12 hg w20 hbox hb; have BK := ak_ hbox; have HBx0 := ak_ hb; have HG := ak_ (Nat.le_of_eq hg.symm); have hcz0 : w20.cell? ⟨g12, 0, none⟩ = some (.int .i64 0) := (qa7 hbox 0).trans rfl; have hcz1 : w20.cell? ⟨g12, 1, none⟩ = some (.int .i64 0) := (qa7 hbox 1).trans rfl; have hfz0 := qad hbox 0; have hfz1 := qad hbox 1; clear hbox hb hg)
         go_ret
         exact ⟨_, rfl, by rw [← HR.out]; exact qeF.below HPS.out (qap (qap HBx0.out HG.out) HG.out)⟩
        rw [if_neg c2_] at H; have c2b : decide ((300 : Int) < (o.length : Int)) = false := decide_eq_false (by omega); have c2c : decide (300 < o.length) = false := decide_eq_false c2_; clear c2_; by_cases c3_ : rules.length < 8796093022207; rotate_left
        ·rw [if_neg c3_] at H; exact absurd H (by simp)
        rw [if_pos c3_] at H; have HLB := ak_ c3_; clear c3_; replace H := Option.bind_eq_some_iff.mp H; obtain ⟨o2, A0_, H⟩ := H
        obtain ⟨fd, hfd⟩ : ∃ l_, l_ = fit.drop (i + 1) := ⟨_, rfl⟩
        rw [← hfd] at A0_; have A_ := ak_ A0_; have H' := ak_ H; clear A0_ H; have HV := ak_ (Kd.S_lt HPS.out.1); obtain ⟨Aq, cq, eq_⟩ := Kd.qdL HPS.out.1; subst eq_; have hfl : fit.length ≤ 9223372036854775807 := Kd.C_max (H1.out _ HPS.out.2.2.1); have hil : (i : Int) < (fit.length : Int) := of_decide_eq_true c1b
        have hw_ : (wrap64 ((i : Int) + 1)).toNat = i + 1 := by unfold wrap64; omega
        have hw0_ : 0 ≤ wrap64 ((i : Int) + 1) := by unfold wrap64; omega
        have hw1_ : wrap64 ((i : Int) + 1) ≤ (fit.length : Int) := by unfold wrap64; omega
        obtain ⟨A39, hA39⟩ : ∃ a_, a_ = (if c1 = i + 1 then some ad else (some ad : Option Addr).map (·.add ((i + 1) * 2))) := ⟨_, rfl⟩
        obtain ⟨c39, hc39⟩ : ∃ a_, a_ = c1 - (i + 1) := ⟨_, rfl⟩
        obtain ⟨i0_, qnL, _, hsz_, _⟩ := info_parts qcW
        have hcut : ∀ W : World, (Instr.slice 26 (.slice (some ad) fit.length c1) (some (.int .i64 (wrap64 ((i : Int) + 1)))) none none).run Tryz.prog W = .ok (.slice A39 fd.length c39) W := by
          intro W; have h := qjE (P := Tryz.prog) 26 85 .i64 Tryz.underlying26 qnL 2 hsz_ (some ad) fit.length c1 (wrap64 ((i : Int) + 1)) hw0_ hw1_ W; rw [hw_] at h; rw [h, hA39, hc39, hfd, List.length_drop]
        have HF2 := ak_ (show ∀ W' : World, Kd.C qaN W' (some ad) fit.length fit → Kd.C qaN W' A39 fd.length fd from fun W' h_ => by rw [hA39, hfd]; exact Kd.C_drop h_ (by omega) HC1.out); have HC39 := ak_ (show fd.length ≤ c39 by rw [hc39, hfd, List.length_drop]; have := HC1.out; omega); clear hw_ hw0_ hw1_ hA39 hc39 qnL hsz_ hfd
        go_wp2_with ((with_reducible refine qak (N := 12) rfl ?_); refine bx_ 12 rfl (cs := #[.int .i64 0, .int .i64 0]) (t := 85) qbb ?_; intro g12 hg w20 hbox hb; have BK := ak_ hbox; have HBx0 := ak_ hb; have HG := ak_ (Nat.le_of_eq hg.symm); have hcz0 : w20.cell? ⟨g12, 0, none⟩ = some (.int .i64 0) := (qa7 hbox 0).trans rfl; have hcz1 : w20.cell? ⟨g12, 1, none⟩ = some (.int .i64 0) := (qa7 hbox 1).trans rfl; have hfz0 := qad hbox 0; have hfz1 := qad hbox 1; clear hbox hb hg)
        have hk7_ := qbp (qbp BK.out 0 (.int .i64 (qae fit i).f0) rfl) 1 (.int .i64 (qae fit i).f1) rfl; have HX0 := ak_ (show (((w20.setCell ⟨g12, 0, none⟩ (.int .i64 (qae fit i).f0)).setCell ⟨g12, 1, none⟩ (.int .i64 (qae fit i).f1)).drew).cell? ⟨g12, 0, none⟩ = some (.int .i64 (qae fit i).f0) from (qa7 (qan hk7_) 0).trans rfl); have HX1 := ak_ (show (((w20.setCell ⟨g12, 0, none⟩ (.int .i64 (qae fit i).f0)).setCell ⟨g12, 1, none⟩ (.int .i64 (qae fit i).f1)).drew).cell? ⟨g12, 1, none⟩ = some (.int .i64 (qae fit i).f1) from (qa7 (qan hk7_) 1).trans rfl); have HBx := ak_ (show Below wr.heap.size wr ((w20.setCell ⟨g12, 0, none⟩ (.int .i64 (qae fit i).f0)).setCell ⟨g12, 1, none⟩ (.int .i64 (qae fit i).f1)).drew from qah (qap (qap HBx0.out HG.out) HG.out)); clear hk7_ hcz0 hcz1 hfz0 hfz1 BK HBx0 HG; refine qeQ (n := 16) (S := fun w' => w'.cell? ⟨g12, 0, none⟩ = some (.int .i64 (qae fit i).f0) ∧ w'.cell? ⟨g12, 1, none⟩ = some (.int .i64 (qae fit i).f1)) (ds := [14]) #[false, false, false, false, false, false, false, false, false, false, false, false, false, false, false, false] (by kernel_rfl) rfl rfl ⟨HX0.out, HX1.out⟩ (fun hHeld => ?_)
        generalize ((w20.setCell ⟨g12, 0, none⟩ (.int .i64 (qae fit i).f0)).setCell ⟨g12, 1, none⟩ (.int .i64 (qae fit i).f1)).drew = wS at HX0 HX1 HBx hHeld ⊢
        have HBc := ak_ (Below.refl wS.heap.size wS); refine qe8 (i := 0) (N := some 35) (v := ?_) (a' := ?_) #[true, false, false, false, false, false, false, false, false, false, false, false, false, false, false, false] rfl rfl (by kernel_rfl) (fun _ _ _ h => h) (Or.inl ⟨by rfl, ?_⟩) ?_ ?_; rotate_left
        · intro w'
          go_simp
          with_reducible rfl
        rotate_left
        · simp only [Act.put, List.setIfInBounds_toArray, List.set_cons_zero, List.set_cons_succ, qcF, qcO]
          rfl
        refine qe8 (i := 1) (N := some 36) (v := ?_) (a' := ?_) #[true, true, false, false, false, false, false, false, false, false, false, false, false, false, false, false] rfl rfl (by kernel_rfl) (fun _ _ _ h => h) (Or.inl ⟨by rfl, ?_⟩) ?_ ?_; rotate_left
        · intro w'
          go_simp
          with_reducible rfl
        rotate_left
        · simp only [Act.put, List.setIfInBounds_toArray, List.set_cons_zero, List.set_cons_succ, qcF, qcO]
          rfl
        refine qe8 (i := 2) (N := some 37) (v := ?_) (a' := ?_) #[true, true, true, false, false, false, false, false, false, false, false, false, false, false, false, false] rfl rfl (by kernel_rfl) (fun _ _ _ h => h) (Or.inl ⟨by rfl, ?_⟩) ?_ ?_; rotate_left
        · intro w'
          go_simp
          with_reducible rfl
        rotate_left
        · simp only [Act.put, List.setIfInBounds_toArray, List.set_cons_zero, List.set_cons_succ, qcF, qcO]
          rfl
        refine qe8 (i := 3) (N := some 38) (v := ?_) (a' := ?_) #[true, true, true, true, false, false, false, false, false, false, false, false, false, false, false, false] rfl rfl (by kernel_rfl) (fun _ _ _ h => h) (Or.inl ⟨by rfl, ?_⟩) ?_ ?_; rotate_left
        · intro w'
          go_simp
          with_reducible rfl
        rotate_left
        · simp only [Act.put, List.setIfInBounds_toArray, List.set_cons_zero, List.set_cons_succ, qcF, qcO]
          rfl
        refine qe8 (i := 4) (N := some 39) (v := ?_) (a' := ?_) #[true, true, true, true, true, false, false, false, false, false, false, false, false, false, false, false] rfl rfl (by kernel_rfl) (fun _ _ _ h => h) (Or.inl ⟨by rfl, ?_⟩) ?_ ?_; rotate_left
        · intro w'
          go_simp
          with_reducible rfl
        rotate_left
        · simp only [Act.put, List.setIfInBounds_toArray, List.set_cons_zero, List.set_cons_succ, qcF, qcO]
          rfl
        refine qe8 (i := 6) (N := some 41) (v := ?_) (a' := ?_) #[true, true, true, true, true, false, true, false, false, false, false, false, false, false, false, false] rfl rfl (by kernel_rfl) (fun _ _ _ h => h) (Or.inl ⟨by rfl, ?_⟩) ?_ ?_; rotate_left
        · intro w'
          go_simp
          with_reducible rfl
        rotate_left
        · simp only [Act.put, List.setIfInBounds_toArray, List.set_cons_zero, List.set_cons_succ, qcF, qcO]
          rfl
        refine qe8 (i := 11) (N := some 46) (v := ?_) (a' := ?_) #[true, true, true, true, true, false, true, false, false, false, false, true, false, false, false, false] rfl rfl (by kernel_rfl) (fun _ _ _ h => h) (Or.inl ⟨by rfl, ?_⟩) ?_ ?_; rotate_left
        · intro w'
          go_simp
          with_reducible rfl
        rotate_left
        · simp only [Act.put, List.setIfInBounds_toArray, List.set_cons_zero, List.set_cons_succ, qcF, qcO]
          rfl
        refine qe8 (i := 12) (N := some 47) (v := ?_) (a' := ?_) #[true, true, true, true, true, false, true, false, false, false, false, true, true, false, false, false] rfl rfl (by kernel_rfl) (fun _ _ _ h => h) (Or.inl ⟨by rfl, ?_⟩) ?_ ?_; rotate_left
        · intro w'
          go_simp
          with_reducible rfl
        rotate_left
        · simp only [Act.put, List.setIfInBounds_toArray, List.set_cons_zero, List.set_cons_succ, qcF, qcO]
          rfl
        refine qe8 (i := 13) (N := some 48) (v := ?_) (a' := ?_) #[true, true, true, true, true, false, true, false, false, false, false, true, true, true, false, false] rfl rfl (by kernel_rfl) (fun _ _ _ h => h) (Or.inl ⟨by rfl, ?_⟩) ?_ ?_; rotate_left
        · intro w'
          go_simp
          with_reducible rfl
        rotate_left
        · simp only [Act.put, List.setIfInBounds_toArray, List.set_cons_zero, List.set_cons_succ, qcF, qcO]
          rfl
        refine qkH (i := 8) (N := some 43) (v := ?_) (a' := ?_) #[true, true, true, true, true, false, true, false, true, false, false, true, true, true, false, false] rfl rfl (by kernel_rfl) (fun _ _ _ h => h) (Or.inl ⟨by rfl, ?_⟩) hHeld ?_ ?_; rotate_left
        · rintro w' ⟨s0, s1⟩
          go_simp
          with_reducible rfl
        rotate_left
        · simp only [Act.put, List.setIfInBounds_toArray, List.set_cons_zero, List.set_cons_succ, qcF, qcO]
          rfl
        refine qsh (σ := Value × Value × Value) 3 #[true, true, true, true, true, true, true, true, true, true, false, true, true, true, false, false] (fun s_ => [(40, s_.1), (42, s_.2.1), (44, s_.2.2)]) (fun s_ w' => Kd.R qaN 85 w' wS.heap.size (fun _ => True) s_.2.1 rules ∧ Kd.R qaN 85 w' wS.heap.size (fun _ => True) s_.2.2 [qae fit i] ∧ Below wS.heap.size wS w') ?_ ?_; rotate_left
        · intro hCont
          refine two_ (i := 5) (j := 9) (Ni := some 40) (Nj := some 44) #[true, true, true, true, true, true, true, false, true, false, false, true, true, true, false, false] #[true, true, true, true, true, false, true, false, true, true, false, true, true, true, false, false] rfl rfl rfl rfl (by kernel_rfl) (by decide) (by decide) (fun K hK => ?_) (fun K hK => ?_)
          ·skip
           refine Kd.qdR qaN _ 85 ?hg (N := 40) ?hd (xs := ([] : List qac)) (inner := []) (ok := fun _ => True) (okp := fun _ => True) ?hr ?hp (fun _ hk => hk) trivial (Below.refl _ _) (Nat.le_refl _) (by simp) ?_
           (case hd => rfl)
           (case hg => rfl)
           (case hr => exact qbb)
           (case hp => exact qd9.none _ _)
           intro v40 w5_0 ho hb hg_ hnew_; clear hg_ hnew_; have HL0 := ak_ (Kd.qau ho (qab HBc.out)); clear ho; have n9_ := ak_ (qaa HBc.out hb); clear HBc hb; have HBc := n9_; clear n9_; refine hK.out _ _ ⟨(qat HBc.out HX0.out), (qat HBc.out HX1.out)⟩ (fun hHeld => ?_); clear hK K; refine qeq (a' := ?_) ?_ ?_; rotate_left
           · show Act.put _ (some 40) _ = _
             simp only [Act.put, List.setIfInBounds_toArray, List.set_cons_zero, List.set_cons_succ, qcF, qcO]; rfl
           refine two_ (i := 7) (j := 9) (Ni := some 42) (Nj := some 44) #[true, true, true, true, true, true, true, true, true, false, false, true, true, true, false, false] #[true, true, true, true, true, true, true, false, true, true, false, true, true, true, false, false] rfl rfl rfl rfl (by kernel_rfl) (by decide) (by decide) (fun K hK => ?_) (fun K hK => ?_)
           ·skip
            refine Kd.qb0 qaN (w0 := wS) wS.heap.size (by rfl) (.tmp 40) (.tmp 41) 26 85 (.agg #[(.int .i64 0), (.int .i64 0)]) 16 rfl Tryz.underlying26 qcW rfl (by decide) (by omega) v40 ([] : List qac) rules _ _ _ (fun _ => True) (fun _ => False) rfl rfl HL0.out ?aR (fun _ _ h => h) (fun _ h => h.elim) (fun _ _ => trivial) HBc.out (qab HBc.out) ?aL ?_
            (case aR => exact H2.out _ (qeF.below (qeF.below HPS.out HBx.out) HBc.out).2.2.1)
            (case aL => have h_ := HLB.out; simp only [List.length_nil]; omega)
            intro v42 w7_1 ho hb hg hat_; simp only [List.nil_append] at ho; clear hg hat_ HL0 HBc; have HA := ak_ ho; have HBc := ak_ hb; clear ho hb; refine hK.out _ _ ⟨(qat HBc.out HX0.out), (qat HBc.out HX1.out)⟩ (fun hHeld => ?_); clear hK K; refine qeq (a' := ?_) ?_ ?_; rotate_left
            · show Act.put _ (some 42) _ = _
              simp only [Act.put, List.setIfInBounds_toArray, List.set_cons_zero, List.set_cons_succ, qcF, qcO]; rfl
            refine qfA (i := 9) (N := some 44) #[true, true, true, true, true, true, true, true, true, true, false, true, true, true, false, false] rfl rfl (by kernel_rfl) (by decide) (fun K hK => ?_); refine Kd.qdR qaN _ 85 ?hg (N := 44) ?hd (xs := ([qae fit i] : List qac)) (inner := [.int .i64 (qae fit i).f0, .int .i64 (qae fit i).f1]) (ok := fun _ => True) (okp := fun _ => True) ?hr ?hp (fun _ hk => hk) trivial (Below.refl _ _) (Nat.le_refl _) (by simp) ?_
            (case hd => rfl)
            (case hg => rfl)
            (case hr => exact qbb)
            (case hp => exact qd9.front (qdo _ _ _ (qae fit i)) rfl (qd9.none _ _) rfl)
            intro v44 w9_2 ho hb hg_ hnew_; clear hg_ hnew_; have n1_ := ak_ (Kd.qbx HA.out hb); clear HA; have HA := n1_; clear n1_; have HL1 := ak_ (Kd.qau ho (qab HBc.out)); clear ho; have n9_ := ak_ (qaa HBc.out hb); clear HBc hb; have HBc := n9_; clear n9_; refine hK.out _ _ ⟨(qat HBc.out HX0.out), (qat HBc.out HX1.out)⟩ (fun hHeld => ?_); clear hK K; refine qeq (a' := ?_) ?_ ?_; rotate_left
            · show Act.put _ (some 44) _ = _
              simp only [Act.put, List.setIfInBounds_toArray, List.set_cons_zero, List.set_cons_succ, qcF, qcO]; rfl
            exact qeq qqr (hCont (v40, v42, v44) _ ⟨HA.out, Kd.qa8 HL1.out (fun _ _ => trivial), HBc.out⟩)
           skip
           refine Kd.qdR qaN _ 85 ?hg (N := 44) ?hd (xs := ([qae fit i] : List qac)) (inner := [.int .i64 (qae fit i).f0, .int .i64 (qae fit i).f1]) (ok := fun _ => True) (okp := fun _ => True) ?hr ?hp (fun _ hk => hk) trivial (Below.refl _ _) (Nat.le_refl _) (by simp) ?_
           (case hd => rfl)
           (case hg => rfl)
           (case hr => exact qbb)
           (case hp => exact qd9.front (qdo _ _ _ (qae fit i)) rfl (qd9.none _ _) rfl)
           intro v44 w9_1 ho hb hg_ hnew_; clear hg_ hnew_; have HL1 := ak_ (Kd.qa8 (Kd.qau (Kd.R_new' ho (Kd.qjA HL0.out)) (qab HBc.out)) (fun _ hk => hk.2)); have n1_ := ak_ (Kd.qbx HL0.out hb); clear HL0 ho; have HL0 := n1_; clear n1_; have n9_ := ak_ (qaa HBc.out hb); clear HBc hb; have HBc := n9_; clear n9_; refine hK.out _ _ ⟨(qat HBc.out HX0.out), (qat HBc.out HX1.out)⟩ (fun hHeld => ?_); clear hK K; refine qeq (a' := ?_) ?_ ?_; rotate_left
           · show Act.put _ (some 44) _ = _
             simp only [Act.put, List.setIfInBounds_toArray, List.set_cons_zero, List.set_cons_succ, qcF, qcO]; rfl
           refine qfA (i := 7) (N := some 42) #[true, true, true, true, true, true, true, true, true, true, false, true, true, true, false, false] rfl rfl (by kernel_rfl) (by decide) (fun K hK => ?_); refine Kd.qb0 qaN (w0 := wS) wS.heap.size (by rfl) (.tmp 40) (.tmp 41) 26 85 (.agg #[(.int .i64 0), (.int .i64 0)]) 16 rfl Tryz.underlying26 qcW rfl (by decide) (by omega) v40 ([] : List qac) rules _ _ _ (fun _ => True) (fun _ => False) rfl rfl HL0.out ?aR (fun _ _ h => h) (fun _ h => h.elim) (fun _ _ => trivial) HBc.out (qab HBc.out) ?aL ?_
           (case aR => exact H2.out _ (qeF.below (qeF.below HPS.out HBx.out) HBc.out).2.2.1)
           (case aL => have h_ := HLB.out; simp only [List.length_nil]; omega)
           intro v42 w7_2 ho hb hg hat_; simp only [List.nil_append] at ho; have n1_ := ak_ (Kd.qiQ HL1.out hg (fun _ hk => hk)); clear HL1; have HL1 := n1_; clear n1_; clear hg hat_ HL0 HBc; have HA := ak_ ho; have HBc := ak_ hb; clear ho hb; refine hK.out _ _ ⟨(qat HBc.out HX0.out), (qat HBc.out HX1.out)⟩ (fun hHeld => ?_); clear hK K; refine qeq (a' := ?_) ?_ ?_; rotate_left
           · show Act.put _ (some 42) _ = _
             simp only [Act.put, List.setIfInBounds_toArray, List.set_cons_zero, List.set_cons_succ, qcF, qcO]; rfl
           exact qeq qqr (hCont (v40, v42, v44) _ ⟨HA.out, Kd.qa8 HL1.out (fun _ _ => trivial), HBc.out⟩)
          skip
          refine Kd.qdR qaN _ 85 ?hg (N := 44) ?hd (xs := ([qae fit i] : List qac)) (inner := [.int .i64 (qae fit i).f0, .int .i64 (qae fit i).f1]) (ok := fun _ => True) (okp := fun _ => True) ?hr ?hp (fun _ hk => hk) trivial (Below.refl _ _) (Nat.le_refl _) (by simp) ?_
          (case hd => rfl)
          (case hg => rfl)
          (case hr => exact qbb)
          (case hp => exact qd9.front (qdo _ _ _ (qae fit i)) rfl (qd9.none _ _) rfl)
          intro v44 w9_0 ho hb hg_ hnew_; clear hg_ hnew_; have HL1 := ak_ (Kd.qau ho (qab HBc.out)); clear ho; have n9_ := ak_ (qaa HBc.out hb); clear HBc hb; have HBc := n9_; clear n9_; refine hK.out _ _ ⟨(qat HBc.out HX0.out), (qat HBc.out HX1.out)⟩ (fun hHeld => ?_); clear hK K; refine qeq (a' := ?_) ?_ ?_; rotate_left
          · show Act.put _ (some 44) _ = _
            simp only [Act.put, List.setIfInBounds_toArray, List.set_cons_zero, List.set_cons_succ, qcF, qcO]; rfl
          refine qfA (i := 5) (N := some 40) #[true, true, true, true, true, true, true, false, true, true, false, true, true, true, false, false] rfl rfl (by kernel_rfl) (by decide) (fun K hK => ?_); refine Kd.qdR qaN _ 85 ?hg (N := 40) ?hd (xs := ([] : List qac)) (inner := []) (ok := fun _ => True) (okp := fun _ => True) ?hr ?hp (fun _ hk => hk) trivial (Below.refl _ _) (Nat.le_refl _) (by simp) ?_
          (case hd => rfl)
          (case hg => rfl)
          (case hr => exact qbb)
          (case hp => exact qd9.none _ _)
          intro v40 w5_1 ho hb hg_ hnew_; clear hg_ hnew_; have n1_ := ak_ (Kd.qa8 (Kd.R_elder' HL1.out (Kd.qfk ho) hb) (fun _ hk => hk.2)); clear HL1; have HL1 := n1_; clear n1_; have HL0 := ak_ (Kd.qau ho (qab HBc.out)); clear ho; have n9_ := ak_ (qaa HBc.out hb); clear HBc hb; have HBc := n9_; clear n9_; refine hK.out _ _ ⟨(qat HBc.out HX0.out), (qat HBc.out HX1.out)⟩ (fun hHeld => ?_); clear hK K; refine qeq (a' := ?_) ?_ ?_; rotate_left
          · show Act.put _ (some 40) _ = _
            simp only [Act.put, List.setIfInBounds_toArray, List.set_cons_zero, List.set_cons_succ, qcF, qcO]; rfl
          refine qfA (i := 7) (N := some 42) #[true, true, true, true, true, true, true, true, true, true, false, true, true, true, false, false] rfl rfl (by kernel_rfl) (by decide) (fun K hK => ?_); refine Kd.qb0 qaN (w0 := wS) wS.heap.size (by rfl) (.tmp 40) (.tmp 41) 26 85 (.agg #[(.int .i64 0), (.int .i64 0)]) 16 rfl Tryz.underlying26 qcW rfl (by decide) (by omega) v40 ([] : List qac) rules _ _ _ (fun _ => True) (fun _ => False) rfl rfl HL0.out ?aR (fun _ _ h => h) (fun _ h => h.elim) (fun _ _ => trivial) HBc.out (qab HBc.out) ?aL ?_
          (case aR => exact H2.out _ (qeF.below (qeF.below HPS.out HBx.out) HBc.out).2.2.1)
          (case aL => have h_ := HLB.out; simp only [List.length_nil]; omega)
          intro v42 w7_2 ho hb hg hat_; simp only [List.nil_append] at ho; have n1_ := ak_ (Kd.qiQ HL1.out hg (fun _ hk => hk)); clear HL1; have HL1 := n1_; clear n1_; clear hg hat_ HL0 HBc; have HA := ak_ ho; have HBc := ak_ hb; clear ho hb; refine hK.out _ _ ⟨(qat HBc.out HX0.out), (qat HBc.out HX1.out)⟩ (fun hHeld => ?_); clear hK K; refine qeq (a' := ?_) ?_ ?_; rotate_left
          · show Act.put _ (some 42) _ = _
            simp only [Act.put, List.setIfInBounds_toArray, List.set_cons_zero, List.set_cons_succ, qcF, qcO]; rfl
          exact qeq qqr (hCont (v40, v42, v44) _ ⟨HA.out, Kd.qa8 HL1.out (fun _ _ => trivial), HBc.out⟩)
        rintro ⟨v40, v42, v44⟩ wJ ⟨ha_, hl_, hb_⟩; clear HBc; have HA := ak_ ha_; have HL1 := ak_ hl_; have HBc := ak_ hb_; clear ha_ hl_ hb_; obtain ⟨A44, c44, e44⟩ := Kd.qaJ HL1.out; dsimp only at e44; subst e44; refine qeq (a' := ?_) ?_ ?_; rotate_left
        · simp only [qiG, Act.put, List.setIfInBounds_toArray, List.set_cons_zero, List.set_cons_succ]
          rfl
        refine qfA (i := 10) (N := some 45) #[true, true, true, true, true, true, true, true, true, true, true, true, true, true, false, false] rfl rfl (by kernel_rfl) (by decide) (fun K hK => ?_); refine Kd.qb0 qaN (w0 := wS) wS.heap.size (by rfl) (.tmp 42) (.tmp 44) 26 85 (.agg #[(.int .i64 0), (.int .i64 0)]) 16 rfl Tryz.underlying26 qcW rfl (by decide) (by omega) v42 rules [qae fit i] _ _ _ (fun _ => True) (fun _ => False) rfl rfl HA.out ?aR (fun _ _ h => h) (fun _ h => h.elim) (fun _ _ => trivial) HBc.out (qab HBc.out) ?aL ?_
        (case aR => exact (Kd.R_reads' HL1.out).2.2)
        (case aL => have h_ := HLB.out; simp only [List.length_singleton]; omega)
        intro v45 wB ho hb hg hat_; clear hg hat_ HA HL1 HBc; have HA := ak_ ho; have HBc := ak_ hb; clear ho hb; obtain ⟨A45, c45, e45⟩ := Kd.qaJ HA.out; subst e45; refine hK.out _ _ ⟨(qat HBc.out HX0.out), (qat HBc.out HX1.out)⟩ (fun hHeld => ?_); clear hK K; refine qeq (a' := ?_) ?_ ?_; rotate_left
        · show Act.put _ (some 45) _ = _
          simp only [Act.put, List.setIfInBounds_toArray, List.set_cons_zero, List.set_cons_succ, qcF, qcO]; rfl
        refine last_ (i := 14) (N := some 49) #[true, true, true, true, true, true, true, true, true, true, true, true, true, true, true, false] rfl rfl (by kernel_rfl) (by decide) (fun K hK => ?_); refine qfz Tryz.func213 (by kernel_rfl) rfl #[.string p, .slice A39 fd.length c39, .slice A45 (rules ++ [qae fit i]).length c45, .int .i64 (wrap64 (left - 1)), .slice Aq o.length cq] (by rfl) rfl rfl qb1 ?_; have HPB := ak_ (qeF.below (qeF.below HPS.out HBx.out) HBc.out); refine (IH.out k1 (by have := HK.out; omega) p fd (rules ++ [qae fit i]) (wrap64 (left - 1)) o o2 A39 c39 _ _ (.slice Aq o.length cq) w0 _ ?s1 ?s2 ?s3 ?s4 ?s5 ?s6 A_.out).mono ?_
        (case s1 => exact (fun W' hg' => HF2.out W' (H1.out _ (qgR HPB.out.2.2.1 hg' HPB.out.2.2.2))))
        (case s2 => exact HC39.out)
        (case s3 => exact (fun W' hg' => (Kd.R_reads' (Kd.qiQ (Kd.qeY HA.out) hg' (fun k_ hk e_ => by have h1_ := HV.out k_ e_.symm; have h2_ := hk.2.1; have h3_ := HBx.out.size; omega))).2.2))
        (case s4 => exact (Kd.R_reads' HA.out).2.1)
        (case s5 => exact HPB.out.1)
        (case s6 => exact HPB.out.2.1)
        rintro e wC ⟨v49, rfl, hp⟩; refine ⟨_, rfl, ?_⟩; have HPN := ak_ (qeF.trans HPB.out hp); clear hp HPB; refine hK.out _ _ ?_; clear hK K; refine qeq (a' := ?_) ?_ ?_; rotate_left
        · show Act.put _ (some 49) _ = _
          simp only [Act.put, List.setIfInBounds_toArray, List.set_cons_zero, List.set_cons_succ, qcF, qcO]; rfl
        refine qe8 (i := 15) (N := some 4) (v := ?_) (a' := ?_) #[true, true, true, true, true, true, true, true, true, true, true, true, true, true, true, true] rfl rfl (by kernel_rfl) (fun _ _ _ h => h) (Or.inl ⟨by rfl, ?_⟩) ?_ ?_; rotate_left
        · intro w'
          go_simp
          with_reducible rfl
        rotate_left
        · simp only [Act.put, List.setIfInBounds_toArray, List.set_cons_zero, List.set_cons_succ, qcF, qcO]
          rfl
        refine qf4 (by kernel_rfl) ?_; go_wp2
        go_roundg k1
        case measure => have := HK.out; omega
        case rel => exact ⟨o2, i + 1, by go_num, H', ⟨by have := HK.out; omega⟩, HPN⟩
theorem qbZ.calls (k : Nat) (a0 : ByteArray) (A1 : Option Addr) (c1 : Nat) (l1 : List qac) (A2 : Option Addr) (c2 : Nat) (l2 : List qac) (a3 : Int) (A4 : Option Addr) (c4 : Nat) (l4 : List (List qac)) (r : List (List qac)) (w : World)
    (hr1 : Kd.C qaN w A1 l1.length l1) (hc1 : l1.length ≤ c1) (hr2 : Kd.C qaN w A2 l2.length l2) (hc2 : l2.length ≤ c2) (hr4 : Kd.C (Kd.slice 85 qaN) w A4 l4.length l4) (hc4 : l4.length ≤ c4) (h : qbZ.f k a0 l1 l2 a3 l4 = some r) (hnil : A4 = none ∧ c4 = 0 := by exact ⟨rfl, rfl⟩) :
    Calls Tryz.prog 213 #[.string a0, .slice A1 l1.length c1, .slice A2 l2.length c2, .int .i64 a3, .slice A4 l4.length c4] w fun e w' => ∃ v0_ : Value, e = .returned (v0_) ∧ Kd.S (Kd.slice 85 qaN) 26 w' w.heap.size (fun _ => True) v0_ r ∧ Below w.heap.size w w' := by
  obtain ⟨rfl, rfl⟩ := hnil; obtain rfl : l4 = [] := List.eq_nil_of_length_eq_zero (by omega)
  have hb : ∀ W', w.grownBy W' (Value.slice none ([] : List (List qac)).length 0).ownBlock → Below w.heap.size w W' := fun W' hg => ⟨hg.os, hg.tape, hg.output, hg.size, fun k hk => hg.block k hk (by simp [Value.ownBlock])⟩
  exact (qbZ.own k a0 l1 l2 a3 [] r A1 c1 A2 c2 (.slice none 0 0) w w (fun W' hg => Kd.qei hr1 (hb W' hg)) hc1 (fun W' hg => Kd.qei hr2 (hb W' hg)) hc2 (Kd.S_nil _ _ _ _ _) (Below.refl _ _) h).mono fun e w' ⟨v1, he, hp⟩ => ⟨v1, he, hp.1, hp.2.1⟩
mutual
def qbI.l0 : Nat → ByteArray → List (qac) → Int → Option ((List (qac)))
 | 0, _, _, _ => none
 | k + 1, x0, x3, x4 => if x4 ≤ 10 then (qbI.l1 k x0 x3 x4 0) else (some x3)
def qbI.l1 : Nat → ByteArray → List (qac) → Int → Int → Option ((List (qac)))
 | 0, _, _, _, _ => none
 | k + 1, x0, x3, x4, x5 => if x5 < x4 then ((qcI.f k x0 x4 x5).bind fun qaI => (if qaI = true then (if x3.length < 8796093022208 then (qbI.l1 k x0 (x3 ++ [(⟨x4, x5⟩ : qac)]) x4 (wrap64 (x5 + 1))) else (none)) else (qbI.l1 k x0 x3 x4 (wrap64 (x5 + 1))))) else (qbI.l0 k x0 x3 (wrap64 (x4 + 1)))
end
def qbI.f (k : Nat) (a0 : ByteArray) : Option ((List (qac))) := qbI.l0 k a0 ([] : List (qac)) 2
theorem qbI.calls (k : Nat) (a0 : ByteArray) (r : List (qac)) (w : World) (h : qbI.f k a0 = some r) :
  Calls Tryz.prog 214 #[.string a0] w fun e w' => ∃ v0_ : Value, e = .returned (v0_) ∧ Kd.R qaN 85 w' w.heap.size (fun _ => True) v0_ r ∧ Below w.heap.size w w' := by
 have qms := Tryz.underlying85; have HB := ak_ (Below.refl w.heap.size w); have H : (qbI.l0 k a0 ([] : List (qac)) 2) = some r := h; clear h; have H' := ak_ H; clear H; go_enter Tryz.func214, Tryz.ntmps214; go_wp2
 go_loopg [3, 4] k (fun kq v3 v4 w' => ∃ (qbg : List (qac)) (qcs : Int), v4 = .int .i64 qcs ∧ qag (qbI.l0 kq a0 qbg qcs = some r) ∧ qag (kq ≤ k) ∧ qag (Kd.R qaN 85 w' w.heap.size (fun _ => True) v3 qbg) ∧ qag (Below w.heap.size w w'))
 case atStart => exact ⟨(([] : List (qac))), (2), qav, H', ⟨Nat.le_refl _⟩, ⟨qg4⟩, ⟨qam⟩⟩
 case round =>
  clear H'; obtain ⟨qbg, qcs, rfl, HA, HK1, qdr, HB⟩ := hrel
  cases gk with
  | zero => exact absurd HA.out (by simp [qbI.l0])
  | succ k1 =>
   have H := HA.out; clear HA; simp only [qbI.l0] at H; by_cases c2 : qcs ≤ 10; rotate_left
   ·rw [if_neg c2] at H; have qfe : decide (qcs ≤ 10) = false := decide_eq_false c2; clear c2; obtain rfl := Option.some.inj H; go_wp2
    go_ret
    exact ⟨_, qce, k64_, qam⟩
   rw [if_pos c2] at H; have qfe : decide (qcs ≤ 10) = true := decide_eq_true c2; clear c2; have H' := ak_ H; clear H; go_wp2
   go_loopg [3, 5] k1 (fun kq v3 v5 w' => ∃ (qgm : List (qac)) (qfL : Int), v5 = .int .i64 qfL ∧ qag (qbI.l1 kq a0 qgm qcs qfL = some r) ∧ qag (kq ≤ k1) ∧ qag (Kd.R qaN 85 w' w.heap.size (fun _ => True) v3 qgm) ∧ qag (Below w.heap.size w w'))
   case atStart => exact ⟨(qbg), (0), qav, H', ⟨Nat.le_refl _⟩, ⟨qhQ⟩, ⟨qam⟩⟩
   case round =>
    clear H'; (try clear c2); (try clear qfe); obtain ⟨qgm, qfL, rfl, HA, HK2, qdr, HB⟩ := hrel
    cases gk with
    | zero => exact absurd HA.out (by simp [qbI.l1])
    | succ k2 =>
     have H := HA.out; clear HA; simp only [qbI.l1] at H; by_cases c3 : qfL < qcs; rotate_left
     ·rw [if_neg c3] at H; have qff : decide (qfL < qcs) = false := decide_eq_false c3; clear c3; have H' := ak_ H; clear H; go_wp2
      go_roundg k2
      case measure => have := HK1.out; have := HK2.out; omega
      case rel => exact ⟨(qgm), (wrap64 (qcs + 1)), qav, H', ⟨ql9⟩, ⟨qhQ⟩, ⟨qam⟩⟩
     rw [if_pos c3] at H; have qff : decide (qfL < qcs) = true := decide_eq_true c3; clear c3; obtain ⟨qaI, A4, H⟩ := qaw H; (try dsimp only at H); by_cases c5 : qaI = true; rotate_left
     ·replace c5 := Bool.eq_false_iff.mpr c5; subst c5; rw [if_neg (show ¬ (false = true) by decide)] at H; have H' := ak_ H; clear H
      go_wp2_with (first | ((with_reducible refine qak (N := 6) rfl ?_); refine bx_ 6 rfl (cs := #[.int .i64 0, .int .i64 0]) (t := 85) qbb ?_; intro qb8 hg w12 hbox hb; replace qdr := ak_ (Kd.qbx (Kd.qhE qhQ qb8 (Nat.le_of_eq hg.symm)) hb); have qaF := ak_ (hbox); have qeJ := ak_ (HB.ge hg); have qen := ak_ (HB.ge hg); replace HB := HB.mw hb; clear hb hbox hg; obtain ⟨ql3, ql4, ql5, ql6⟩ := qbG qaF.out) | (refine gl_ 21 Tryz.func247 #[.string a0, .agg #[.int .i64 qcs, .int .i64 qfL]] rfl qbK ?_; (with_reducible refine (qcI.calls k2 a0 qcs qfL false _ A4.out).mono ?_); rintro e w14 ⟨rfl, hb⟩; refine ⟨_, rfl, ?_⟩; replace qdr := ak_ (Kd.qbx k11_ hb); replace qaF := ak_ (qao (g := qb8) (o := .cells #[.int .i64 qcs, .int .i64 qfL] 85 (0, 0)) k8_ hb); replace HB := ak_ (qaa qdt hb); (try clear hb)))
      go_roundg k2
      case measure => have := HK1.out; have := HK2.out; omega
      case rel => exact ⟨(qgm), (wrap64 (qfL + 1)), qav, H', ⟨ql9⟩, ⟨by (with_reducible repeat (first | apply Kd.qaq | apply Kd.qar | apply Kd.qaC)); exact Kd.qa8 qdr.out (fun _ hk => trivial)⟩, ⟨qdt⟩⟩
     subst c5; rw [if_pos rfl] at H; by_cases c6 : qgm.length < 8796093022208; rotate_left
     ·rw [if_neg c6] at H; exact absurd H (by simp)
     rw [if_pos c6] at H; have LMc6 := ak_ c6; clear c6
     obtain ⟨qlI, hy_⟩ : ∃ y_ : List (qac), y_ = (qgm ++ [(⟨qcs, qfL⟩ : qac)]) := ⟨_, rfl⟩
     replace H : (qbI.l1 k2 a0 qlI qcs (wrap64 (qfL + 1))) = some r := qe6; have qlL := ak_ hy_; clear hy_; have H' := ak_ H; clear H
     go_wp2_with (first | ((with_reducible refine qak (N := 6) rfl ?_); refine bx_ 6 rfl (cs := #[.int .i64 0, .int .i64 0]) (t := 85) qbb ?_; intro qb8 hg w7 hbox hb; replace qdr := ak_ (Kd.qbx (Kd.qhE qhQ qb8 (Nat.le_of_eq hg.symm)) hb); have qaF := ak_ (hbox); have qeJ := ak_ (HB.ge hg); have qen := ak_ (HB.ge hg); replace HB := HB.mw hb; clear hb hbox hg; obtain ⟨qm6, qm7, qna, qnb⟩ := qbG qaF.out) | (refine gl_ 21 Tryz.func247 #[.string a0, .agg #[.int .i64 qcs, .int .i64 qfL]] rfl qbK ?_; (with_reducible refine (qcI.calls k2 a0 qcs qfL true _ A4.out).mono ?_); rintro e w9 ⟨rfl, hb⟩; refine ⟨_, rfl, ?_⟩; replace qdr := ak_ (Kd.qbx k11_ hb); replace qaF := ak_ (qao (g := qb8) (o := .cells #[.int .i64 qcs, .int .i64 qfL] 85 (0, 0)) k8_ hb); replace HB := ak_ (qaa qdt hb); (try clear hb); obtain ⟨qom, qon, qos, qot⟩ := qbG qaF.out) | ((with_reducible refine qa3 (b := .append) (xs := #[.tmp 22, .tmp 24]) rfl ?_); at_builtin; refine Kd.qc8 qaN (w0 := w) w.heap.size rfl (.tmp 22) (.tmp 24) 26 85 (.agg #[(.int .i64 0), (.int .i64 0)]) 16 rfl Tryz.underlying26 qfQ rfl (by decide) (by omega) u3 qgm (⟨qcs, qfL⟩ : qac) [.int .i64 qcs, .int .i64 qfL] (fun k_ => k_ ≠ qb8) (fun _ => False) rfl rfl ?aP (fun _ hk => hk.elim) ?aF ?aO ?aB ?aS ?aL ?_; (case aP => exact qdo _ _ _ (⟨qcs, qfL⟩ : qac)); (case aB => exact qdt); (case aF => exact (fun k_ hk => Kd.qm0 (g := qb8) (o := .cells #[.int .i64 qcs, .int .i64 qfL] 85 (0, 0)) qmu k_ hk)); (case aO => exact (by (with_reducible repeat (first | apply Kd.qaq | apply Kd.qar | apply Kd.qaC)); exact Kd.qa8 qdr.out (fun _ hk => hk.2))); (case aS => exact (qab qdt)); (case aL => have := LMc6.out; omega); intro qsS w11 ho hb hg hat; rw [← qlL.out] at ho; replace qaF := ak_ (qev (g := qb8) (o := .cells #[.int .i64 qcs, .int .i64 qfL] 85 (0, 0)) qmu hg (Kd.qmC qdr.out (fun _ hk => hk.2))); replace HB := ak_ (hb); have qeH := ak_ (ho); clear qdr; clear ho hb hg hat))
     go_roundg k2
     case measure => have := HK1.out; have := HK2.out; omega
     case rel => exact ⟨(qlI), (wrap64 (qfL + 1)), qav, H', ⟨ql9⟩, ⟨by (with_reducible repeat (first | apply Kd.qaq | apply Kd.qar | apply Kd.qaC)); exact Kd.qa8 qeH.out (fun _ hk => trivial)⟩, ⟨qdt⟩⟩
def qbv.f (k : Nat) (qbL : ByteArray) (qcx : Int) : Option ((List (List (qac))) × Bool) := (qdu.f k qbL qcx).bind fun qaI => (if qaI = true then ((qbI.f k qbL).bind fun qb7 => ((qbZ.f k qbL qb7 ([] : List (qac)) qcx ([] : List (List (qac)))).bind fun qfw => (if (qfw.length : Int) > 300 then (some (([] : List (List (qac))), false)) else (some (qfw, true))))) else (some (([] : List (List (qac))), false)))
def qbv.T3 : Bool × List (List Nat × List Nat) := (true, [([], []), ([0], [0]), ([], []), ([2], [2]), ([3], [3]), ([], []), ([5], [5]), ([1, 4, 6, 4], [1, 4, 6]), ([7, 7, 0, 1, 2, 3, 4, 5, 6, 7], [7])])
def qbv.B3 : List Nat := [0, 1, 0, 4, 12, 0, 32, 127, 255]
theorem qbv.tab3 : qhK .any (opsOf Tryz.f175 3) = qbv.T3 := by kernel_rfl
theorem qbv.bits3 : qeR qbv.T3.2 qbv.B3 = true := by kernel_rfl
theorem qbv.calls (k : Nat) (qbL : ByteArray) (qcx : Int) (r1 : List (List (qac))) (r2 : Bool) (w : World) (h : qbv.f k qbL qcx = some (r1, r2)) :
  Calls Tryz.prog 175 #[.agg #[.string qbL, .int .i64 qcx]] w fun e w' => ∃ v0_ : Value, e = .returned (.tuple #[v0_, .bool r2]) ∧ Kd.S (Kd.slice 85 qaN) 26 w' w.heap.size (fun _ => True) v0_ r1 ∧ Below w.heap.size w w' := by
 have hu99 := Tryz.underlying99; have HB := ak_ (Below.refl w.heap.size w); have H : ((qdu.f k qbL qcx).bind fun qaI => (if qaI = true then ((qbI.f k qbL).bind fun qb7 => ((qbZ.f k qbL qb7 ([] : List (qac)) qcx ([] : List (List (qac)))).bind fun qfw => (if (qfw.length : Int) > 300 then (some (([] : List (List (qac))), false)) else (some (qfw, true))))) else (some (([] : List (List (qac))), false)))) = some (r1, r2) := h; clear h; obtain ⟨qaI, A2, H⟩ := qaw H; (try dsimp only at H); by_cases c3 : qaI = true; rotate_left
 ·replace c3 := Bool.eq_false_iff.mpr c3; subst c3; rw [if_neg (show ¬ (false = true) by decide)] at H; obtain ⟨rfl, rfl⟩ := qdI H; go_enter Tryz.func175, Tryz.ntmps175
  go_wp2_with (first | ((with_reducible refine qak (N := 1) rfl ?_); refine bx_ 1 rfl (cs := #[.string qbL, .int .i64 qcx]) (t := 99) qbb ?_; intro qb8 hg w23 hbox hb; have qaF := ak_ (hbox); have qeJ := ak_ (HB.ge hg); have qen := ak_ (HB.ge hg); replace HB := HB.mw hb; clear hb hbox hg; obtain ⟨hcz24_0, hcz24_1, hfz24_0, hfz24_1⟩ := qbG qaF.out) | (refine gl_ 6 Tryz.func174 #[.agg #[.string qbL, .int .i64 qcx]] rfl qbK ?_; (with_reducible refine (qdu.calls k qbL qcx false _ A2.out).mono ?_); rintro e w25 ⟨rfl, hb⟩; refine ⟨_, rfl, ?_⟩; replace qaF := qaF.mw hb; replace HB := ak_ (qaa qdt hb); (try clear hb)))
  go_ret2
  exact ⟨_, qce, k55_, qdt⟩
 subst c3; rw [if_pos rfl] at H; obtain ⟨qb7, A4, H⟩ := qaw H; (try dsimp only at H); obtain ⟨qfw, A5, H⟩ := qaw H; (try dsimp only at H); by_cases c6 : (qfw.length : Int) > 300
 ·rw [if_pos c6] at H; have qfY : decide (300 < (qfw.length : Int)) = true := decide_eq_true c6; have qmK : decide (300 < qfw.length) = true := decide_eq_true (by omega); clear c6; obtain ⟨rfl, rfl⟩ := qdI H; go_enter Tryz.func175, Tryz.ntmps175
  try go_wp2_with (first | ((with_reducible refine qak (N := 1) rfl ?_); refine bx_ 1 rfl (cs := #[.string qbL, .int .i64 qcx]) (t := 99) qbb ?_; intro qb8 hg w7 hbox hb; have qaF := ak_ (hbox); have qeJ := ak_ (HB.ge hg); have qen := ak_ (HB.ge hg); replace HB := HB.mw hb; clear hb hbox hg; obtain ⟨qm6, qm7, qna, qnb⟩ := qbG qaF.out) | (refine gl_ 6 Tryz.func174 #[.agg #[.string qbL, .int .i64 qcx]] rfl qbK ?_; (with_reducible refine (qdu.calls k qbL qcx true _ A2.out).mono ?_); rintro e w9 ⟨rfl, hb⟩; refine ⟨_, rfl, ?_⟩; replace qaF := qaF.mw hb; replace HB := ak_ (qaa qdt hb); (try clear hb)))
  replace qaF := ak_ (qan qaF.out); replace HB := ak_ (qah HB.out); refine qeQ (n := 9) (S := fun w' => w'.cell? ⟨qb8, 0, none⟩ = some (.string qbL) ∧ w'.cell? ⟨qb8, 1, none⟩ = some (.int .i64 qcx)) (ds := []) (rA_ [0, 9]) (by kernel_rfl) rfl rfl ⟨qed qaF.out, qbB qaF.out⟩ (fun hHeld => ?_); refine qdp qbv.tab3 qbv.bits3 (fun HT_ HW_ => ?_)
  generalize w9.drew = w10 at qaF HB hHeld ⊢
  refine pu_ 0 8 [1, 8] ?_; refine pu_ 2 10 [1, 1, 1, 6] ?_; refine pu_ 5 13 [1, 1, 1, 2, 1, 3] ?_; refine qip 1 9 [3, 2, 1, 3] ?_; refine qip 3 11 [4, 1, 1, 3] ?_; refine qip 6 14 [4, 1, 2, 2] ?_; refine qfA (i := 4) (N := some 12) (rA_ [7, 2]) rfl rfl (qc5 HT_.out (by kernel_rfl)) (by decide) (fun K hK => ?_); refine qfz Tryz.func214 (by kernel_rfl) rfl #[.string qbL] (by rfl) rfl rfl qbK ?_
  with_reducible refine (qbI.calls k qbL qb7 _ A4.out).mono ?_
  rintro e w11 ⟨qsS, rfl, ho0, hb⟩; refine ⟨_, rfl, ?_⟩; have qeH := ak_ (Kd.qau ho0 (qab qdt)); replace qaF := qaF.mw hb; replace HB := ak_ (qaa qdt hb); (try clear hb); (try clear hb2); (try clear hk); (try clear hi); (try clear ho0); obtain ⟨qkM, qkQ, qqK⟩ := Kd.qaJ qeH.out; (first | subst qqK | (injection qqK with f1_ f2_ f3_; have f4_ := f1_.symm; have f5_ := f3_.symm; clear f1_ f2_ f3_; subst f4_; subst f5_)); refine hK.out _ _ ⟨qed qaF.out, qbB qaF.out⟩ (fun hHeld => ?_); clear hK K; refine nm_ 12 ?_; refine qfA (i := 7) (N := some 15) (rA_ [8, 1]) rfl rfl (qc5 HT_.out (by kernel_rfl)) (by decide) (fun K hK => ?_); refine qfz Tryz.func213 (by kernel_rfl) rfl #[.string qbL, .slice qkM qb7.length qkQ, .slice none 0 0, .int .i64 qcx, .slice none 0 0] (by rfl) rfl rfl qbK ?_; refine (qbZ.calls k qbL _ _ qb7 _ _ ([] : List (qac)) qcx _ _ ([] : List (List (qac))) qfw _ ?qay ?qaz ?qo3 ?qo4 ?side5 ?side6 A5.out).mono ?_
  (case qay => repeat (first | exact (Kd.R_reads' qeH.out).2.2 | (with_reducible refine Kd.C_alloc ?_ _) | (with_reducible refine Kd.C_drewN ?_ _) | (with_reducible refine Kd.C_drew ?_)))
  (case qaz => exact (Kd.R_reads' qeH.out).2.1)
  (case qo3 => exact Kd.C_nil _ _)
  (case qo4 => exact Nat.le_refl _)
  (case side5 => exact Kd.C_nil _ _)
  (case side6 => exact Nat.le_refl _)
  rintro e w13 ⟨v107, rfl, ho0, hb⟩; refine ⟨_, rfl, ?_⟩; have qfE := ak_ (Kd.qdU (Kd.S_new' ho0 (Kd.qjA (by apply_rules only [qeH.out, Kd.qaq, Kd.qar, Kd.qaC]))) (qab qdt)); replace qeH := qeH.mw hb; replace qaF := qaF.mw hb; replace HB := ak_ (qaa qdt hb); (try clear hb); (try clear hb2); (try clear hk); (try clear hi); (try clear ho0); refine hK.out _ _ ⟨qed qaF.out, qbB qaF.out⟩ (fun hHeld => ?_); clear hK K; refine nm_ 15 ?_; refine pu_ 8 4 [9] ?_; refine qf4 (qeC HT_.out (by kernel_rfl)) ?_; obtain ⟨Ao14, co14, eo14⟩ := Kd.qdL qfE.out; subst eo14
  try go_wp2
  go_ret2
  exact ⟨_, qce, k55_, qdt⟩
 rw [if_neg c6] at H; have qfY : decide (300 < (qfw.length : Int)) = false := decide_eq_false c6; have qmK : decide (300 < qfw.length) = false := decide_eq_false (by omega); clear c6; obtain ⟨rfl, rfl⟩ := qdI H; go_enter Tryz.func175, Tryz.ntmps175
 try go_wp2_with (first | ((with_reducible refine qak (N := 1) rfl ?_); refine bx_ 1 rfl (cs := #[.string qbL, .int .i64 qcx]) (t := 99) qbb ?_; intro qb8 hg w15 hbox hb; have qaF := ak_ (hbox); have qeJ := ak_ (HB.ge hg); have qen := ak_ (HB.ge hg); replace HB := HB.mw hb; clear hb hbox hg; obtain ⟨qrI, qrJ, qrQ, qrR⟩ := qbG qaF.out) | (refine gl_ 6 Tryz.func174 #[.agg #[.string qbL, .int .i64 qcx]] rfl qbK ?_; (with_reducible refine (qdu.calls k qbL qcx true _ A2.out).mono ?_); rintro e w17 ⟨rfl, hb⟩; refine ⟨_, rfl, ?_⟩; replace qaF := qaF.mw hb; replace HB := ak_ (qaa qdt hb); (try clear hb)))
 replace qaF := ak_ (qan qaF.out); replace HB := ak_ (qah HB.out); refine qeQ (n := 9) (S := fun w' => w'.cell? ⟨qb8, 0, none⟩ = some (.string qbL) ∧ w'.cell? ⟨qb8, 1, none⟩ = some (.int .i64 qcx)) (ds := []) (rA_ [0, 9]) (by kernel_rfl) rfl rfl ⟨qed qaF.out, qbB qaF.out⟩ (fun hHeld => ?_); refine qdp qbv.tab3 qbv.bits3 (fun HT_ HW_ => ?_)
 generalize w17.drew = w18 at qaF HB hHeld ⊢
 refine pu_ 0 8 [1, 8] ?_; refine pu_ 2 10 [1, 1, 1, 6] ?_; refine pu_ 5 13 [1, 1, 1, 2, 1, 3] ?_; refine qip 1 9 [3, 2, 1, 3] ?_; refine qip 3 11 [4, 1, 1, 3] ?_; refine qip 6 14 [4, 1, 2, 2] ?_; refine qfA (i := 4) (N := some 12) (rA_ [7, 2]) rfl rfl (qc5 HT_.out (by kernel_rfl)) (by decide) (fun K hK => ?_); refine qfz Tryz.func214 (by kernel_rfl) rfl #[.string qbL] (by rfl) rfl rfl qbK ?_
 with_reducible refine (qbI.calls k qbL qb7 _ A4.out).mono ?_
 rintro e w19 ⟨qsS, rfl, ho0, hb⟩; refine ⟨_, rfl, ?_⟩; have qeH := ak_ (Kd.qau ho0 (qab qdt)); replace qaF := qaF.mw hb; replace HB := ak_ (qaa qdt hb); (try clear hb); (try clear hb2); (try clear hk); (try clear hi); (try clear ho0); obtain ⟨Ao20, co20, eo20⟩ := Kd.qaJ qeH.out; (first | subst eo20 | (injection eo20 with f1_ f2_ f3_; have f4_ := f1_.symm; have f5_ := f3_.symm; clear f1_ f2_ f3_; subst f4_; subst f5_)); refine hK.out _ _ ⟨qed qaF.out, qbB qaF.out⟩ (fun hHeld => ?_); clear hK K; refine nm_ 12 ?_; refine qfA (i := 7) (N := some 15) (rA_ [8, 1]) rfl rfl (qc5 HT_.out (by kernel_rfl)) (by decide) (fun K hK => ?_); refine qfz Tryz.func213 (by kernel_rfl) rfl #[.string qbL, .slice Ao20 qb7.length co20, .slice none 0 0, .int .i64 qcx, .slice none 0 0] (by rfl) rfl rfl qbK ?_; refine (qbZ.calls k qbL _ _ qb7 _ _ ([] : List (qac)) qcx _ _ ([] : List (List (qac))) qfw _ ?qay ?qaz ?qo3 ?qo4 ?side5 ?side6 A5.out).mono ?_
 (case qay => repeat (first | exact (Kd.R_reads' qeH.out).2.2 | (with_reducible refine Kd.C_alloc ?_ _) | (with_reducible refine Kd.C_drewN ?_ _) | (with_reducible refine Kd.C_drew ?_)))
 (case qaz => exact (Kd.R_reads' qeH.out).2.1)
 (case qo3 => exact Kd.C_nil _ _)
 (case qo4 => exact Nat.le_refl _)
 (case side5 => exact Kd.C_nil _ _)
 (case side6 => exact Nat.le_refl _)
 rintro e w21 ⟨v107, rfl, ho0, hb⟩; refine ⟨_, rfl, ?_⟩; have qfE := ak_ (Kd.qdU (Kd.S_new' ho0 (Kd.qjA (by apply_rules only [qeH.out, Kd.qaq, Kd.qar, Kd.qaC]))) (qab qdt)); replace qeH := qeH.mw hb; replace qaF := qaF.mw hb; replace HB := ak_ (qaa qdt hb); (try clear hb); (try clear hb2); (try clear hk); (try clear hi); (try clear ho0); refine hK.out _ _ ⟨qed qaF.out, qbB qaF.out⟩ (fun hHeld => ?_); clear hK K; refine nm_ 15 ?_; refine pu_ 8 4 [9] ?_; refine qf4 (qeC HT_.out (by kernel_rfl)) ?_; obtain ⟨Ao22, co22, eo22⟩ := Kd.qdL qfE.out; subst eo22
 try go_wp2
 go_ret2
 exact ⟨_, qce, by (with_reducible repeat (first | apply Kd.qdl | apply Kd.qdm | apply Kd.qea)); exact Kd.qgk qfE.out (fun _ hk => trivial), qdt⟩
def qdk.f (k : Nat) (qbL : ByteArray) (qcx : Int) : Option ((List (qac)) × Bool) := (qbv.f k qbL qcx).bind fun qeN => (if qeN.2 = true then (if (qeN.1.length : Int) = 0 then (some (([] : List (qac)), false)) else (if 0 < (qeN.1.length : Int) then (some (qer qeN.1 0, true)) else (none))) else (some (([] : List (qac)), false)))
theorem qdk.calls (k : Nat) (qbL : ByteArray) (qcx : Int) (r1 : List (qac)) (r2 : Bool) (w : World) (h : qdk.f k qbL qcx = some (r1, r2)) :
  Calls Tryz.prog 119 #[.agg #[.string qbL, .int .i64 qcx]] w fun e w' => ∃ v0_ : Value, e = .returned (.tuple #[v0_, .bool r2]) ∧ Kd.R qaN 85 w' w.heap.size (fun _ => True) v0_ r1 ∧ Below w.heap.size w w' := by
 have hu99 := Tryz.underlying99; have HB := ak_ (Below.refl w.heap.size w); have H : ((qbv.f k qbL qcx).bind fun qeN => (if qeN.2 = true then (if (qeN.1.length : Int) = 0 then (some (([] : List (qac)), false)) else (if 0 < (qeN.1.length : Int) then (some (qer qeN.1 0, true)) else (none))) else (some (([] : List (qac)), false)))) = some (r1, r2) := h; clear h; obtain ⟨⟨qaI, t105⟩, A2, H⟩ := qaw H; (try dsimp only at H); by_cases c3 : t105 = true; rotate_left
 ·replace c3 := Bool.eq_false_iff.mpr c3; subst c3; rw [if_neg (show ¬ (false = true) by decide)] at H; obtain ⟨rfl, rfl⟩ := qdI H; go_enter Tryz.func119, Tryz.ntmps119
  go_wp2_with (first | ((with_reducible refine qak (N := 1) rfl ?_); refine bx_ 1 rfl (cs := #[.string qbL, .int .i64 qcx]) (t := 99) qbb ?_; intro qb8 hg w14 hbox hb; have qaF := ak_ (hbox); have qeJ := ak_ (HB.ge hg); have qen := ak_ (HB.ge hg); replace HB := HB.mw hb; clear hb hbox hg; obtain ⟨qoq, qor, qow, qox⟩ := qbG qaF.out) | (refine gl_ 8 Tryz.func175 #[.agg #[.string qbL, .int .i64 qcx]] rfl qbK ?_; (with_reducible refine (qbv.calls k qbL qcx qaI false _ A2.out).mono ?_); rintro e w16 ⟨qhg, rfl, ho0, hb⟩; refine ⟨_, rfl, ?_⟩; have qbW := ak_ (Kd.qdU ho0 (qab qdt)); replace qaF := qaF.mw hb; replace HB := ak_ (qaa qdt hb); (try clear hb ho0)))
  go_ret2
  exact ⟨_, qce, qg4, qdt⟩
 subst c3; rw [if_pos rfl] at H; by_cases c4 : (qaI.length : Int) = 0
 ·rw [if_pos c4] at H; have qfx : ((qaI.length : Int) == 0) = true := beq_iff_eq.mpr c4; have qlW : ((qaI.length : Int) != 0) = false := bne_eq_false_iff_eq.mpr c4; clear c4; obtain ⟨rfl, rfl⟩ := qdI H; go_enter Tryz.func119, Tryz.ntmps119
  go_wp2_with (first | ((with_reducible refine qak (N := 1) rfl ?_); refine bx_ 1 rfl (cs := #[.string qbL, .int .i64 qcx]) (t := 99) qbb ?_; intro qb8 hg w5 hbox hb; have qaF := ak_ (hbox); have qeJ := ak_ (HB.ge hg); have qen := ak_ (HB.ge hg); replace HB := HB.mw hb; clear hb hbox hg; obtain ⟨qj6, qj7, qj9, qka⟩ := qbG qaF.out) | (refine gl_ 8 Tryz.func175 #[.agg #[.string qbL, .int .i64 qcx]] rfl qbK ?_; (with_reducible refine (qbv.calls k qbL qcx qaI true _ A2.out).mono ?_); rintro e w7 ⟨qhg, rfl, ho0, hb⟩; refine ⟨_, rfl, ?_⟩; have qbW := ak_ (Kd.qdU ho0 (qab qdt)); replace qaF := qaF.mw hb; replace HB := ak_ (qaa qdt hb); (try clear hb ho0); obtain ⟨Ao8, co8, eo8⟩ := Kd.qdL qbW.out; subst eo8))
  go_ret2
  exact ⟨_, qce, qg4, qdt⟩
 rw [if_neg c4] at H; have qfx : ((qaI.length : Int) == 0) = false := beq_eq_false_iff_ne.mpr c4; have qlW : ((qaI.length : Int) != 0) = true := bne_iff_ne.mpr c4
 have c4b2 : ¬ (qaI = []) := fun h_ => c4 (by rw [h_]; rfl)
 by_cases c9 : 0 < (qaI.length : Int); rotate_left
 ·rw [if_neg c9] at H; exact absurd H (by simp)
 rw [if_pos c9] at H; have qlX : decide (0 < (qaI.length : Int)) = true := decide_eq_true c9; have c9b1 : decide (0 < qaI.length) = true := decide_eq_true (by omega); clear c9; obtain ⟨rfl, rfl⟩ := qdI H; go_enter Tryz.func119, Tryz.ntmps119
 go_wp2_with (first | ((with_reducible refine qak (N := 1) rfl ?_); refine bx_ 1 rfl (cs := #[.string qbL, .int .i64 qcx]) (t := 99) qbb ?_; intro qb8 hg w10 hbox hb; have qaF := ak_ (hbox); have qeJ := ak_ (HB.ge hg); have qen := ak_ (HB.ge hg); replace HB := HB.mw hb; clear hb hbox hg; obtain ⟨qf5, qf6, qf7, qf8⟩ := qbG qaF.out) | (refine gl_ 8 Tryz.func175 #[.agg #[.string qbL, .int .i64 qcx]] rfl qbK ?_; (with_reducible refine (qbv.calls k qbL qcx qaI true _ A2.out).mono ?_); rintro e w12 ⟨qhg, rfl, ho0, hb⟩; refine ⟨_, rfl, ?_⟩; have qbW := ak_ (Kd.qdU ho0 (qab qdt)); replace qaF := qaF.mw hb; replace HB := ak_ (qaa qdt hb); (try clear hb ho0); obtain ⟨Ao13, co13, eo13⟩ := Kd.qdL qbW.out; subst eo13; have qfH : 0 ≤ (0 : Int) := (by omega); have qfJ : 0 < (qaI.length : Int) := of_decide_eq_true qaU; obtain ⟨qgL, A106_0, c106_0, qjx, qcq, qkf, qkc⟩ := qpk (Kd.S_reads' qbW.out).2.2 0 qfH qfJ; cases qjx; obtain ⟨ce106, qrH, qrF, qm3⟩ := Kd.qq3 qbW.out [] 0 qfH (by first | exact qfJ | exact of_decide_eq_true qaU | (have e_ := (Kd.S_reads' qbW.out).1; omega)); obtain ⟨ve106_0, rfl, qh8⟩ := qrF; have qga := qm3 0 _ rfl; rw [Nat.add_zero, show ((Kd.slice 85 qaN)).sz = 1 from rfl, Nat.mul_one] at qga; replace qga := Option.some.inj (qga.symm.trans qcq); rw [qga] at qh8; have qnR := ak_ (show Kd.R qaN 85 _ _ _ _ (qer qaI 0) from qh8); clear qga qh8; clear qm3 qrH; have qsx : (0 < qaI.length) = True := eq_true (by omega); (try rw [show ((0 : Int)).toNat = 0 from rfl] at qcq); (try rw [Addr.add_zero'] at qcq); have HR106_0 := ak_ qkc; have HC106_0 := ak_ qkf; clear qkc qkf; replace qfH := eq_true qfH; replace qfJ := eq_true qfJ))
 go_ret2
 exact ⟨_, qce, by (with_reducible repeat (first | apply Kd.qaq | apply Kd.qar | apply Kd.qaC)); exact Kd.qa8 qnR.out (fun _ hk => trivial), qdt⟩
def qgG.f (k : Nat) (rs : List qac) (mo : Int) (tx : ByteArray) (n : Int) (c : Cmd) : Option ByteArray := match c with
  | .cShow => qci.f k rs true
  | .cLeft => (qes.f k rs mo).bind fun q => qdE.f k q.1 q.2
  | .cCount => (qd6.f k rs mo).bind fun q => qcD.f k q.1 q.2
  | .cPeriod => (qcB.f k rs).bind fun q => qcD.f k q.1 q.2
  | .cSpokes => (qdN.f k rs).bind fun q => qdE.f k q.1 q.2
  | .cSteps => (qd2.f k rs).bind fun q => qdE.f k q.1 q.2
  | .cRank => (qc4.f k rs n).bind fun q => qcD.f k q.1 q.2
  | .cFactors => (qcL.f k n).bind fun q => qcl.f k q.1 q.2
  | .cPi => (qc3.f k n).bind fun q => qcD.f k q.1 q.2
  | .cDivisors => (qde.f k n).bind fun q => qdE.f k q.1 q.2
  | .cTotient => (qdx.f k n).bind fun q => qcD.f k q.1 q.2
  | .cPattern => (qaZ.f k rs n).bind fun q => if q.2 = true then some q.1 else some (⟨#[110, 111]⟩ : ByteArray)
  | .cAnswer => (qaB.f k tx).bind fun q => if q.2.2 = true then ((qdk.f k q.1 q.2.1).bind fun u => qci.f k u.1 u.2) else some (⟨#[110, 111]⟩ : ByteArray)
  | _ => none
theorem qn7 (k base g : Nat) (rs : List qac) (mo : Int) (lr : List qac) (tx : ByteArray) (n : Int) (c : Cmd) (txt : ByteArray) (w : World) (hbase : base ≤ w.heap.size) (hD : qjQ w base g rs mo lr tx n) (h : qgG.f k rs mo tx n c = some txt) :
    Calls Tryz.prog 64 #[.pointer (some ⟨g, 0, none⟩), .string c.word] w fun e w' => e = .returned (.string txt) ∧ Below w.heap.size w w' := by
  obtain ⟨A0, c0, A1_, c1, hC, hO, hL⟩ := hD; have HCw := ak_ hC; have HOw := ak_ hO; have HLw := ak_ hL; have HC := ak_ hC; have HO := ak_ hO; have HL := ak_ hL; have HB := ak_ (Below.refl w.heap.size w); obtain ⟨qqm, qqg⟩ := qcv HC.out; have qqn := qbB HC.out; have qqh := qad HC.out 1; have hzw_2 := qfl HC.out; have hfw_2 := qad HC.out 2; have hzw_3 := qft HC.out; have hfw_3 := qad HC.out 3; have hzw_4 := qfu HC.out; have hfw_4 := qad HC.out 4; clear hC hO hL; have HBS := ak_ hbase; clear hbase; unfold qgG.f at h
  match c, h with
  | .cShow, h =>
    simp only [Cmd.word, Cmd.bytes]; dsimp only at h; have A1 := ak_ h; clear h; go_enter Tryz.func64, Tryz.ntmps64
    go_wp2_with (first | (refine gl_ 19 Tryz.func99 #[.slice A0 rs.length c0, .bool true] rfl qb1 ?_; (refine (qci.calls k _ _ rs true txt _ qjk (Kd.R_reads' HO.out).2.1 A1.out).mono ?_); rintro e w3 ⟨rfl, hb⟩; refine ⟨_, rfl, ?_⟩; replace HB := ak_ (qaa qam hb); clear hb))
    go_ret
    exact ⟨rfl, qam⟩
  | .cLeft, h =>
    simp only [Cmd.word, Cmd.bytes]; dsimp only at h; obtain ⟨⟨xs, ok⟩, A1, h⟩ := qaw h; (try dsimp only at h); have A2 := ak_ h; clear h; go_enter Tryz.func64, Tryz.ntmps64
    go_wp2_with (first | (refine gl_ 28 Tryz.func105 #[.slice A0 rs.length c0, .int .i64 mo] rfl qb1 ?_; (refine (qes.calls k _ _ rs mo xs ok _ qjk (Kd.R_reads' HO.out).2.1 A1.out).mono ?_); rintro e w2 ⟨vx, rfl, hox, hb⟩; refine ⟨_, rfl, ?_⟩; have HX := ak_ (Kd.qau hox (Nat.le_trans HBS.out (qab qam))); clear hox; obtain ⟨Ax, cx, ex⟩ := Kd.qaJ HX.out; subst ex; replace HB := ak_ (qaa qam hb); clear hb) | (refine gl_ 31 Tryz.func104 #[.slice Ax xs.length cx, .bool ok] rfl qb1 ?_; (refine (qdE.calls k _ _ xs ok txt _ qqq (Kd.R_reads' HX.out).2.1 A2.out).mono ?_); rintro e w5 ⟨rfl, hb⟩; refine ⟨_, rfl, ?_⟩; replace HB := ak_ (qaa qam hb); clear hb))
    go_ret
    exact ⟨rfl, qam⟩
  | .cCount, h =>
    simp only [Cmd.word, Cmd.bytes]; dsimp only at h; obtain ⟨⟨v, ok⟩, A1, h⟩ := qaw h; (try dsimp only at h); have A2 := ak_ h; clear h; go_enter Tryz.func64, Tryz.ntmps64
    go_wp2_with (first | (refine gl_ 40 Tryz.func107 #[.slice A0 rs.length c0, .int .i64 mo] rfl qb1 ?_; (refine (qd6.calls k _ _ rs mo v ok _ qjk (Kd.R_reads' HO.out).2.1 A1.out).mono ?_); rintro e w2 ⟨rfl, hb⟩; refine ⟨_, rfl, ?_⟩; replace HB := ak_ (qaa qam hb); clear hb) | (refine gl_ 43 Tryz.func106 #[.int .i64 v, .bool ok] rfl qb1 ?_; (refine (qcD.calls k v ok txt _ A2.out).mono ?_); rintro e w5 ⟨rfl, hb⟩; refine ⟨_, rfl, ?_⟩; replace HB := ak_ (qaa qam hb); clear hb))
    go_ret
    exact ⟨rfl, qam⟩
  | .cPeriod, h =>
    simp only [Cmd.word, Cmd.bytes]; dsimp only at h; obtain ⟨⟨v, ok⟩, A1, h⟩ := qaw h; (try dsimp only at h); have A2 := ak_ h; clear h; go_enter Tryz.func64, Tryz.ntmps64
    go_wp2_with (first | (refine gl_ 47 Tryz.func108 #[.slice A0 rs.length c0] rfl qb1 ?_; (refine (qcB.calls k _ _ rs v ok _ qjk (Kd.R_reads' HO.out).2.1 A1.out).mono ?_); rintro e w2 ⟨rfl, hb⟩; refine ⟨_, rfl, ?_⟩; replace HB := ak_ (qaa qam hb); clear hb) | (refine gl_ 50 Tryz.func106 #[.int .i64 v, .bool ok] rfl qb1 ?_; (refine (qcD.calls k v ok txt _ A2.out).mono ?_); rintro e w5 ⟨rfl, hb⟩; refine ⟨_, rfl, ?_⟩; replace HB := ak_ (qaa qam hb); clear hb))
    go_ret
    exact ⟨rfl, qam⟩
  | .cSpokes, h =>
    simp only [Cmd.word, Cmd.bytes]; dsimp only at h; obtain ⟨⟨xs, ok⟩, A1, h⟩ := qaw h; (try dsimp only at h); have A2 := ak_ h; clear h; go_enter Tryz.func64, Tryz.ntmps64
    go_wp2_with (first | (refine gl_ 54 Tryz.func109 #[.slice A0 rs.length c0] rfl qb1 ?_; (refine (qdN.calls k _ _ rs xs ok _ qjk (Kd.R_reads' HO.out).2.1 A1.out).mono ?_); rintro e w2 ⟨vx, rfl, hox, hb⟩; refine ⟨_, rfl, ?_⟩; have HX := ak_ (Kd.qau hox (Nat.le_trans HBS.out (qab qam))); clear hox; obtain ⟨Ax, cx, ex⟩ := Kd.qaJ HX.out; subst ex; replace HB := ak_ (qaa qam hb); clear hb) | (refine gl_ 57 Tryz.func104 #[.slice Ax xs.length cx, .bool ok] rfl qb1 ?_; (refine (qdE.calls k _ _ xs ok txt _ qqq (Kd.R_reads' HX.out).2.1 A2.out).mono ?_); rintro e w5 ⟨rfl, hb⟩; refine ⟨_, rfl, ?_⟩; replace HB := ak_ (qaa qam hb); clear hb))
    go_ret
    exact ⟨rfl, qam⟩
  | .cSteps, h =>
    simp only [Cmd.word, Cmd.bytes]; dsimp only at h; obtain ⟨⟨xs, ok⟩, A1, h⟩ := qaw h; (try dsimp only at h); have A2 := ak_ h; clear h; go_enter Tryz.func64, Tryz.ntmps64
    go_wp2_with (first | (refine gl_ 61 Tryz.func110 #[.slice A0 rs.length c0] rfl qb1 ?_; (refine (qd2.calls k _ _ rs xs ok _ qjk (Kd.R_reads' HO.out).2.1 A1.out).mono ?_); rintro e w2 ⟨vx, rfl, hox, hb⟩; refine ⟨_, rfl, ?_⟩; have HX := ak_ (Kd.qau hox (Nat.le_trans HBS.out (qab qam))); clear hox; obtain ⟨Ax, cx, ex⟩ := Kd.qaJ HX.out; subst ex; replace HB := ak_ (qaa qam hb); clear hb) | (refine gl_ 64 Tryz.func104 #[.slice Ax xs.length cx, .bool ok] rfl qb1 ?_; (refine (qdE.calls k _ _ xs ok txt _ qqq (Kd.R_reads' HX.out).2.1 A2.out).mono ?_); rintro e w5 ⟨rfl, hb⟩; refine ⟨_, rfl, ?_⟩; replace HB := ak_ (qaa qam hb); clear hb))
    go_ret
    exact ⟨rfl, qam⟩
  | .cRank, h =>
    simp only [Cmd.word, Cmd.bytes]; dsimp only at h; obtain ⟨⟨v, ok⟩, A1, h⟩ := qaw h; (try dsimp only at h); have A2 := ak_ h; clear h; go_enter Tryz.func64, Tryz.ntmps64
    go_wp2_with (first | (refine gl_ 72 Tryz.func111 #[.slice A0 rs.length c0, .int .i64 n] rfl qb1 ?_; (refine (qc4.calls k _ _ rs n v ok _ qjk (Kd.R_reads' HO.out).2.1 A1.out).mono ?_); rintro e w2 ⟨rfl, hb⟩; refine ⟨_, rfl, ?_⟩; replace HB := ak_ (qaa qam hb); clear hb) | (refine gl_ 75 Tryz.func106 #[.int .i64 v, .bool ok] rfl qb1 ?_; (refine (qcD.calls k v ok txt _ A2.out).mono ?_); rintro e w5 ⟨rfl, hb⟩; refine ⟨_, rfl, ?_⟩; replace HB := ak_ (qaa qam hb); clear hb))
    go_ret
    exact ⟨rfl, qam⟩
  | .cFactors, h =>
    simp only [Cmd.word, Cmd.bytes]; dsimp only at h; obtain ⟨⟨xs, ok⟩, A1, h⟩ := qaw h; (try dsimp only at h); have A2 := ak_ h; clear h; go_enter Tryz.func64, Tryz.ntmps64
    go_wp2_with (first | (refine gl_ 82 Tryz.func113 #[.int .i64 n] rfl qb1 ?_; (refine (qcL.calls k n xs ok _ A1.out).mono ?_); rintro e w2 ⟨vx, rfl, hox, hb⟩; refine ⟨_, rfl, ?_⟩; have HX := ak_ (Kd.qdU hox (Nat.le_trans HBS.out (qab qam))); clear hox; obtain ⟨Ax, cx, ex⟩ := Kd.qdL HX.out; subst ex; replace HB := ak_ (qaa qam hb); clear hb) | (refine gl_ 85 Tryz.func112 #[.slice Ax xs.length cx, .bool ok] rfl qb1 ?_; (refine (qcl.calls k _ _ xs ok txt _ (by repeat (first | exact (Kd.S_reads' HX.out).2.2 | (with_reducible refine Kd.C_alloc ?_ _) | (with_reducible refine Kd.C_drewN ?_ _) | (with_reducible refine Kd.C_drew ?_))) (Kd.S_reads' HX.out).2.1 A2.out).mono ?_); rintro e w5 ⟨rfl, hb⟩; refine ⟨_, rfl, ?_⟩; replace HB := ak_ (qaa qam hb); clear hb))
    go_ret
    exact ⟨rfl, qam⟩
  | .cPi, h =>
    simp only [Cmd.word, Cmd.bytes]; dsimp only at h; obtain ⟨⟨v, ok⟩, A1, h⟩ := qaw h; (try dsimp only at h); have A2 := ak_ h; clear h; go_enter Tryz.func64, Tryz.ntmps64
    go_wp2_with (first | (refine gl_ 92 Tryz.func114 #[.int .i64 n] rfl qb1 ?_; (refine (qc3.calls k n v ok _ A1.out).mono ?_); rintro e w2 ⟨rfl, hb⟩; refine ⟨_, rfl, ?_⟩; replace HB := ak_ (qaa qam hb); clear hb) | (refine gl_ 95 Tryz.func106 #[.int .i64 v, .bool ok] rfl qb1 ?_; (refine (qcD.calls k v ok txt _ A2.out).mono ?_); rintro e w5 ⟨rfl, hb⟩; refine ⟨_, rfl, ?_⟩; replace HB := ak_ (qaa qam hb); clear hb))
    go_ret
    exact ⟨rfl, qam⟩
  | .cDivisors, h =>
    simp only [Cmd.word, Cmd.bytes]; dsimp only at h; obtain ⟨⟨xs, ok⟩, A1, h⟩ := qaw h; (try dsimp only at h); have A2 := ak_ h; clear h; go_enter Tryz.func64, Tryz.ntmps64
    go_wp2_with (first | (refine gl_ 102 Tryz.func115 #[.int .i64 n] rfl qb1 ?_; (refine (qde.calls k n xs ok _ A1.out).mono ?_); rintro e w2 ⟨vx, rfl, hox, hb⟩; refine ⟨_, rfl, ?_⟩; have HX := ak_ (Kd.qau hox (Nat.le_trans HBS.out (qab qam))); clear hox; obtain ⟨Ax, cx, ex⟩ := Kd.qaJ HX.out; subst ex; replace HB := ak_ (qaa qam hb); clear hb) | (refine gl_ 105 Tryz.func104 #[.slice Ax xs.length cx, .bool ok] rfl qb1 ?_; (refine (qdE.calls k _ _ xs ok txt _ qqq (Kd.R_reads' HX.out).2.1 A2.out).mono ?_); rintro e w5 ⟨rfl, hb⟩; refine ⟨_, rfl, ?_⟩; replace HB := ak_ (qaa qam hb); clear hb))
    go_ret
    exact ⟨rfl, qam⟩
  | .cTotient, h =>
    simp only [Cmd.word, Cmd.bytes]; dsimp only at h; obtain ⟨⟨v, ok⟩, A1, h⟩ := qaw h; (try dsimp only at h); have A2 := ak_ h; clear h; go_enter Tryz.func64, Tryz.ntmps64
    go_wp2_with (first | (refine gl_ 112 Tryz.func116 #[.int .i64 n] rfl qb1 ?_; (refine (qdx.calls k n v ok _ A1.out).mono ?_); rintro e w2 ⟨rfl, hb⟩; refine ⟨_, rfl, ?_⟩; replace HB := ak_ (qaa qam hb); clear hb) | (refine gl_ 115 Tryz.func106 #[.int .i64 v, .bool ok] rfl qb1 ?_; (refine (qcD.calls k v ok txt _ A2.out).mono ?_); rintro e w5 ⟨rfl, hb⟩; refine ⟨_, rfl, ?_⟩; replace HB := ak_ (qaa qam hb); clear hb))
    go_ret
    exact ⟨rfl, qam⟩
  | .cPattern, h =>
    simp only [Cmd.word, Cmd.bytes]; dsimp only at h; obtain ⟨⟨s, ok⟩, A1, h⟩ := qaw h; dsimp only at h
    cases ok with
    | false =>
      rw [if_neg (by decide)] at h; obtain rfl := Option.some.inj h; go_enter Tryz.func64, Tryz.ntmps64
      go_wp2_with (first | (refine gl_ 124 Tryz.func117 #[.slice A0 rs.length c0, .int .i64 n] rfl qb1 ?_; (refine (qaZ.calls k _ _ rs n s false _ qjk (Kd.R_reads' HO.out).2.1 A1.out).mono ?_); rintro e w2 ⟨rfl, hb⟩; refine ⟨_, rfl, ?_⟩; replace HB := ak_ (qaa qam hb); clear hb))
      go_ret
      exact ⟨rfl, qam⟩
    | true =>
      rw [if_pos rfl] at h; obtain rfl := Option.some.inj h; go_enter Tryz.func64, Tryz.ntmps64
      go_wp2_with (first | (refine gl_ 124 Tryz.func117 #[.slice A0 rs.length c0, .int .i64 n] rfl qb1 ?_; (refine (qaZ.calls k _ _ rs n s true _ qjk (Kd.R_reads' HO.out).2.1 A1.out).mono ?_); rintro e w2 ⟨rfl, hb⟩; refine ⟨_, rfl, ?_⟩; replace HB := ak_ (qaa qam hb); clear hb))
      go_ret
      exact ⟨rfl, qam⟩
  | .cAnswer, h =>
    simp only [Cmd.word, Cmd.bytes]; dsimp only at h; obtain ⟨⟨pa, pb, pok⟩, A1, h⟩ := qaw h; dsimp only at h
    cases pok with
    | false =>
      rw [if_neg (by decide)] at h; obtain rfl := Option.some.inj h; go_enter Tryz.func64, Tryz.ntmps64
      go_wp2_with (first | (refine gl_ 135 Tryz.func118 #[.string tx] rfl qb1 ?_; (refine (qaB.calls k tx pa pb false _ A1.out).mono ?_); rintro e w4 ⟨rfl, hb⟩; refine ⟨_, rfl, ?_⟩; replace HB := ak_ (qaa qam hb); clear hb) | ((with_reducible refine qak (N := 8) rfl ?_); refine bx_ 8 rfl (cs := #[.string (⟨#[]⟩ : ByteArray), .int .i64 0]) (t := 99) qbb ?_; intro gQ hg w5 hbox hb; have HGQ := ak_ (show w.heap.size ≤ gQ from qsi); have hq0 : w5.cell? ⟨gQ, 0, none⟩ = some (.string (⟨#[]⟩ : ByteArray)) := (qa7 hbox 0).trans rfl; have hq1 : w5.cell? ⟨gQ, 1, none⟩ = some (.int .i64 0) := (qa7 hbox 1).trans rfl; have hk0 := qad hbox 0; have hk1 := qad hbox 1; replace HB := ak_ (qaa qam hb); clear hb hbox hg))
      go_ret
      exact ⟨rfl, (qap (qap HB.out HGQ.out) HGQ.out)⟩
    | true =>
      rw [if_pos rfl] at h; obtain ⟨⟨xs, ok⟩, A2, h⟩ := qaw h; dsimp only at h; have A3 := ak_ h; clear h; go_enter Tryz.func64, Tryz.ntmps64
      go_wp2_with (first | (refine gl_ 135 Tryz.func118 #[.string tx] rfl qb1 ?_; (refine (qaB.calls k tx pa pb true _ A1.out).mono ?_); rintro e w4 ⟨rfl, hb⟩; refine ⟨_, rfl, ?_⟩; replace HB := ak_ (qaa qam hb); clear hb) | ((with_reducible refine qak (N := 8) rfl ?_); refine bx_ 8 rfl (cs := #[.string (⟨#[]⟩ : ByteArray), .int .i64 0]) (t := 99) qbb ?_; intro gQ hg w5 hbox hb; have HGQ := ak_ (show w.heap.size ≤ gQ from qsi); have hq0 : w5.cell? ⟨gQ, 0, none⟩ = some (.string (⟨#[]⟩ : ByteArray)) := (qa7 hbox 0).trans rfl; have hq1 : w5.cell? ⟨gQ, 1, none⟩ = some (.int .i64 0) := (qa7 hbox 1).trans rfl; have hk0 := qad hbox 0; have hk1 := qad hbox 1; replace HB := ak_ (qaa qam hb); clear hb hbox hg) | (refine gl_ 141 Tryz.func119 #[.agg #[.string pa, .int .i64 pb]] rfl qb1 ?_; (refine (qdk.calls k pa pb xs ok _ A2.out).mono ?_); rintro e w6 ⟨vx, rfl, hox, hb⟩; refine ⟨_, rfl, ?_⟩; have hB2 := qaa (w := w) (by first | exact (qap (qap HB.out HGQ.out) HGQ.out) | apply_rules only [qai, qaf, qah, (qap (qap HB.out HGQ.out) HGQ.out)]) hb; have HX := ak_ hox; clear HB hox hb; have HB := ak_ hB2; clear hB2; obtain ⟨Ax, cx, ex⟩ := Kd.qaJ HX.out; subst ex) | (refine gl_ 144 Tryz.func99 #[.slice Ax xs.length cx, .bool ok] rfl qb1 ?_; (refine (qci.calls k _ _ xs ok txt _ qqq (Kd.R_reads' HX.out).2.1 A3.out).mono ?_); rintro e w7 ⟨rfl, hb⟩; refine ⟨_, rfl, ?_⟩; replace HB := ak_ (qaa qam hb); clear hb))
      go_ret
      exact ⟨rfl, qam⟩
def Cmd.moves : Cmd → Bool
  | .cRules => true
  | .cAdd => true
  | .cDrop => true
  | .cMost => true
  | .cMove => true
  | .cMirror => true
  | .cTidy => true
  | .cPrimes => true
  | _ => false
def qd8.f (k : Nat) (rs : List qac) (mo : Int) (s : ByteArray) : Option (List qac × Int × ByteArray) := if rs.length < 8796093022208 then ((qgg.f k s).bind fun r => match r with
  | none => some (rs, mo, (⟨#[119, 104, 97, 116]⟩ : ByteArray))
  | some (c, lr, tx, n) => if c.moves = true then qdC.f k rs mo lr n c else (qgG.f k rs mo tx n c).bind fun z => some (rs, mo, z)) else none
theorem qmN (k base : Nat) (A0 : Option Addr) (c0 : Nat) (rs : List qac) (mo : Int) (s : ByteArray) (rs2 : List qac) (mo2 : Int) (txt : ByteArray) (w : World) (hbase : base ≤ w.heap.size) (hR : Kd.R qaN 85 w base (fun _ => True) (.slice A0 rs.length c0) rs) (h : qd8.f k rs mo s = some (rs2, mo2, txt)) :
    Calls Tryz.prog 40 #[.agg #[.slice A0 rs.length c0, .int .i64 mo], .string s] w fun e w' => ∃ A2 c2, e = .returned (.tuple #[.agg #[.slice A2 rs2.length c2, .int .i64 mo2], .string txt]) ∧ Kd.R qaN 85 w' base (fun _ => True) (.slice A2 rs2.length c2) rs2 ∧ Below w.heap.size w w' := by
  have hu := Tryz.underlying81; have hu2 := Tryz.underlying28; have HO := ak_ hR; have HBS := ak_ hbase; have HB := ak_ (Below.refl w.heap.size w); clear hR hbase; unfold qd8.f at h; by_cases hl : rs.length < 8796093022208; rotate_left
  · rw [if_neg hl] at h
    exact absurd h (by simp)
  rw [if_pos hl] at h; have HLn := ak_ hl; clear hl; obtain ⟨r, AR, h⟩ := qaw h
  cases r with
  | none =>
    dsimp only at h; obtain ⟨rfl, rfl, rfl⟩ := qfI h; go_enter Tryz.func40, Tryz.ntmps40
    go_wp2_with (first | ((with_reducible refine qak (N := 2) rfl ?_); (try (refine qbH (by rfl) ?_; dsimp only)); refine qdH ?hg (N := 2) ?hd (cs := #[.slice A0 rs.length c0, .int .i64 mo]) (t := 28) ?hr ?_; (case hd => rfl); (case hg => rfl); (case hr => first | (go_simp; done) | (go_simp; rfl)); intro g2 hg w2 hbox hb; have B2 := ak_ hbox; have G2 := ak_ (show w.heap.size ≤ g2 from by rw [hg]; exact qab (by apply_rules only [HB.out, qai, qaf, qah])); replace HO := HO.mw hb; replace HB := ak_ (qaa (by apply_rules only [HB.out, qai, qaf, qah]) hb); obtain ⟨qpA, qpq⟩ := qcv B2.out; have qpB := qbB B2.out; have qpr := qad B2.out 1; clear hb hbox hg) | ((with_reducible refine qak (N := 4) rfl ?_); (try (refine qbH (by rfl) ?_; dsimp only)); refine qdH ?hg (N := 4) ?hd (cs := #[(.slice none 0 0), (.int .i64 0)]) (t := 28) ?hr ?_; (case hd => rfl); (case hg => rfl); (case hr => first | (go_simp; done) | (go_simp; rfl)); intro g4 hg w4 hbox hb; have B4 := ak_ hbox; have G4 := ak_ (show w.heap.size ≤ g4 from by rw [hg]; exact qab (by apply_rules only [HB.out, qai, qaf, qah])); have NE24 := ak_ (show g2 ≠ g4 from by rw [hg]; exact Nat.ne_of_lt (qdT (by apply_rules only [B2.out, qal, qan, qaj]))); replace B2 := B2.mw hb; replace HO := HO.mw hb; replace HB := ak_ (qaa (by apply_rules only [HB.out, qai, qaf, qah]) hb); obtain ⟨haw4_0, faw4_0⟩ := qcv B2.out; have haw4_1 := qbB B2.out; have faw4_1 := qad B2.out 1; clear hb hbox hg) | ((with_reducible refine qdD (f := 62) rfl ?_); (try (refine qbH (by rfl) ?_; dsimp only)); refine qgD (some 13) rfl rfl Tryz.func62 (by kernel_rfl) rfl #[.agg #[.slice A0 rs.length c0, .int .i64 mo], .string s] rfl (by (try simp only [List.map_toArray, List.map_cons, List.map_nil]); first | done | rfl) ?_; (refine (qhp k A0 c0 rs mo s _ _ AR.out).mono ?_); rintro e w13 ⟨x, A1, n1, c1, tx1, nn1, b, rfl, hc, hb⟩; refine ⟨_, rfl, ?_⟩; obtain rfl : b = false := (by rcases hc with ⟨-, h1_⟩ | ⟨c_, lr_, h1_, -⟩; (exact h1_); (exact absurd h1_ (by simp))); clear hc; replace B2 := B2.mw hb; replace B4 := B4.mw hb; replace HO := HO.mw hb; replace HB := ak_ (qaa (by apply_rules only [HB.out, qai, qaf, qah]) hb); clear hb) | ((with_reducible refine qak (N := 7) rfl ?_); (try (refine qbH (by rfl) ?_; dsimp only)); refine qdH ?hg (N := 7) ?hd (cs := #[(.slice none 0 0), (.int .i64 0), (.slice none 0 0), (.string (⟨#[]⟩ : ByteArray)), (.int .i64 0)]) (t := 81) ?hr ?_; (case hd => rfl); (case hg => rfl); (case hr => first | (go_simp; done) | (go_simp; rfl)); intro g7 hg w7 hbox hb; have B7 := ak_ hbox; have G7 := ak_ (show w.heap.size ≤ g7 from by rw [hg]; exact qab (by apply_rules only [HB.out, qai, qaf, qah])); have NE27 := ak_ (show g2 ≠ g7 from by rw [hg]; exact Nat.ne_of_lt (qdT (by apply_rules only [B2.out, qal, qan, qaj]))); have qp6 := ak_ (show g4 ≠ g7 from by rw [hg]; exact Nat.ne_of_lt (qdT (by apply_rules only [B4.out, qal, qan, qaj]))); have ne1_ : ¬ g7 = g2 := fun e_ => NE27.out e_.symm; have ne2_ := NE27.out; have ne3_ : ¬ g7 = g4 := fun e_ => qp6.out e_.symm; have ne4_ := qp6.out; have ne5_ := NE24.out; have ne6_ : ¬ g4 = g2 := fun e_ => NE24.out e_.symm; replace B2 := B2.mw hb; replace B4 := B4.mw hb; replace HO := HO.mw hb; replace HB := ak_ (qaa (by apply_rules only [HB.out, qai, qaf, qah]) hb); obtain ⟨qpC, qps⟩ := qcv B7.out; have qpD := qbB B7.out; have qpt := qad B7.out 1; have qpE := qfl B7.out; have qpu := qad B7.out 2; have qpF := qft B7.out; have qpv := qad B7.out 3; have qpG := qfu B7.out; have qpw := qad B7.out 4; obtain ⟨haw7_0, faw7_0⟩ := qcv B2.out; have haw7_1 := qbB B2.out; have faw7_1 := qad B2.out 1; obtain ⟨hzw7_0, fzw7_0⟩ := qcv B4.out; have hzw7_1 := qbB B4.out; have fzw7_1 := qad B4.out 1; have HRT := ak_ (Kd.qcH (Kd.qcH HO.out B4.out (by decide)) B7.out (by decide)); clear hb hbox hg))
    refine bodyPost_ret (qb5 (rs := [.cell 4 28, .tmp 5]) rfl (by simp) (.cell g4 28 #[(.slice A0 rs.length c0), (.int .i64 mo)] (0, 0) _ rfl (by apply ho_; (with_reducible repeat (first | exact B4.out | refine qal ?_ _ | refine qan ?_ | refine qaj ?_ _ | apply qeB | apply qcY (hp := qp6.out))); rfl) Tryz.underlying28 rfl (by kernel_rfl) (.tmp .nil))) rfl ?_; exact ⟨A0, c0, rfl, (Kd.qa8 (ok := fun k_ => (True ∧ k_ ≠ g4) ∧ k_ ≠ g7) (by with_reducible repeat (first | exact HRT.out | apply Kd.qaq | apply Kd.qar | apply Kd.qaC | refine Kd.qc7 (p := ⟨g7, _, none⟩) ?_ (fun _ hk => hk.2) _ | refine Kd.qc7 (p := ⟨g4, _, none⟩) ?_ (fun _ hk => hk.1.2) _)) (fun _ _ => trivial)), (by with_reducible repeat (first | exact HB.out | refine qap ?_ G7.out | refine qap ?_ G4.out | apply qai | apply qaf | apply qah))⟩
  | some q =>
    obtain ⟨c, lr, tx, n⟩ := q; dsimp only at h; by_cases hm : c.moves = true
    ·rw [if_pos hm] at h; have HF := ak_ h; clear h; have HM := ak_ (fun (w_ : World) (g_ : Nat) (h1_ : base ≤ w_.heap.size) (h2_ : qjQ w_ base g_ rs mo lr tx n) => qoR k base g_ rs mo lr tx n c rs2 mo2 txt w_ h1_ h2_ HLn.out HF.out)
     cases c <;> first | (exact absurd hm (by decide)) | (clear hm; go_enter Tryz.func40, Tryz.ntmps40; go_wp2_with (first | ((with_reducible refine qak (N := 2) rfl ?_); (try (refine qbH (by rfl) ?_; dsimp only)); refine qdH ?hg (N := 2) ?hd (cs := #[.slice A0 rs.length c0, .int .i64 mo]) (t := 28) ?hr ?_; (case hd => rfl); (case hg => rfl); (case hr => first | (go_simp; done) | (go_simp; rfl)); intro g2 hg w2 hbox hb; have B2 := ak_ hbox; have G2 := ak_ (show w.heap.size ≤ g2 from by rw [hg]; exact qab (by apply_rules only [HB.out, qai, qaf, qah])); replace HO := HO.mw hb; replace HB := ak_ (qaa (by apply_rules only [HB.out, qai, qaf, qah]) hb); obtain ⟨qpA, qpq⟩ := qcv B2.out; have qpB := qbB B2.out; have qpr := qad B2.out 1; clear hb hbox hg) | ((with_reducible refine qak (N := 4) rfl ?_); (try (refine qbH (by rfl) ?_; dsimp only)); refine qdH ?hg (N := 4) ?hd (cs := #[(.slice none 0 0), (.int .i64 0)]) (t := 28) ?hr ?_; (case hd => rfl); (case hg => rfl); (case hr => first | (go_simp; done) | (go_simp; rfl)); intro g4 hg w4 hbox hb; have B4 := ak_ hbox; have G4 := ak_ (show w.heap.size ≤ g4 from by rw [hg]; exact qab (by apply_rules only [HB.out, qai, qaf, qah])); have NE24 := ak_ (show g2 ≠ g4 from by rw [hg]; exact Nat.ne_of_lt (qdT (by apply_rules only [B2.out, qal, qan, qaj]))); replace B2 := B2.mw hb; replace HO := HO.mw hb; replace HB := ak_ (qaa (by apply_rules only [HB.out, qai, qaf, qah]) hb); obtain ⟨haw4_0, faw4_0⟩ := qcv B2.out; have haw4_1 := qbB B2.out; have faw4_1 := qad B2.out 1; clear hb hbox hg) | ((with_reducible refine qdD (f := 62) rfl ?_); (try (refine qbH (by rfl) ?_; dsimp only)); refine qgD (some 13) rfl rfl Tryz.func62 (by kernel_rfl) rfl #[.agg #[.slice A0 rs.length c0, .int .i64 mo], .string s] rfl (by (try simp only [List.map_toArray, List.map_cons, List.map_nil]); first | done | rfl) ?_; (refine (qhp k A0 c0 rs mo s _ _ AR.out).mono ?_); rintro e w13 ⟨x, A1, n1, c1, tx1, nn1, b, rfl, hc, hb⟩; refine ⟨_, rfl, ?_⟩; obtain ⟨rfl, rfl, rfl, rfl, rfl, hrl⟩ : x = Cmd.word _ ∧ b = true ∧ n1 = lr.length ∧ tx = tx1 ∧ n = nn1 ∧ Kd.R qaN 85 w13 _ (fun _ => True) (.slice A1 lr.length c1) lr := (by rcases hc with ⟨h1_, -⟩ | ⟨c_, lr_, h1_, h2_, h3_, h4_, h5_⟩; (exact absurd h1_ (by simp)); (obtain ⟨rfl, rfl, h6_, h7_⟩ := pj4_ h1_; exact ⟨h3_, h2_, h4_, h6_, h7_, h5_⟩)); have HL := ak_ (Kd.qau hrl (Nat.le_trans HBS.out (qab (by apply_rules only [HB.out, qai, qaf, qah])))); clear hc hrl; simp only [Cmd.word, Cmd.bytes] at HM; simp only [Cmd.word, Cmd.bytes]; replace B2 := B2.mw hb; replace B4 := B4.mw hb; replace HO := HO.mw hb; replace HB := ak_ (qaa (by apply_rules only [HB.out, qai, qaf, qah]) hb); clear hb) | ((with_reducible refine qak (N := 7) rfl ?_); (try (refine qbH (by rfl) ?_; dsimp only)); refine qdH ?hg (N := 7) ?hd (cs := #[(.slice none 0 0), (.int .i64 0), (.slice none 0 0), (.string (⟨#[]⟩ : ByteArray)), (.int .i64 0)]) (t := 81) ?hr ?_; (case hd => rfl); (case hg => rfl); (case hr => first | (go_simp; done) | (go_simp; rfl)); intro g7 hg w7 hbox hb; have B7 := ak_ hbox; have G7 := ak_ (show w.heap.size ≤ g7 from by rw [hg]; exact qab (by apply_rules only [HB.out, qai, qaf, qah])); have NE27 := ak_ (show g2 ≠ g7 from by rw [hg]; exact Nat.ne_of_lt (qdT (by apply_rules only [B2.out, qal, qan, qaj]))); have qp6 := ak_ (show g4 ≠ g7 from by rw [hg]; exact Nat.ne_of_lt (qdT (by apply_rules only [B4.out, qal, qan, qaj]))); have ne1_ : ¬ g7 = g2 := fun e_ => NE27.out e_.symm; have ne2_ := NE27.out; have ne3_ : ¬ g7 = g4 := fun e_ => qp6.out e_.symm; have ne4_ := qp6.out; have ne5_ := NE24.out; have ne6_ : ¬ g4 = g2 := fun e_ => NE24.out e_.symm; replace B2 := B2.mw hb; replace B4 := B4.mw hb; replace HO := HO.mw hb; replace HL := HL.mw hb; replace HB := ak_ (qaa (by apply_rules only [HB.out, qai, qaf, qah]) hb); obtain ⟨qpC, qps⟩ := qcv B7.out; have qpD := qbB B7.out; have qpt := qad B7.out 1; have qpE := qfl B7.out; have qpu := qad B7.out 2; have qpF := qft B7.out; have qpv := qad B7.out 3; have qpG := qfu B7.out; have qpw := qad B7.out 4; obtain ⟨haw7_0, faw7_0⟩ := qcv B2.out; have haw7_1 := qbB B2.out; have faw7_1 := qad B2.out 1; obtain ⟨hzw7_0, fzw7_0⟩ := qcv B4.out; have hzw7_1 := qbB B4.out; have fzw7_1 := qad B4.out 1; have HRT := ak_ (Kd.qcH (Kd.qcH HO.out B4.out (by decide)) B7.out (by decide)); have HLT := ak_ (Kd.qcH (Kd.qcH HL.out B4.out (by decide)) B7.out (by decide)); clear hb hbox hg) | ((with_reducible refine qdD (f := 63) rfl ?_); (try (refine qbH (by rfl) ?_; dsimp only)); refine qgD (some 31) rfl rfl Tryz.func63 (by kernel_rfl) rfl #[.pointer (some ⟨g7, 0, none⟩), _] rfl (by (try simp only [List.map_toArray, List.map_cons, List.map_nil]); first | done | rfl) ?_; (refine (HM.out _ g7 (Nat.le_trans HBS.out (qab (by with_reducible repeat (first | exact HB.out | refine qap ?_ G7.out | refine qap ?_ G4.out | apply qai | apply qaf | apply qah)))) ⟨A0, c0, A1, c1, (by apply ho_; (with_reducible repeat (first | exact B7.out | refine qal ?_ _ | refine qan ?_ | refine qaj ?_ _ | apply qeB)); rfl), (Kd.qa8 (ok := fun k_ => (True ∧ k_ ≠ g4) ∧ k_ ≠ g7) (by with_reducible repeat (first | exact HRT.out | apply Kd.qaq | apply Kd.qar | apply Kd.qaC | refine Kd.qc7 (p := ⟨g7, _, none⟩) ?_ (fun _ hk => hk.2) _ | refine Kd.qc7 (p := ⟨g4, _, none⟩) ?_ (fun _ hk => hk.1.2) _)) (fun _ _ => trivial)), (Kd.qa8 (ok := fun k_ => (True ∧ k_ ≠ g4) ∧ k_ ≠ g7) (by with_reducible repeat (first | exact HLT.out | apply Kd.qaq | apply Kd.qar | apply Kd.qaC | refine Kd.qc7 (p := ⟨g7, _, none⟩) ?_ (fun _ hk => hk.2) _ | refine Kd.qc7 (p := ⟨g4, _, none⟩) ?_ (fun _ hk => hk.1.2) _)) (fun _ _ => trivial))⟩).mono ?_); rintro e w31 ⟨rfl, hD, hk⟩; refine ⟨_, rfl, ?_⟩; have hB4 := qeA.blk (o := .cells #[(.slice none 0 0), (.int .i64 0)] 28 (0, 0)) hk.1 (by (with_reducible repeat (first | refine qal ?_ _ | refine qan ?_ | refine qaj ?_ _ | refine qcY ?_ (by exact qp6.out) _)); exact B4.out) qp6.out (by simp); have hB2 := qcu.below (by with_reducible repeat (first | exact HB.out | refine qap ?_ G7.out | refine qap ?_ G4.out | apply qai | apply qaf | apply qah)) hk G7.out (qab (by with_reducible repeat (first | exact HB.out | refine qap ?_ G7.out | refine qap ?_ G4.out | apply qai | apply qaf | apply qah))); clear B4 HB B7 B2 HO HL HRT HLT; have B4 := ak_ hB4; have HB := ak_ hB2; clear hB4 hB2; obtain ⟨A2, c2, A3, c3, hC_, hO_, -⟩ := hD; have B7 := ak_ hC_; have HO := ak_ hO_; have HRT := ak_ (Kd.qcH (Kd.qcH HO.out B4.out (by decide)) B7.out (by decide)); clear hC_ hO_ hk; obtain ⟨hbw31_0, fbw31_0⟩ := qcv B7.out; have hbw31_1 := qbB B7.out; have fbw31_1 := qad B7.out 1; obtain ⟨hzw31_0, fzw31_0⟩ := qcv B4.out; have hzw31_1 := qbB B4.out; have fzw31_1 := qad B4.out 1)); refine bodyPost_ret (qb5 (rs := [.cell 4 28, .tmp 5]) rfl (by simp) (.cell g4 28 #[(.slice A2 rs2.length c2), (.int .i64 mo2)] (0, 0) _ rfl (by apply ho_; (with_reducible repeat (first | exact B4.out | refine qal ?_ _ | refine qan ?_ | refine qaj ?_ _ | apply qeB)); rfl) Tryz.underlying28 rfl (by kernel_rfl) (.tmp .nil))) rfl ?_; exact ⟨A2, c2, rfl, (Kd.qa8 (ok := fun k_ => (True ∧ k_ ≠ g4) ∧ k_ ≠ g7) (by with_reducible repeat (first | exact HRT.out | apply Kd.qaq | apply Kd.qar | apply Kd.qaC | refine Kd.qc7 (p := ⟨g7, _, none⟩) ?_ (fun _ hk => hk.2) _ | refine Kd.qc7 (p := ⟨g4, _, none⟩) ?_ (fun _ hk => hk.1.2) _)) (fun _ _ => trivial)), (by with_reducible repeat (first | exact HB.out | refine qap ?_ G7.out | refine qap ?_ G4.out | apply qai | apply qaf | apply qah))⟩)
    rw [if_neg hm] at h; obtain ⟨z, HF, h⟩ := qaw h; obtain ⟨rfl, rfl, rfl⟩ := qfI h
    have n0 : (c.word.toList == ([114, 117, 108, 101, 115] : List UInt8)) = false := by rw [toList_data]; cases c <;> first | rfl | (exact absurd rfl hm)
    have n1 : (c.word.toList == ([97, 100, 100] : List UInt8)) = false := by rw [toList_data]; cases c <;> first | rfl | (exact absurd rfl hm)
    have n2 : (c.word.toList == ([100, 114, 111, 112] : List UInt8)) = false := by rw [toList_data]; cases c <;> first | rfl | (exact absurd rfl hm)
    have n3 : (c.word.toList == ([109, 111, 115, 116] : List UInt8)) = false := by rw [toList_data]; cases c <;> first | rfl | (exact absurd rfl hm)
    have n4 : (c.word.toList == ([109, 111, 118, 101] : List UInt8)) = false := by rw [toList_data]; cases c <;> first | rfl | (exact absurd rfl hm)
    have n5 : (c.word.toList == ([109, 105, 114, 114, 111, 114] : List UInt8)) = false := by rw [toList_data]; cases c <;> first | rfl | (exact absurd rfl hm)
    have n6 : (c.word.toList == ([116, 105, 100, 121] : List UInt8)) = false := by rw [toList_data]; cases c <;> first | rfl | (exact absurd rfl hm)
    have n7 : (c.word.toList == ([112, 114, 105, 109, 101, 115] : List UInt8)) = false := by rw [toList_data]; cases c <;> first | rfl | (exact absurd rfl hm)
    clear hm; go_enter Tryz.func40, Tryz.ntmps40
    go_wp2_with (first | ((with_reducible refine qak (N := 2) rfl ?_); (try (refine qbH (by rfl) ?_; dsimp only)); refine qdH ?hg (N := 2) ?hd (cs := #[.slice A0 rs.length c0, .int .i64 mo]) (t := 28) ?hr ?_; (case hd => rfl); (case hg => rfl); (case hr => first | (go_simp; done) | (go_simp; rfl)); intro g2 hg w2 hbox hb; have B2 := ak_ hbox; have G2 := ak_ (show w.heap.size ≤ g2 from by rw [hg]; exact qab (by apply_rules only [HB.out, qai, qaf, qah])); replace HO := HO.mw hb; replace HB := ak_ (qaa (by apply_rules only [HB.out, qai, qaf, qah]) hb); obtain ⟨qpA, qpq⟩ := qcv B2.out; have qpB := qbB B2.out; have qpr := qad B2.out 1; clear hb hbox hg) | ((with_reducible refine qak (N := 4) rfl ?_); (try (refine qbH (by rfl) ?_; dsimp only)); refine qdH ?hg (N := 4) ?hd (cs := #[(.slice none 0 0), (.int .i64 0)]) (t := 28) ?hr ?_; (case hd => rfl); (case hg => rfl); (case hr => first | (go_simp; done) | (go_simp; rfl)); intro g4 hg w4 hbox hb; have B4 := ak_ hbox; have G4 := ak_ (show w.heap.size ≤ g4 from by rw [hg]; exact qab (by apply_rules only [HB.out, qai, qaf, qah])); have NE24 := ak_ (show g2 ≠ g4 from by rw [hg]; exact Nat.ne_of_lt (qdT (by apply_rules only [B2.out, qal, qan, qaj]))); replace B2 := B2.mw hb; replace HO := HO.mw hb; replace HB := ak_ (qaa (by apply_rules only [HB.out, qai, qaf, qah]) hb); obtain ⟨haw4_0, faw4_0⟩ := qcv B2.out; have haw4_1 := qbB B2.out; have faw4_1 := qad B2.out 1; clear hb hbox hg) | ((with_reducible refine qdD (f := 62) rfl ?_); (try (refine qbH (by rfl) ?_; dsimp only)); refine qgD (some 13) rfl rfl Tryz.func62 (by kernel_rfl) rfl #[.agg #[.slice A0 rs.length c0, .int .i64 mo], .string s] rfl (by (try simp only [List.map_toArray, List.map_cons, List.map_nil]); first | done | rfl) ?_; (refine (qhp k A0 c0 rs mo s _ _ AR.out).mono ?_); rintro e w13 ⟨x, A1, n1, c1, tx1, nn1, b, rfl, hc, hb⟩; refine ⟨_, rfl, ?_⟩; obtain ⟨rfl, rfl, rfl, rfl, rfl, hrl⟩ : x = c.word ∧ b = true ∧ n1 = lr.length ∧ tx = tx1 ∧ n = nn1 ∧ Kd.R qaN 85 w13 _ (fun _ => True) (.slice A1 lr.length c1) lr := (by rcases hc with ⟨h1_, -⟩ | ⟨c_, lr_, h1_, h2_, h3_, h4_, h5_⟩; (exact absurd h1_ (by simp)); (obtain ⟨rfl, rfl, h6_, h7_⟩ := pj4_ h1_; exact ⟨h3_, h2_, h4_, h6_, h7_, h5_⟩)); have HL := ak_ (Kd.qau hrl (Nat.le_trans HBS.out (qab (by apply_rules only [HB.out, qai, qaf, qah])))); clear hc hrl; replace B2 := B2.mw hb; replace B4 := B4.mw hb; replace HO := HO.mw hb; replace HB := ak_ (qaa (by apply_rules only [HB.out, qai, qaf, qah]) hb); clear hb) | ((with_reducible refine qak (N := 7) rfl ?_); (try (refine qbH (by rfl) ?_; dsimp only)); refine qdH ?hg (N := 7) ?hd (cs := #[(.slice none 0 0), (.int .i64 0), (.slice none 0 0), (.string (⟨#[]⟩ : ByteArray)), (.int .i64 0)]) (t := 81) ?hr ?_; (case hd => rfl); (case hg => rfl); (case hr => first | (go_simp; done) | (go_simp; rfl)); intro g7 hg w7 hbox hb; have B7 := ak_ hbox; have G7 := ak_ (show w.heap.size ≤ g7 from by rw [hg]; exact qab (by apply_rules only [HB.out, qai, qaf, qah])); have NE27 := ak_ (show g2 ≠ g7 from by rw [hg]; exact Nat.ne_of_lt (qdT (by apply_rules only [B2.out, qal, qan, qaj]))); have qp6 := ak_ (show g4 ≠ g7 from by rw [hg]; exact Nat.ne_of_lt (qdT (by apply_rules only [B4.out, qal, qan, qaj]))); have ne1_ : ¬ g7 = g2 := fun e_ => NE27.out e_.symm; have ne2_ := NE27.out; have ne3_ : ¬ g7 = g4 := fun e_ => qp6.out e_.symm; have ne4_ := qp6.out; have ne5_ := NE24.out; have ne6_ : ¬ g4 = g2 := fun e_ => NE24.out e_.symm; replace B2 := B2.mw hb; replace B4 := B4.mw hb; replace HO := HO.mw hb; replace HL := HL.mw hb; replace HB := ak_ (qaa (by apply_rules only [HB.out, qai, qaf, qah]) hb); obtain ⟨qpC, qps⟩ := qcv B7.out; have qpD := qbB B7.out; have qpt := qad B7.out 1; have qpE := qfl B7.out; have qpu := qad B7.out 2; have qpF := qft B7.out; have qpv := qad B7.out 3; have qpG := qfu B7.out; have qpw := qad B7.out 4; obtain ⟨haw7_0, faw7_0⟩ := qcv B2.out; have haw7_1 := qbB B2.out; have faw7_1 := qad B2.out 1; obtain ⟨hzw7_0, fzw7_0⟩ := qcv B4.out; have hzw7_1 := qbB B4.out; have fzw7_1 := qad B4.out 1; have HRT := ak_ (Kd.qcH (Kd.qcH HO.out B4.out (by decide)) B7.out (by decide)); have HLT := ak_ (Kd.qcH (Kd.qcH HL.out B4.out (by decide)) B7.out (by decide)); clear hb hbox hg))
    go_region_law (go_simp; go_at_call 64; refine (qn7 k base g7 rs mo lr tx n c z _ (Nat.le_trans HBS.out (qab (by with_reducible repeat (first | exact HB.out | refine qap ?_ G7.out | refine qap ?_ G4.out | apply qai | apply qaf | apply qah)))) ⟨A0, c0, A1, c1, (by apply ho_; (with_reducible repeat (first | exact B7.out | refine qal ?_ _ | refine qan ?_ | refine qaj ?_ _ | apply qeB)); rfl), (Kd.qa8 (ok := fun k_ => (True ∧ k_ ≠ g4) ∧ k_ ≠ g7) (by with_reducible repeat (first | exact HRT.out | apply Kd.qaq | apply Kd.qar | apply Kd.qaC | refine Kd.qc7 (p := ⟨g7, _, none⟩) ?_ (fun _ hk => hk.2) _ | refine Kd.qc7 (p := ⟨g4, _, none⟩) ?_ (fun _ hk => hk.1.2) _)) (fun _ _ => trivial)), (Kd.qa8 (ok := fun k_ => (True ∧ k_ ≠ g4) ∧ k_ ≠ g7) (by with_reducible repeat (first | exact HLT.out | apply Kd.qaq | apply Kd.qar | apply Kd.qaC | refine Kd.qc7 (p := ⟨g7, _, none⟩) ?_ (fun _ hk => hk.2) _ | refine Kd.qc7 (p := ⟨g4, _, none⟩) ?_ (fun _ hk => hk.1.2) _)) (fun _ _ => trivial))⟩ HF.out).mono ?_; rintro e w37 ⟨rfl, hb⟩; have HRT2 := ak_ (Kd.qbx (show Kd.R qaN 85 _ base (fun k_ => (True ∧ k_ ≠ g4) ∧ k_ ≠ g7) (.slice A0 rs.length c0) rs from (by with_reducible repeat (first | exact HRT.out | apply Kd.qaq | apply Kd.qar | apply Kd.qaC | refine Kd.qc7 (p := ⟨g7, _, none⟩) ?_ (fun _ hk => hk.2) _))) hb); have hB4 := qao (o := .cells #[(.slice none 0 0), (.int .i64 0)] 28 (0, 0)) (by with_reducible (repeat (first | exact B4.out | refine qcY ?_ qp6.out _ | exact qan (by with_reducible (repeat (first | exact B4.out | refine qcY ?_ qp6.out _)))))) hb; have hB2 := qao (o := .cells #[(.slice A0 rs.length c0), (.int .i64 mo)] 28 (0, 0)) (by with_reducible (repeat (first | exact B2.out | refine qcY ?_ NE27.out _ | exact qan (by with_reducible (repeat (first | exact B2.out | refine qcY ?_ NE27.out _)))))) hb; have hBB := qaa (by with_reducible repeat (first | exact HB.out | refine qap ?_ G7.out | refine qap ?_ G4.out | apply qai | apply qaf | apply qah)) hb; clear B4 B2 B7 HB HO HL HRT HLT hb; have HRT := HRT2; have B4 := ak_ hB4; have B2 := ak_ hB2; have HB := ak_ hBB; clear HRT2 hB4 hB2 hBB; obtain ⟨haw37_0, faw37_0⟩ := qcv B2.out; have haw37_1 := qbB B2.out; have faw37_1 := qad B2.out 1; obtain ⟨hzw37_0, fzw37_0⟩ := qcv B4.out; have hzw37_1 := qbB B4.out; have fzw37_1 := qad B4.out 1)
    all_goals (go_wp2; refine bodyPost_ret (qb5 (rs := [.cell 4 28, .tmp 5]) rfl (by simp) (.cell g4 28 #[(.slice A0 rs.length c0), (.int .i64 mo)] (0, 0) _ rfl (by apply ho_; (with_reducible repeat (first | exact B4.out | refine qal ?_ _ | refine qan ?_ | refine qaj ?_ _ | apply qeB)); rfl) Tryz.underlying28 rfl (by kernel_rfl) (.tmp .nil))) rfl ?_; exact ⟨A0, c0, rfl, (Kd.qa8 (ok := fun k_ => (True ∧ k_ ≠ g4) ∧ k_ ≠ g7) (by with_reducible repeat (first | exact HRT.out | apply Kd.qaq | apply Kd.qar | apply Kd.qaC | refine Kd.qc7 (p := ⟨g7, _, none⟩) ?_ (fun _ hk => hk.2) _ | refine Kd.qc7 (p := ⟨g4, _, none⟩) ?_ (fun _ hk => hk.1.2) _)) (fun _ _ => trivial)), (by with_reducible repeat (first | exact HB.out | refine qap ?_ G7.out | refine qap ?_ G4.out | apply qai | apply qaf | apply qah))⟩)
def qdO.f (k : Nat)  : Option ((List (qac)) × Int) := (qcj.f k 2).bind fun qaI => (some (qaI, 30))
theorem qdO.calls (k : Nat)  (r1 : List (qac)) (r2 : Int) (w : World) (h : qdO.f k  = some (r1, r2)) :
  Calls Tryz.prog 91 #[] w fun e w' => ∃ v0_ : Value, e = .returned (.agg #[v0_, .int .i64 r2]) ∧ Kd.R qaN 85 w' w.heap.size (fun _ => True) v0_ r1 ∧ Below w.heap.size w w' := by
 have hu28 := Tryz.underlying28; have HB := ak_ (Below.refl w.heap.size w); have H : ((qcj.f k 2).bind fun qaI => (some (qaI, 30))) = some (r1, r2) := h; clear h; obtain ⟨qaI, A1, H⟩ := qaw H; (try dsimp only at H); obtain ⟨rfl, rfl⟩ := qdI H; go_enter Tryz.func91, Tryz.ntmps91
 go_wp2_with (first | ((with_reducible refine qak (N := 0) rfl ?_); refine bx_ 0 rfl (cs := #[.slice none 0 0, .int .i64 0]) (t := 28) qbb ?_; intro qb8 hg w2 hbox hb; have qaF := ak_ (hbox); have qeJ := ak_ (HB.ge hg); have qen := ak_ (HB.ge hg); replace HB := HB.mw hb; clear hb hbox hg) | (refine gl_ 1 Tryz.func143 #[.int .i64 2] rfl qbK ?_; (with_reducible refine (qcj.calls k 2 qaI _ A1.out).mono ?_); rintro e w3 ⟨qhg, rfl, ho0, hb⟩; refine ⟨_, rfl, ?_⟩; have qbW := ak_ (Kd.qau ho0 (qab qdt)); replace qaF := qaF.mw hb; replace HB := ak_ (qaa qdt hb); (try clear hb ho0); obtain ⟨Ao4, co4, eo4⟩ := Kd.qaJ qbW.out; subst eo4; obtain ⟨qrK, qrL, qrS, qrT⟩ := qbG qaF.out))
 refine bodyPost_ret (results_cell_row rfl _ _ qb8 28 #[.slice Ao4 qaI.length co4, .int .i64 30] (0, 0) _ rfl k5_ Tryz.underlying28 rfl (by kernel_rfl)) rfl ?_; exact ⟨_, qce, by (with_reducible repeat (first | apply Kd.qaq | apply Kd.qar | apply Kd.qaC)); exact Kd.qa8 (Kd.qc7 (p := ⟨qb8, 1, none⟩) (Kd.qc7 (p := ⟨qb8, 0, none⟩) (Kd.qcH qbW.out qaF.out (by decide)) (fun _ hk => hk.2) (.slice Ao4 qaI.length co4)) (fun _ hk => hk.2) (.int .i64 30)) (fun _ hk => trivial), qdt⟩
def qcG.l0 (k : Nat) : List ByteArray → List qac → Int → List ByteArray → Option (List qac × Int × List ByteArray × Bool)
  | [], rs, mo, out => some (rs, mo, out, true)
  | y :: t, rs, mo, out => (qd8.f k rs mo y).bind fun p => qcG.l0 k t p.1 p.2.1 (out ++ [p.2.2])
def qcG.f (k : Nat) (s : ByteArray) : Option (List qac × Int × List ByteArray × Bool) := if s.size ≤ 3000 then ((qbi.f k s 10).bind fun ws => if ws.length ≤ 1048577 then (match ws.getLast? with
  | none => none
  | some last => if last.toList = [] then (if ws.length ≤ 51 then ((qdO.f k).bind fun d => qcG.l0 k (ws.take (ws.length - 1)) d.1 d.2 []) else some ([], 0, [], false)) else some ([], 0, [], false)) else none) else some ([], 0, [], false)
theorem qqv {P : Program} {ops : Array Oper} {rest : List Oper} {a : Act} {Q : Exit → Act → World → Prop} {W : World} {c} (h : ∀ W' : World, W' = W → W'.heap.size = W.heap.size → wpList P ops Q rest a (W'.alloc c)) : wpList P ops Q rest a (W.alloc c) := h W rfl rfl
theorem qcG.calls (k : Nat) (s : ByteArray) (r1 : List qac) (r2 : Int) (r3 : List ByteArray) (r4 : Bool) (w : World) (h : qcG.f k s = some (r1, r2, r3, r4)) :
    Calls Tryz.prog 57 #[.string s] w fun e w' => ∃ v0_ v1_ : Value, e = .returned (.tuple #[.agg #[v0_, .int .i64 r2], v1_, .bool r4]) ∧ Kd.R qaN 85 w' w.heap.size (fun _ => True) v0_ r1 ∧ Kd.R Kd.string 9 w' w.heap.size (fun _ => True) v1_ r3 ∧ Below w.heap.size w w' := by
  have hu := Tryz.underlying28; obtain ⟨i0_, qnL, _, hsz_, _⟩ := info_parts ql7; have HB := ak_ (Below.refl w.heap.size w); unfold qcG.f at h; by_cases hs : s.size ≤ 3000; rotate_left
  ·rw [if_neg hs] at h; have hsb : decide (3000 < (s.size : Int)) = true := decide_eq_true (by omega); have hsc : decide (3000 < s.size) = true := decide_eq_true (by omega); clear hs; obtain ⟨rfl, rfl, rfl, rfl⟩ := pj4_ h; go_enter Tryz.func57, Tryz.ntmps57
   go_wp2_with (first | ((with_reducible refine qak (N := 2) rfl ?_); refine bx_ 2 rfl (cs := #[(.slice none 0 0), (.int .i64 0)]) (t := 28) qbb ?_; intro g2 hg w2 hbox hb; have B2 := ak_ hbox; have G2 := ak_ (show w.heap.size ≤ g2 from qsi); replace HB := ak_ (qaa qam hb); obtain ⟨qr7, qrB⟩ := qcv B2.out; have qr8 := qbB B2.out; have qrC := qad B2.out 1; clear hb hbox hg))
   refine bodyPost_ret (qb5 (rs := [.cell 2 28, .tmp 3, .tmp 4]) rfl (by simp) (.cell g2 28 #[(.slice none 0 0), (.int .i64 0)] (0, 0) _ rfl k51_ Tryz.underlying28 rfl (by kernel_rfl) (.tmp (.tmp .nil)))) rfl ?_; exact ⟨_, _, rfl, Kd.qfO _ _ _ _ _, Kd.qfO _ _ _ _ _, k57_⟩
  rw [if_pos hs] at h; have hsb : decide (3000 < (s.size : Int)) = false := decide_eq_false (by omega); have hsc : decide (3000 < s.size) = false := decide_eq_false (by omega); clear hs; obtain ⟨ws, A1, h⟩ := qaw h; by_cases hwm : ws.length ≤ 1048577; rotate_left
  · rw [if_neg hwm] at h
    exact absurd h (by simp)
  rw [if_pos hwm] at h
  cases hla : ws.getLast? with
  | none => rw [hla] at h; exact absurd h (by simp)
  | some last =>
    rw [hla] at h; dsimp only at h
    have hwp : 0 < ws.length := by cases ws with | nil => cases hla | cons a b => simp
    have HWP := ak_ hwp
    obtain ⟨m, hm⟩ : ∃ m, m = ws.length - 1 := ⟨_, rfl⟩
    have HM := ak_ hm; have HLA := ak_ (show ws[m]? = some last from by rw [hm, ← List.getLast?_eq_getElem?]; exact hla); rw [← hm] at h
    have hml : (ws.length : Int) - 1 = (m : Int) := by omega
    have hmw : wrap64 ((ws.length : Int) - 1) = (m : Int) := by unfold wrap64; omega
    have hmi : IntKind.i64.wrap ((ws.length : Int) - 1) = (m : Int) := by rw [qcF]; exact hmw
    have hm0 : (0 : Int) ≤ (m : Int) := by omega
    have hm1 : (m : Int) < (ws.length : Int) := by omega
    have HWM := ak_ hwm; clear hla hwp hm; by_cases hd : last.toList = []; rotate_left
    ·rw [if_neg hd] at h; have hdb : (last.toList != []) = true := bne_iff_ne.2 hd; have hdc : (last.toList == []) = false := beq_eq_false_iff_ne.2 hd; obtain ⟨rfl, rfl, rfl, rfl⟩ := pj4_ h; clear hd hml hwm; go_enter Tryz.func57, Tryz.ntmps57
     go_wp2_with (first | ((with_reducible refine qak (N := 2) rfl ?_); refine bx_ 2 rfl (cs := #[(.slice none 0 0), (.int .i64 0)]) (t := 28) qbb ?_; intro g2 hg w2 hbox hb; have B2 := ak_ hbox; have G2 := ak_ (show w.heap.size ≤ g2 from qsi); replace HB := ak_ (qaa qam hb); obtain ⟨qr7, qrB⟩ := qcv B2.out; have qr8 := qbB B2.out; have qrC := qad B2.out 1; clear hb hbox hg) | (refine gl_ 18 Tryz.func39 #[.string s, .int .u8 10] rfl qb1 ?_; (refine (qbi.calls k s 10 ws _ A1.out).mono ?_); rintro e w18 ⟨vw, rfl, how, hb⟩; refine ⟨_, rfl, ?_⟩; have HW := ak_ (Kd.qau how (qab qam)); replace B2 := B2.mw hb; replace HB := ak_ (qaa qam hb); obtain ⟨gw, cw, ew, -⟩ := Kd.qeX HW.out HWP.out; subst ew; have hcut_ := qj0 (P := Tryz.prog) 43 9 .i64 Tryz.underlying43 qnL (some ⟨gw, 0, none⟩) ws.length cw (m : Int) (by omega) (by have := HM.out; omega) (Kd.R_reads' HW.out).2.1; rw [Int.toNat_natCast] at hcut_; have hl18 : w18.cell? ⟨gw, m, none⟩ = some (.string last) := qcP HW.out m last HLA.out; have HB3 := ak_ (Below.refl w18.heap.size w18); obtain ⟨qr5, qrz⟩ := qcv B2.out; have qr6 := qbB B2.out; have qrA := qad B2.out 1; clear how hb))
     refine bodyPost_ret (qb5 (rs := [.cell 2 28, .tmp 3, .tmp 4]) rfl (by simp) (.cell g2 28 #[(.slice none 0 0), (.int .i64 0)] (0, 0) _ rfl k51_ Tryz.underlying28 rfl (by kernel_rfl) (.tmp (.tmp .nil)))) rfl ?_; exact ⟨_, _, rfl, Kd.qfO _ _ _ _ _, Kd.qfO _ _ _ _ _, k57_⟩
    rw [if_pos hd] at h; have hdb : (last.toList != []) = false := bne_eq_false_iff_eq.2 hd; have hdc : (last.toList == []) = true := beq_iff_eq.2 hd; by_cases hl : ws.length ≤ 51; rotate_left
    ·rw [if_neg hl] at h; have hlb : decide (50 < (m : Int)) = true := decide_eq_true (by omega); have hlc : decide (50 < m) = true := decide_eq_true (by omega); obtain ⟨rfl, rfl, rfl, rfl⟩ := pj4_ h; clear hd hl hml hwm; go_enter Tryz.func57, Tryz.ntmps57
     go_wp2_with (first | ((with_reducible refine qak (N := 2) rfl ?_); refine bx_ 2 rfl (cs := #[(.slice none 0 0), (.int .i64 0)]) (t := 28) qbb ?_; intro g2 hg w2 hbox hb; have B2 := ak_ hbox; have G2 := ak_ (show w.heap.size ≤ g2 from qsi); replace HB := ak_ (qaa qam hb); obtain ⟨qr7, qrB⟩ := qcv B2.out; have qr8 := qbB B2.out; have qrC := qad B2.out 1; clear hb hbox hg) | (refine gl_ 18 Tryz.func39 #[.string s, .int .u8 10] rfl qb1 ?_; (refine (qbi.calls k s 10 ws _ A1.out).mono ?_); rintro e w18 ⟨vw, rfl, how, hb⟩; refine ⟨_, rfl, ?_⟩; have HW := ak_ (Kd.qau how (qab qam)); replace B2 := B2.mw hb; replace HB := ak_ (qaa qam hb); obtain ⟨gw, cw, ew, -⟩ := Kd.qeX HW.out HWP.out; subst ew; have hcut_ := qj0 (P := Tryz.prog) 43 9 .i64 Tryz.underlying43 qnL (some ⟨gw, 0, none⟩) ws.length cw (m : Int) (by omega) (by have := HM.out; omega) (Kd.R_reads' HW.out).2.1; rw [Int.toNat_natCast] at hcut_; have hl18 : w18.cell? ⟨gw, m, none⟩ = some (.string last) := qcP HW.out m last HLA.out; have HB3 := ak_ (Below.refl w18.heap.size w18); obtain ⟨qr5, qrz⟩ := qcv B2.out; have qr6 := qbB B2.out; have qrA := qad B2.out 1; clear how hb))
     refine bodyPost_ret (qb5 (rs := [.cell 2 28, .tmp 3, .tmp 4]) rfl (by simp) (.cell g2 28 #[(.slice none 0 0), (.int .i64 0)] (0, 0) _ rfl k51_ Tryz.underlying28 rfl (by kernel_rfl) (.tmp (.tmp .nil)))) rfl ?_; exact ⟨_, _, rfl, Kd.qfO _ _ _ _ _, Kd.qfO _ _ _ _ _, k57_⟩
    rw [if_pos hl] at h; obtain ⟨⟨rs0, mo0⟩, AF, h⟩ := qaw h; dsimp only at h; have hlb : decide (50 < (m : Int)) = false := decide_eq_false (by have := HM.out; omega); have hlc : decide (50 < m) = false := decide_eq_false (by have := HM.out; omega); have HM51 := ak_ (show m ≤ 50 from by have := HM.out; omega); have H' := ak_ h; clear h hd hl hml hwm; go_enter Tryz.func57, Tryz.ntmps57
    go_wp2_with (first | ((with_reducible refine qak (N := 2) rfl ?_); refine bx_ 2 rfl (cs := #[(.slice none 0 0), (.int .i64 0)]) (t := 28) qbb ?_; intro g2 hg w2 hbox hb; have B2 := ak_ hbox; have G2 := ak_ (show w.heap.size ≤ g2 from qsi); replace HB := ak_ (qaa qam hb); obtain ⟨qr7, qrB⟩ := qcv B2.out; have qr8 := qbB B2.out; have qrC := qad B2.out 1; clear hb hbox hg) | (refine gl_ 18 Tryz.func39 #[.string s, .int .u8 10] rfl qb1 ?_; (refine (qbi.calls k s 10 ws _ A1.out).mono ?_); rintro e w18 ⟨vw, rfl, how, hb⟩; refine ⟨_, rfl, ?_⟩; have HW := ak_ (Kd.qau how (qab qam)); replace B2 := B2.mw hb; replace HB := ak_ (qaa qam hb); obtain ⟨gw, cw, ew, -⟩ := Kd.qeX HW.out HWP.out; subst ew; have hcut_ := qj0 (P := Tryz.prog) 43 9 .i64 Tryz.underlying43 qnL (some ⟨gw, 0, none⟩) ws.length cw (m : Int) (by omega) (by have := HM.out; omega) (Kd.R_reads' HW.out).2.1; rw [Int.toNat_natCast] at hcut_; have hl18 : w18.cell? ⟨gw, m, none⟩ = some (.string last) := qcP HW.out m last HLA.out; have HB3 := ak_ (Below.refl w18.heap.size w18); obtain ⟨qr5, qrz⟩ := qcv B2.out; have qr6 := qbB B2.out; have qrA := qad B2.out 1; clear how hb) | (refine gl_ 32 Tryz.func91 #[] rfl qb1 ?_; (refine (qdO.calls k rs0 mo0 _ AF.out).mono ?_); rintro e w32 ⟨v0, rfl, ho, hb⟩; refine ⟨_, rfl, ?_⟩; have HO := ak_ (Kd.qau ho (qab k49_)); replace HB3 := ak_ (qaa k49_ hb); obtain ⟨A0, c0, eo⟩ := Kd.qaJ HO.out; subst eo; clear ho hb) | ((with_reducible refine qak (N := 7) rfl ?_); refine bx_ 7 rfl (cs := #[(.slice none 0 0), (.int .i64 0)]) (t := 28) qbb ?_; intro g7 hg w7 hbox hb; have B7 := ak_ hbox; have G7 := ak_ (show w18.heap.size ≤ g7 from by rw [hg]; exact qab k49_); replace HO := HO.mw hb; replace HB3 := ak_ (qaa k49_ hb); obtain ⟨hdw7_0, fdw7_0⟩ := qcv B7.out; have hdw7_1 := qbB B7.out; have fdw7_1 := qad B7.out 1; have HRT := ak_ (Kd.qcH HO.out B7.out (by decide)); clear hb hbox hg))
    have HB18 := HB; have B2w := B2
    go_loopg [8, 37] m (fun kq v8 v37 w' => ∃ (j : Nat) (qfS : List ByteArray) (rs : List qac) (mo : Int), v37 = .int .i64 (j : Int) ∧ qag (j ≤ m) ∧ qag (qcG.l0 k ((ws.take m).drop j) rs mo qfS = some (r1, r2, r3, r4)) ∧ qag (m - j ≤ kq) ∧ qag (qfS.length = j) ∧ qag (qfD w' w18.heap.size g7 rs mo) ∧ qag (Kd.R Kd.string 9 w' w18.heap.size (fun _ => True) v8 qfS) ∧ qag (Below w18.heap.size w18 w'))
    case atStart => exact ⟨0, [], rs0, mo0, by first | rfl | go_num, ⟨Nat.zero_le _⟩, H', ⟨Nat.le_refl _⟩, ⟨rfl⟩, ⟨A0, c0, (by apply ho_; (with_reducible repeat (first | exact B7.out | refine qal ?_ _ | refine qan ?_ | refine qaj ?_ _ | apply qeB)); rfl), (Kd.qa8 (ok := fun k_ => True ∧ k_ ≠ g7) (by with_reducible repeat (first | exact HRT.out | apply Kd.qaq | apply Kd.qar | apply Kd.qaC | refine Kd.qc7 (p := ⟨g7, _, none⟩) ?_ (fun _ hk => hk.2) _)) (fun _ _ => trivial))⟩, ⟨Kd.qfO _ _ _ _ _⟩, ⟨(by with_reducible repeat (first | exact HB3.out | refine qap ?_ G7.out | apply qai | apply qaf | apply qah))⟩⟩
    case round =>
      clear H' B7 HO HRT HB3 HB B2 hmw hmi; obtain ⟨j, qfS, rs, mo, rfl, HJ, HA, HK1, HLO, HD, HO8, HB3⟩ := hrel; obtain ⟨A0, c0, hC7, hO7⟩ := HD.out; have B7 := ak_ hC7; have HO := ak_ hO7; clear hC7 hO7 HD; obtain ⟨hdwr_0, fdwr_0⟩ := qcv B7.out; have hdwr_1 := qbB B7.out; have fdwr_1 := qad B7.out 1; obtain ⟨A8, c8, e8⟩ := Kd.qaJ HO8.out; subst e8; have H := HA.out; clear HA; by_cases hj : j < m
      ·have hjb : decide ((j : Int) < (m : Int)) = true := decide_eq_true (by omega); have hjc : decide (j < m) = true := decide_eq_true hj
       have hjd : (j : Int) < (m : Int) := by omega
       have hj0 : (0 : Int) ≤ (j : Int) := by omega
       have hjl : j < (ws.take m).length := by rw [List.length_take]; have := HM.out; omega
       obtain ⟨y, hy⟩ : ∃ y, y = (ws.take m)[j] := ⟨_, rfl⟩
       rw [List.drop_eq_getElem_cons hjl, ← hy] at H
       have hyj : ws[j]? = some y := by rw [hy, List.getElem_take, List.getElem?_eq_getElem]
       have hswr : wr.cell? ⟨gw, j, none⟩ = some (.string y) := qcP (Kd.qbx HW.out HB3.out) j y hyj; replace H : ((qd8.f k rs mo y).bind fun p => qcG.l0 k ((ws.take m).drop (j + 1)) p.1 p.2.1 (qfS ++ [p.2.2])) = some (r1, r2, r3, r4) := H; obtain ⟨⟨rs2, mo2, txt⟩, AS, H⟩ := qaw H; have H' := ak_ H; have HJ2 := ak_ (show j + 1 ≤ m from hj); clear H hy hyj hjl hj
       go_wp2_with (first | (refine gl_ 44 Tryz.func40 #[.agg #[.slice A0 rs.length c0, .int .i64 mo], .string y] rfl qb1 ?_; (refine (qmN k w18.heap.size A0 c0 rs mo y rs2 mo2 txt _ (qab k49_) k94_ AS.out).mono ?_); rintro e w44 ⟨A2, c2, rfl, hR2, hb⟩; refine ⟨_, rfl, ?_⟩; have HO2 := ak_ hR2; replace B7 := B7.mw hb; replace HO8 := HO8.mw hb; replace HB3 := ak_ (qaa k49_ hb); obtain ⟨hdw44_0, fdw44_0⟩ := qcv B7.out; have hdw44_1 := qbB B7.out; have fdw44_1 := qad B7.out 1; clear hb hR2) | ((with_reducible refine qak (N := 11) rfl ?_); refine bx_ 11 rfl (cs := #[(.slice none 0 0), (.int .i64 0)]) (t := 28) qbb ?_; intro g11 hg w11 hbox hb; have B11 := ak_ hbox; have G11 := ak_ (show w18.heap.size ≤ g11 from by rw [hg]; exact qab k49_); have NE := ak_ (show g7 ≠ g11 from by rw [hg]; exact Nat.ne_of_lt (qdT (by apply_rules only [B7.out, qal, qan, qaj]))); have ne1_ := NE.out; have ne2_ : ¬ g11 = g7 := fun e_ => NE.out e_.symm; replace B7 := B7.mw hb; replace HO2 := HO2.mw hb; replace HO8 := HO8.mw hb; replace HB3 := ak_ (qaa k49_ hb); obtain ⟨hdw11_0, fdw11_0⟩ := qcv B7.out; have hdw11_1 := qbB B7.out; have fdw11_1 := qad B7.out 1; obtain ⟨hew11_0, few11_0⟩ := qcv B11.out; have hew11_1 := qbB B11.out; have few11_1 := qad B11.out 1; have HRT2 := ak_ (Kd.qcH (Kd.qcH HO2.out B7.out (by decide)) B11.out (by decide)); have HRT8 := ak_ (Kd.qcH (Kd.qcH HO8.out B7.out (by decide)) B11.out (by decide)); clear hb hbox hg) | ((with_reducible refine qa3 (b := .append) (xs := #[.tmp 48, .tmp 50]) rfl ?_); refine qqv (fun w50 hw50 hsz50 => ?_); have HR8 := ak_ (show Kd.R Kd.string 9 w50 w18.heap.size (fun _ => True) (.slice A8 qfS.length c8) qfS from by rw [hw50]; exact (Kd.qa8 (ok := fun k_ => (True ∧ k_ ≠ g7) ∧ k_ ≠ g11) (by with_reducible repeat (first | exact HRT8.out | apply Kd.qaq | apply Kd.qar | apply Kd.qaC | refine Kd.qc7 (p := ⟨g7, _, none⟩) ?_ (fun _ hk => hk.1.2) _ | refine Kd.qc7 (p := ⟨g11, _, none⟩) ?_ (fun _ hk => hk.2) _)) (fun _ _ => trivial))); have HD50 := ak_ (show qfD w50 w18.heap.size g7 rs2 mo2 from by rw [hw50]; exact ⟨A2, c2, (by apply ho_; (with_reducible repeat (first | exact B7.out | refine qal ?_ _ | refine qan ?_ | refine qaj ?_ _ | apply qeB | apply qcY (hp := NE.out))); rfl), (Kd.qa8 (ok := fun k_ => (True ∧ k_ ≠ g7) ∧ k_ ≠ g11) (by with_reducible repeat (first | exact HRT2.out | apply Kd.qaq | apply Kd.qar | apply Kd.qaC | refine Kd.qc7 (p := ⟨g7, _, none⟩) ?_ (fun _ hk => hk.1.2) _ | refine Kd.qc7 (p := ⟨g11, _, none⟩) ?_ (fun _ hk => hk.2) _)) (fun _ _ => trivial))⟩); have HB50 := ak_ (show Below w18.heap.size w18 w50 from by rw [hw50]; exact k49_); clear hw50; at_builtin; refine Kd.qc8 Kd.string (w0 := w18) w18.heap.size rfl (.tmp 48) (.tmp 50) 43 9 (.string ⟨#[]⟩) 16 rfl Tryz.underlying43 ql7 rfl (by decide) (by omega) (.slice A8 qfS.length c8) qfS txt [.string txt] (fun _ => True) (fun _ => False) rfl ?aX ?aP (fun _ hk => hk.elim) ?aF ?aO ?aB ?aS ?aL ?_; (case aX => rw [hsz50]; simp only [Deep.nblk_setCell]; rfl); (case aP => exact rfl); (case aB => exact HB50.out); (case aF => exact (fun _ _ => trivial)); (case aO => exact HR8.out); (case aS => exact (qab HB50.out)); (case aL => have := HLO.out; have := HWM.out; have := HM.out; have := HJ.out; omega); intro v51 w51 ho hb hg hat; have HD2 := ak_ (show qfD w51 w18.heap.size g7 rs2 mo2 from by obtain ⟨A_, c_, h1_, h2_⟩ := HD50.out; exact ⟨A_, c_, qev h1_ hg (Kd.R_ne HR8.out h1_ (by decide)), Kd.R_over' h2_ (Kd.qh3 HR8.out) (by decide) hg⟩); clear HB3; have HB3 := ak_ hb; have HO51 := ak_ ho; clear ho hb hg hat HR8 HD50 HB50 hsz50))
       go_roundg (m - (j + 1))
       case measure => have := HK1.out; have := HJ2.out; omega
       case rel => exact ⟨j + 1, qfS ++ [txt], rs2, mo2, (by have h1_ := HJ2.out; have h2_ := HM51.out; rw [show wrap64 ((j : Int) + 1) = ((j + 1 : Nat) : Int) from by unfold wrap64; omega]), HJ2, H', ⟨Nat.le_refl _⟩, ⟨by rw [List.length_append, HLO.out]; rfl⟩, HD2, HO51, HB3⟩
      have hjb : decide ((j : Int) < (m : Int)) = false := decide_eq_false (by omega); have hjc : decide (j < m) = false := decide_eq_false hj; rw [List.drop_of_length_le (by rw [List.length_take]; omega)] at H; replace H : some (rs, mo, qfS, true) = some (r1, r2, r3, r4) := H; obtain ⟨rfl, rfl, rfl, rfl⟩ := pj4_ H; have B2 := ak_ (qao B2w.out HB3.out); have HB := ak_ (qaa HB18.out HB3.out); obtain ⟨hzwr_0, fzwr_0⟩ := qcv B2.out; have hzwr_1 := qbB B2.out; have fzwr_1 := qad B2.out 1; have HRT := ak_ (Kd.qcH (Kd.qau HO.out (qab HB18.out)) B2.out (by decide)); have HRT8 := ak_ (Kd.qcH (Kd.qau HO8.out (qab HB18.out)) B2.out (by decide)); clear hj; go_wp2; refine bodyPost_ret (qb5 (rs := [.cell 2 28, .tmp 3, .tmp 4]) rfl (by simp) (.cell g2 28 #[(.slice A0 rs.length c0), (.int .i64 mo)] (0, 0) _ rfl k51_ Tryz.underlying28 rfl (by kernel_rfl) (.tmp (.tmp .nil)))) rfl ?_; exact ⟨_, .slice A8 qfS.length c8, rfl, (Kd.qa8 (ok := fun k_ => True ∧ k_ ≠ g2) (by with_reducible repeat (first | exact HRT.out | apply Kd.qaq | apply Kd.qar | apply Kd.qaC | refine Kd.qc7 (p := ⟨g2, _, none⟩) ?_ (fun _ hk => hk.2) _)) (fun _ _ => trivial)), (Kd.qa8 (ok := fun k_ => True ∧ k_ ≠ g2) (by with_reducible repeat (first | exact HRT8.out | apply Kd.qaq | apply Kd.qar | apply Kd.qaC | refine Kd.qc7 (p := ⟨g2, _, none⟩) ?_ (fun _ hk => hk.2) _)) (fun _ _ => trivial)), k57_⟩
def qd7.f (k : Nat) (a0 : ByteArray) : Option (List ByteArray × Bool) := (qcG.f k a0).bind fun qc6 => (some (qc6.2.2.1, qc6.2.2.2))
theorem qd7.calls (k : Nat) (a0 : ByteArray) (r1 : List ByteArray) (r2 : Bool) (w : World) (h : qd7.f k a0 = some (r1, r2)) :
  Calls Tryz.prog 24 #[.string a0] w fun e w' => ∃ v0_ : Value, e = .returned (.tuple #[v0_, .bool r2]) ∧ Kd.R Kd.string 9 w' w.heap.size (fun _ => True) v0_ r1 ∧ Below w.heap.size w w' := by
 have hu28 := Tryz.underlying28; have HB := ak_ (Below.refl w.heap.size w); have H : ((qcG.f k a0).bind fun qc6 => (some (qc6.2.2.1, qc6.2.2.2))) = some (r1, r2) := h; clear h; obtain ⟨⟨qas, qcf, t105, qsM⟩, A2, H⟩ := qaw H; (try dsimp only at H); obtain ⟨rfl, rfl⟩ := qdI H; go_enter Tryz.func24, Tryz.ntmps24
 go_wp2_with (first | (refine gl_ 9 Tryz.func57 #[.string a0] rfl qbK ?_; (with_reducible refine (qcG.calls k a0 qas qcf t105 qsM _ A2.out).mono ?_); rintro e w3 ⟨qiq, qqI, rfl, ho0, ho1, hb⟩; refine ⟨_, rfl, ?_⟩; have qdi := ak_ (Kd.qau ho0 (qab qam)); have qe2 := ak_ (Kd.qau ho1 (qab qam)); replace HB := HB.mw hb; (try clear hb ho0 ho1)) | ((with_reducible refine qak (N := 4) rfl ?_); refine bx_ 4 rfl (cs := #[.slice none 0 0, .int .i64 0]) (t := 28) qbb ?_; intro qrD hg w4 hbox hb; replace qdi := qdi.mw hb; replace qe2 := qe2.mw hb; have qqR := ak_ (hbox); have GW109 := ak_ (HB.ge hg); have GE109 := ak_ (HB.ge hg); replace HB := HB.mw hb; clear hb hbox hg; obtain ⟨Ao5, co5, eo5⟩ := Kd.qaJ qdi.out; subst eo5; obtain ⟨qj6, qj7, qj9, qka⟩ := qbG qqR.out))
 go_ret2
 exact ⟨_, qce, k19_, k77_⟩
def qbF.l0 : Nat → List ByteArray → List ByteArray → Int → Option (Bool)
 | 0, _, _, _ => none
 | k + 1, x0, x1, x5 => if x5 < (x0.length : Int) then (if 0 ≤ x5 then (if x5 < (x1.length : Int) then (if (qeW ByteArray.empty x0 x5).toList = (qeW ByteArray.empty x1 x5).toList then (qbF.l0 k x0 x1 (wrap64 (x5 + 1))) else (some false)) else (none)) else (none)) else (some true)
def qbF.f (k : Nat) (l0 : List ByteArray) (l1 : List ByteArray) : Option (Bool) := if (l0.length : Int) = (l1.length : Int) then (qbF.l0 k l0 l1 0) else (some false)
theorem qbF.calls (k : Nat) (A0 : Option Addr) (c0 : Nat) (l0 : List ByteArray) (A1 : Option Addr) (c1 : Nat) (l1 : List ByteArray) (r : Bool) (w : World) (hr0 : Kd.C Kd.string w A0 l0.length l0) (hc0 : l0.length ≤ c0) (hr1 : Kd.C Kd.string w A1 l1.length l1) (hc1 : l1.length ≤ c1) (h : qbF.f k l0 l1 = some r) :
  Calls Tryz.prog 29 #[.slice A0 l0.length c0, .slice A1 l1.length c1] w fun e w' => e = .returned (.bool r) ∧ qcX w w' := by
 have HR0 := ak_ hr0; have HC0 := ak_ hc0; clear hr0 hc0; have HR1 := ak_ hr1; have HC1 := ak_ hc1; clear hr1 hc1; have H : (if (l0.length : Int) = (l1.length : Int) then (qbF.l0 k l0 l1 0) else (some false)) = some r := h; clear h; by_cases c3 : (l0.length : Int) = (l1.length : Int); rotate_left
 ·rw [if_neg c3] at H; have qff : ((l0.length : Int) == (l1.length : Int)) = false := beq_eq_false_iff_ne.mpr c3; have qlV : ((l0.length : Int) != (l1.length : Int)) = true := bne_iff_ne.mpr c3; have c3b2 : (l0.length == l1.length) = false := k102_; obtain rfl := Option.some.inj H; go_enter Tryz.func29, Tryz.ntmps29; go_wp2
  repeat (go_quiet (fail); try go_wp2)
  go_ret
  exact ⟨qav, qc2⟩
 rw [if_pos c3] at H; have qff : ((l0.length : Int) == (l1.length : Int)) = true := beq_iff_eq.mpr c3; have qlV : ((l0.length : Int) != (l1.length : Int)) = false := bne_eq_false_iff_eq.mpr c3; have c3b2 : (l0.length == l1.length) = true := k102_; clear c3; have H' := ak_ H; clear H; go_enter Tryz.func29, Tryz.ntmps29; go_wp2
 repeat (go_quiet (fail); try go_wp2)
 go_loopg [5] k (fun kq v5 w' => ∃ (qbP : Int), v5 = .int .i64 qbP ∧ qag (qbF.l0 kq l0 l1 qbP = some r) ∧ qag (kq ≤ k) ∧ qcX w w')
 case atStart => exact ⟨(0), qav, H', ⟨Nat.le_refl _⟩, qc2⟩
 case round =>
  clear H'; (try clear c3); (try clear qff); (try clear qlV); (try clear c3b2); obtain ⟨qbP, rfl, HA, HK1, ⟨m1, rfl⟩⟩ := hrel
  cases gk with
  | zero => exact absurd HA.out (by simp [qbF.l0])
  | succ k1 =>
   have H := HA.out; clear HA; simp only [qbF.l0] at H; by_cases c4 : qbP < (l0.length : Int); rotate_left
   ·rw [if_neg c4] at H; have qfx : decide (qbP < (l0.length : Int)) = false := decide_eq_false c4; clear c4; obtain rfl := Option.some.inj H; go_wp2
    repeat (go_quiet (fail); try go_wp2)
    go_ret
    exact ⟨qav, qc2⟩
   rw [if_pos c4] at H; have qfx : decide (qbP < (l0.length : Int)) = true := decide_eq_true c4; clear c4; by_cases c5 : 0 ≤ qbP; rotate_left
   ·rw [if_neg c5] at H; exact absurd H (by simp)
   rw [if_pos c5] at H; have qgH : decide (0 ≤ qbP) = true := decide_eq_true c5; clear c5; by_cases c6 : qbP < (l1.length : Int); rotate_left
   ·rw [if_neg c6] at H; exact absurd H (by simp)
   rw [if_pos c6] at H; have qfY : decide (qbP < (l1.length : Int)) = true := decide_eq_true c6; clear c6; by_cases c7 : (qeW ByteArray.empty l0 qbP).toList = (qeW ByteArray.empty l1 qbP).toList; rotate_left
   ·rw [if_neg c7] at H; have qgM : ((qeW ByteArray.empty l0 qbP).toList == (qeW ByteArray.empty l1 qbP).toList) = false := beq_eq_false_iff_ne.mpr c7; have qmr : ((qeW ByteArray.empty l0 qbP).toList != (qeW ByteArray.empty l1 qbP).toList) = true := bne_iff_ne.mpr c7; obtain rfl := Option.some.inj H; have qeE : 0 ≤ (qbP : Int) := of_decide_eq_true qaU; have qeI : qbP < (l0.length : Int) := of_decide_eq_true qaU; obtain ⟨qgB, qha, qbj⟩ := Kd.qeu HR0.out qbP qeE qeI
    cases qha
    replace qeE := eq_true qeE; replace qeI := eq_true qeI; have qss : 0 ≤ (qbP : Int) := of_decide_eq_true qaU; have qsv : qbP < (l1.length : Int) := of_decide_eq_true qaU; obtain ⟨ad102, e102, qkh⟩ := Kd.qeu HR1.out qbP qss qsv
    cases e102
    replace qss := eq_true qss; replace qsv := eq_true qsv; go_wp2
    repeat (go_quiet (fail); try go_wp2)
    go_ret
    exact ⟨qav, qc2⟩
   rw [if_pos c7] at H; have qgM : ((qeW ByteArray.empty l0 qbP).toList == (qeW ByteArray.empty l1 qbP).toList) = true := beq_iff_eq.mpr c7; have qmr : ((qeW ByteArray.empty l0 qbP).toList != (qeW ByteArray.empty l1 qbP).toList) = false := bne_eq_false_iff_eq.mpr c7; clear c7; have H' := ak_ H; clear H; have qeE : 0 ≤ (qbP : Int) := of_decide_eq_true qaU; have qeI : qbP < (l0.length : Int) := of_decide_eq_true qaU; obtain ⟨qgB, qha, qbj⟩ := Kd.qeu HR0.out qbP qeE qeI
   cases qha
   replace qeE := eq_true qeE; replace qeI := eq_true qeI; have qss : 0 ≤ (qbP : Int) := of_decide_eq_true qaU; have qsv : qbP < (l1.length : Int) := of_decide_eq_true qaU; obtain ⟨ad102, e102, qkh⟩ := Kd.qeu HR1.out qbP qss qsv
   cases e102
   replace qss := eq_true qss; replace qsv := eq_true qsv; go_wp2
   repeat (go_quiet (fail); try go_wp2)
   go_roundg k1
   case measure => have := HK1.out; omega
   case rel => exact ⟨(wrap64 (qbP + 1)), qav, H', ⟨qc9⟩, qc2⟩
def qbM.l0 : Nat → Int → ByteArray → Option (ByteArray)
 | 0, _, _ => none
 | k + 1, x0, x3 => if x0 > 0 then ((some (([(wrap64 (48 + (Int.tmod x0 10))) % 256] : List Int) : List Int)).bind fun qeS => (if (strOfNums qeS).size + x3.size ≤ 9223372036854775807 then (qbM.l0 k (wrap64 (Int.tdiv x0 10)) ((strOfNums qeS) ++ x3)) else (none))) else (if 1 + x3.size ≤ 9223372036854775807 then (some ((⟨#[109]⟩ : ByteArray) ++ x3)) else (none))
def qbM.f (k : Nat) (a0 : Int) : Option (ByteArray) := if a0 ≤ 0 then (some (⟨#[109, 48]⟩ : ByteArray)) else (qbM.l0 k a0 (⟨#[]⟩ : ByteArray))
theorem qbM.calls (k : Nat) (a0 : Int) (r : ByteArray) (w : World) (h : qbM.f k a0 = some r) :
  Calls Tryz.prog 59 #[.int .i64 a0] w fun e w' => e = .returned (.string r) ∧ Below w.heap.size w w' := by
 have HB := ak_ (Below.refl w.heap.size w); have H : (if a0 ≤ 0 then (some (⟨#[109, 48]⟩ : ByteArray)) else (qbM.l0 k a0 (⟨#[]⟩ : ByteArray))) = some r := h; clear h; by_cases c2 : a0 ≤ 0
 ·rw [if_pos c2] at H; have qfe : decide (a0 ≤ 0) = true := decide_eq_true c2; clear c2; obtain rfl := Option.some.inj H; go_enter Tryz.func59, Tryz.ntmps59; go_wp2
  go_ret
  exact ⟨qce, qam⟩
 rw [if_neg c2] at H; have qfe : decide (a0 ≤ 0) = false := decide_eq_false c2; clear c2; have H' := ak_ H; clear H; go_enter Tryz.func59, Tryz.ntmps59; go_wp2
 go_loopg [0, 3] k (fun kq v0 v3 w' => ∃ (qfq : Int) (qbg : ByteArray), v0 = .int .i64 qfq ∧ v3 = .string qbg ∧ qag (qbM.l0 kq qfq qbg = some r) ∧ qag (kq ≤ k) ∧ qag (Below w.heap.size w w'))
 case atStart => exact ⟨(a0), ((⟨#[]⟩ : ByteArray)), qav, qav, H', ⟨Nat.le_refl _⟩, ⟨qam⟩⟩
 case round =>
  clear H'; (try clear c2); (try clear qfe); obtain ⟨qfq, qbg, rfl, rfl, HA, HK1, HB⟩ := hrel
  cases gk with
  | zero => exact absurd HA.out (by simp [qbM.l0])
  | succ k1 =>
   have H := HA.out; clear HA; simp only [qbM.l0] at H; by_cases c3 : qfq > 0; rotate_left
   ·rw [if_neg c3] at H; have qff : decide (0 < qfq) = false := decide_eq_false c3; clear c3; by_cases c8 : 1 + qbg.size ≤ 9223372036854775807; rotate_left
    ·rw [if_neg c8] at H; exact absurd H (by simp)
    rw [if_pos c8] at H; have qnK := eq_true c8; have c8b1 : decide (1 + qbg.size ≤ 9223372036854775807) = true := decide_eq_true c8
    try have c8b2 : (9223372036854775807 < 1 + qbg.size) = False := eq_false (Nat.not_lt.2 c8)
    obtain rfl := Option.some.inj H; go_wp2
    go_ret
    exact ⟨qce, qam⟩
   rw [if_pos c3] at H; have qff : decide (0 < qfq) = true := decide_eq_true c3; clear c3
   obtain ⟨qeS, hy_⟩ : ∃ y_ : List Int, y_ = (([(wrap64 (48 + (Int.tmod qfq 10))) % 256] : List Int)) := ⟨_, rfl⟩
   replace H : (if (strOfNums qeS).size + qbg.size ≤ 9223372036854775807 then (qbM.l0 k1 (wrap64 (Int.tdiv qfq 10)) ((strOfNums qeS) ++ qbg)) else (none)) = some r := qe6; have qeb := ak_ hy_; clear hy_; by_cases c4 : (strOfNums qeS).size + qbg.size ≤ 9223372036854775807; rotate_left
   ·rw [if_neg c4] at H; exact absurd H (by simp)
   rw [if_pos c4] at H; have qfx := eq_true c4; have qlW : decide ((strOfNums qeS).size + qbg.size ≤ 9223372036854775807) = true := decide_eq_true c4
   try have c4b2 : (9223372036854775807 < (strOfNums qeS).size + qbg.size) = False := eq_false (Nat.not_lt.2 c4)
   have H' := ak_ H; clear H
   go_wp2_with (first | ((with_reducible refine qak (N := 12) rfl ?_); refine Kd.qg9 (Kd.int .u8) _ 5 ?hg (N := 12) ?hd (xs := ([(wrap64 (48 + (Int.tmod qfq 10))) % 256] : List Int)) (inner := [.int .u8 ((wrap64 (48 + (Int.tmod qfq 10))) % 256)]) (ok := fun _ => True) (okp := fun _ => True) ?hr ?hp (fun _ hk => hk) trivial (Below.refl _ _) (Nat.le_refl _) (by simp) ?_; (case hd => rfl); (case hg => rfl); (case hr => exact qbb); (case hp => exact (qd9.one (show Kd.M (Kd.int .u8) _ _ _ ((wrap64 (48 + (Int.tmod qfq 10))) % 256) [.int .u8 ((wrap64 (48 + (Int.tmod qfq 10))) % 256)] from rfl) (qd9.none _ _))); intro qiq w5 ho6 hb hg_ hnew_; clear hg_ hnew_; (first | rw [← qeb.out] at ho6 | (simp only [Int.reduceToNat] at ho6; rw [← qeb.out] at ho6)); have qdi := ak_ (Kd.qau ho6 (qab qam)); replace HB := HB.mw hb; clear hb ho6; have hcv7 := qgF (P := Tryz.prog) Tryz.underlying35 Tryz.underlying5 Tryz.underlying9 (Kd.qgZ qdi.out)))
   go_roundg k1
   case measure => have := HK1.out; omega
   case rel => exact ⟨(wrap64 (Int.tdiv qfq 10)), ((strOfNums qeS) ++ qbg), qav, qav, H', ⟨qc9⟩, ⟨qam⟩⟩
def qbA.l0 : Nat → List ByteArray → Int → Int → Option (Int × List ByteArray)
 | 0, _, _, _ => none
 | k + 1, x0, x1, x5 => if x5 < (x0.length : Int) then ((qbM.f k x1).bind fun qas => (if 0 ≤ x5 then (qbA.l0 k (x0.set (x5 : Int).toNat qas) (wrap64 (x1 + 1)) (wrap64 (x5 + 1))) else (none))) else (some (x1, x0))
def qbA.f (k : Nat) (l0 : List ByteArray) (a1 : Int) : Option (Int × List ByteArray) := qbA.l0 k l0 a1 0
theorem qbA.calls (k : Nat) (P0_ : Nat → Prop) (qnI : Value) (l0 : List ByteArray) (a1 : Int) (r1 : Int) (r2 : List ByteArray) (w0 w : World) (hB : Below w0.heap.size w0 w) (ho0 : Kd.R Kd.string 9 w w0.heap.size P0_ qnI l0) (h : qbA.f k l0 a1 = some (r1, r2)) :
  Calls Tryz.prog 30 #[qnI, .int .i64 a1] w fun e w' => e = .returned (.int .i64 r1) ∧ Kd.R Kd.string 9 w' w0.heap.size (fun k_ => (P0_ k_ ∨ w.heap.size ≤ k_)) qnI r2 ∧ Below w0.heap.size w0 w' ∧ Kept w w' (fun k_ => P0_ k_) := by
 have HO0 := ak_ (show Kd.R Kd.string 9 w w0.heap.size (fun k_ => (P0_ k_ ∨ w.heap.size ≤ k_)) qnI l0 from Kd.qa8 ho0 (fun k_ hk => (.inl hk))); have HK := ak_ (Kept.refl w (fun k_ => P0_ k_)); have HW0 := ak_ hB.size; have HB := ak_ hB; clear hB; have H : (qbA.l0 k l0 a1 0) = some (r1, r2) := h; clear h; have H' := ak_ H; clear H; go_enter Tryz.func30, Tryz.ntmps30; go_wp2
 go_loopg [1, 5] k (fun kq v1 v5 w' => ∃ (qfq : List ByteArray) (qgI : Int) (qbP : Int), v1 = .int .i64 qgI ∧ v5 = .int .i64 qbP ∧ qag (qbA.l0 kq qfq qgI qbP = some (r1, r2)) ∧ qag (kq ≤ k) ∧ qag (Kd.R Kd.string 9 w' w0.heap.size (fun k_ => (P0_ k_ ∨ w.heap.size ≤ k_)) qnI qfq) ∧ qag (Kept w w' (fun k_ => P0_ k_)) ∧ qag (Below w0.heap.size w0 w'))
 case atStart => exact ⟨(l0), (a1), (0), qav, qav, H', ⟨Nat.le_refl _⟩, ⟨by apply_rules only [HO0.out, Kd.qaq, Kd.qar, Kd.qaC]⟩, ⟨k58_⟩, ⟨qam⟩⟩
 case round =>
  clear H'; obtain ⟨qfq, qgI, qbP, rfl, rfl, HA, HK1, qp5, HK, HB⟩ := hrel
  cases gk with
  | zero => exact absurd HA.out (by simp [qbA.l0])
  | succ k1 =>
   have H := HA.out; clear HA; simp only [qbA.l0] at H; by_cases c3 : qbP < (qfq.length : Int); rotate_left
   ·rw [if_neg c3] at H; have qff : decide (qbP < (qfq.length : Int)) = false := decide_eq_false c3; clear c3; obtain ⟨rfl, rfl⟩ := qdI H; obtain ⟨Ao11, co11, qrs⟩ := Kd.qaJ qp5.out; subst qrs; go_wp2
    go_ret
    exact ⟨qce, by (with_reducible repeat (first | apply Kd.qaq | apply Kd.qar | apply Kd.qaC)); exact qp5.out, qam, k58_⟩
   rw [if_pos c3] at H; have qff : decide (qbP < (qfq.length : Int)) = true := decide_eq_true c3; clear c3; obtain ⟨qas, A4, H⟩ := qaw H; (try dsimp only at H); by_cases c5 : 0 ≤ qbP; rotate_left
   ·rw [if_neg c5] at H; exact absurd H (by simp)
   rw [if_pos c5] at H; have qgH : decide (0 ≤ qbP) = true := decide_eq_true c5; clear c5
   obtain ⟨qh1, hy_⟩ : ∃ y_ : List ByteArray, y_ = (qfq.set (qbP : Int).toNat qas) := ⟨_, rfl⟩
   replace H : (qbA.l0 k1 qh1 (wrap64 (qgI + 1)) (wrap64 (qbP + 1))) = some (r1, r2) := qe6; have qgq := ak_ hy_; clear hy_; have H' := ak_ H; clear H; obtain ⟨Ao7, co7, eo7⟩ := Kd.qaJ qp5.out; subst eo7
   go_wp2_with (first | (refine gl_ 15 Tryz.func59 #[.int .i64 qgI] rfl qbK ?_; (with_reducible refine (qbM.calls k1 qgI qas _ A4.out).mono ?_); rintro e w8 ⟨rfl, hb⟩; refine ⟨_, rfl, ?_⟩; replace qp5 := qp5.mw hb; replace HK := ak_ (Kept.below (S := (fun k_ => P0_ k_)) k58_ hb); replace HB := HB.mw hb; (try clear hb); have p6 : 0 ≤ (qbP : Int) := of_decide_eq_true qaU; have q6 : (qbP : Int) < ((qfq.length : Int) : Int) := of_decide_eq_true qaU; obtain ⟨go6, co6, eo6, gb6, gl6, cl6, HG6⟩ := Kd.qeX qp5.out (by omega); (first | cases eo6 | (injection eo6 with ea_ en_ ec_; (first | subst ea_ | (injection ea_ with ea_; subst ea_)); subst ec_; clear en_)); have GB6 := ak_ gb6; have GG6 := ak_ HG6; clear gb6 gl6 HG6; have HMgo6 := ak_ (show (P0_ go6 ∨ w.heap.size ≤ go6) from (qp5.out.1 _ rfl)); obtain ⟨hx6_0, hf6_0⟩ := Kd.qq0 (⟨#[]⟩ : ByteArray) qp5.out (qbP : Int) p6 q6; replace p6 := eq_true p6; replace q6 := eq_true q6; obtain ⟨hy9_, hz9_⟩ := Kd.qq0 (⟨#[]⟩ : ByteArray) qp5.out (qbP : Int) (of_decide_eq_true qaU) (of_decide_eq_true qaU); have HP9 := Kd.R_putg qp5.out (qbP : Int) qas) | ((with_reducible refine qqf (t := 9) (p := 16) rfl ?_); refine qpa (t := 9) (p := 16) (v := ?vo_w10) (w1 := (w8.setCell ⟨go6, (qbP : Int).toNat, none⟩ (.string qas))) ?hg ?ho ?hn ?hr ?_; (case ho => rfl); (case hg => rfl); (case hn => rfl); (case hr => exact qbb); intro w10 hw; have hg : w8.grownBy w10 (some go6) := (by rw [hw]; exact HP9.2); have hp_ : Kd.R Kd.string 9 w10 w0.heap.size (fun k_ => (P0_ k_ ∨ w.heap.size ≤ k_)) (.slice (some ⟨go6, 0, none⟩) qfq.length co7) qh1 := (by rw [hw, qgq.out]; exact HP9.1); clear HP9; replace HB := ak_ ((by rw [hw]; exact qap (HB.out) GB6.out : Below w0.heap.size w0 w10)); replace HK := ak_ (Kept.qjL (S := (fun k_ => P0_ k_)) hg k58_ (fun k_ e_ => (qp5.out.1 k_ e_))); replace qp5 := ak_ (hp_); clear hg hw hp_))
   go_roundg k1
   case measure => have := HK1.out; omega
   case rel => exact ⟨(qh1), (wrap64 (qgI + 1)), (wrap64 (qbP + 1)), qav, qav, H', ⟨qc9⟩, ⟨by apply_rules only [qp5.out, Kd.qaq, Kd.qar, Kd.qaC]⟩, ⟨k58_⟩, ⟨qam⟩⟩
def qbq.l0 : Nat → List ByteArray → Int → Int → Option (Int)
 | 0, _, _, _ => none
 | k + 1, x0, x1, x5 => if x5 < (x0.length : Int) then (if 0 ≤ x5 then ((qbM.f k x1).bind fun qaI => (if (qeW ByteArray.empty x0 x5).toList = qaI.toList then (qbq.l0 k x0 (wrap64 (x1 + 1)) (wrap64 (x5 + 1))) else (some (-1)))) else (none)) else (some x1)
def qbq.f (k : Nat) (l0 : List ByteArray) (a1 : Int) : Option (Int) := qbq.l0 k l0 a1 0
theorem qbq.calls (k : Nat) (A0 : Option Addr) (c0 : Nat) (l0 : List ByteArray) (a1 : Int) (r : Int) (w : World) (hr0 : Kd.C Kd.string w A0 l0.length l0) (hc0 : l0.length ≤ c0) (h : qbq.f k l0 a1 = some r) :
  Calls Tryz.prog 31 #[.slice A0 l0.length c0, .int .i64 a1] w fun e w' => e = .returned (.int .i64 r) ∧ Below w.heap.size w w' := by
 have HR0 := ak_ hr0; have HC0 := ak_ hc0; clear hr0 hc0; have HB := ak_ (Below.refl w.heap.size w); have H : (qbq.l0 k l0 a1 0) = some r := h; clear h; have H' := ak_ H; clear H; go_enter Tryz.func31, Tryz.ntmps31; go_wp2
 go_loopg [1, 5] k (fun kq v1 v5 w' => ∃ (qgI : Int) (qbP : Int), v1 = .int .i64 qgI ∧ v5 = .int .i64 qbP ∧ qag (qbq.l0 kq l0 qgI qbP = some r) ∧ qag (kq ≤ k) ∧ qag (Below w.heap.size w w'))
 case atStart => exact ⟨(a1), (0), qav, qav, H', ⟨Nat.le_refl _⟩, ⟨qam⟩⟩
 case round =>
  clear H'; obtain ⟨qgI, qbP, rfl, rfl, HA, HK1, HB⟩ := hrel
  cases gk with
  | zero => exact absurd HA.out (by simp [qbq.l0])
  | succ k1 =>
   have H := HA.out; clear HA; simp only [qbq.l0] at H; by_cases c3 : qbP < (l0.length : Int); rotate_left
   ·rw [if_neg c3] at H; have qff : decide (qbP < (l0.length : Int)) = false := decide_eq_false c3; clear c3; obtain rfl := Option.some.inj H; go_wp2
    go_ret
    exact ⟨qce, qam⟩
   rw [if_pos c3] at H; have qff : decide (qbP < (l0.length : Int)) = true := decide_eq_true c3; clear c3; by_cases c4 : 0 ≤ qbP; rotate_left
   ·rw [if_neg c4] at H; exact absurd H (by simp)
   rw [if_pos c4] at H; have qfx : decide (0 ≤ qbP) = true := decide_eq_true c4; clear c4; obtain ⟨qaI, A5, H⟩ := qaw H; (try dsimp only at H); by_cases c6 : (qeW ByteArray.empty l0 qbP).toList = qaI.toList; rotate_left
   ·rw [if_neg c6] at H; have qfY : ((qeW ByteArray.empty l0 qbP).toList == qaI.toList) = false := beq_eq_false_iff_ne.mpr c6; have qmK : ((qeW ByteArray.empty l0 qbP).toList != qaI.toList) = true := bne_iff_ne.mpr c6; obtain rfl := Option.some.inj H
    try go_wp2
    replace HB := ak_ (qah HB.out); have qeE : 0 ≤ (qbP : Int) := of_decide_eq_true qaU; have qeI : qbP < (l0.length : Int) := of_decide_eq_true qaU; obtain ⟨qgB, qha, qbj⟩ := Kd.qeu HR0.out qbP qeE qeI; have qgS := qbj
    cases qha
    replace qbj := (HB.out.cell (World.block_lt_of_cell? w _ qbj)).trans qbj; replace qeE := eq_true qeE; replace qeI := eq_true qeI; refine qeQ (n := 7) (S := fun w' => w'.cell? (qgB.add (qbP).toNat) = some (.string (qeW ByteArray.empty l0 qbP))) (ds := []) #[false, false, false, false, false, false, false] (by kernel_rfl) rfl rfl (((HB.out.cell (World.block_lt_of_cell? w _ qgS)).trans qgS)) (fun hHeld => ?_)
    generalize wr.drew = w9 at HB qbj hHeld ⊢
    refine qe8 (i := 0) (N := some 12) (v := ?_) (a' := ?_) #[true, false, false, false, false, false, false] rfl rfl (by kernel_rfl) (fun _ _ _ h => h) (Or.inl ⟨by rfl, ?_⟩) ?_ ?_; rotate_left
    ·intro w'; go_simp
     with_reducible rfl
    rotate_left
    ·simp only [Act.put, List.setIfInBounds_toArray, List.set_cons_zero, List.set_cons_succ, qcF, qcO]; rfl
    refine qe8 (i := 1) (N := some 13) (v := ?_) (a' := ?_) #[true, true, false, false, false, false, false] rfl rfl (by kernel_rfl) (fun _ _ _ h => h) (Or.inl ⟨by rfl, ?_⟩) ?_ ?_; rotate_left
    ·intro w'; go_simp
     with_reducible rfl
    rotate_left
    ·simp only [Act.put, List.setIfInBounds_toArray, List.set_cons_zero, List.set_cons_succ, qcF, qcO]; rfl
    refine qe8 (i := 2) (N := some 14) (v := ?_) (a' := ?_) #[true, true, true, false, false, false, false] rfl rfl (by kernel_rfl) (fun _ _ _ h => h) (Or.inl ⟨by rfl, ?_⟩) ?_ ?_; rotate_left
    ·intro w'; go_simp
     with_reducible rfl
    rotate_left
    ·simp only [Act.put, List.setIfInBounds_toArray, List.set_cons_zero, List.set_cons_succ, qcF, qcO]; rfl
    refine qe8 (i := 4) (N := some 16) (v := ?_) (a' := ?_) #[true, true, true, false, true, false, false] rfl rfl (by kernel_rfl) (fun _ _ _ h => h) (Or.inl ⟨by rfl, ?_⟩) ?_ ?_; rotate_left
    ·intro w'; go_simp
     with_reducible rfl
    rotate_left
    ·simp only [Act.put, List.setIfInBounds_toArray, List.set_cons_zero, List.set_cons_succ, qcF, qcO]; rfl
    refine qkH (i := 3) (N := some 15) (v := ?_) (a' := ?_) #[true, true, true, true, true, false, false] rfl rfl (by kernel_rfl) (fun _ _ _ h => h) (Or.inl ⟨by rfl, ?_⟩) hHeld ?_ ?_; rotate_left
    ·intro w' s0; go_simp
     with_reducible rfl
    rotate_left
    ·simp only [Act.put, List.setIfInBounds_toArray, List.set_cons_zero, List.set_cons_succ, qcF, qcO]; rfl
    refine qfA (i := 5) (N := some 17) #[true, true, true, true, true, true, false] rfl rfl (by kernel_rfl) (by decide) (fun K hK => ?_); refine qfz Tryz.func59 (by kernel_rfl) rfl #[.int .i64 qgI] (by rfl) rfl rfl qbK ?_
    with_reducible refine (qbM.calls k1 qgI qaI _ A5.out).mono ?_
    rintro e w10 ⟨rfl, hb⟩; refine ⟨_, rfl, ?_⟩; replace HB := HB.mw hb; (try clear hb); (try clear hb2); (try clear hk); (try clear hi); refine hK.out _ _ (((HB.out.cell (World.block_lt_of_cell? w _ qgS)).trans qgS)) (fun hHeld => ?_); clear hK K; refine nm_ 17 ?_; refine qe8 (i := 6) (N := some 18) (v := ?_) (a' := ?_) #[true, true, true, true, true, true, true] rfl rfl (by kernel_rfl) (fun _ _ _ h => h) (Or.inl ⟨by rfl, ?_⟩) ?_ ?_; rotate_left
    ·intro w'; go_simp
     with_reducible rfl
    rotate_left
    ·simp only [Act.put, List.setIfInBounds_toArray, List.set_cons_zero, List.set_cons_succ, qcF, qcO]; rfl
    refine qf4 (by kernel_rfl) ?_
    try go_wp2
    go_ret
    exact ⟨qce, qam⟩
   rw [if_pos c6] at H; have qfY : ((qeW ByteArray.empty l0 qbP).toList == qaI.toList) = true := beq_iff_eq.mpr c6; have qmK : ((qeW ByteArray.empty l0 qbP).toList != qaI.toList) = false := bne_eq_false_iff_eq.mpr c6; clear c6; have H' := ak_ H; clear H
   try go_wp2
   replace HB := ak_ (qah HB.out); have qeE : 0 ≤ (qbP : Int) := of_decide_eq_true qaU; have qeI : qbP < (l0.length : Int) := of_decide_eq_true qaU; obtain ⟨qgB, qha, qbj⟩ := Kd.qeu HR0.out qbP qeE qeI; have qgS := qbj
   cases qha
   replace qbj := (HB.out.cell (World.block_lt_of_cell? w _ qbj)).trans qbj; replace qeE := eq_true qeE; replace qeI := eq_true qeI; refine qeQ (n := 7) (S := fun w' => w'.cell? (qgB.add (qbP).toNat) = some (.string (qeW ByteArray.empty l0 qbP))) (ds := []) #[false, false, false, false, false, false, false] (by kernel_rfl) rfl rfl (((HB.out.cell (World.block_lt_of_cell? w _ qgS)).trans qgS)) (fun hHeld => ?_)
   generalize wr.drew = w7 at HB qbj hHeld ⊢
   refine qe8 (i := 0) (N := some 12) (v := ?_) (a' := ?_) #[true, false, false, false, false, false, false] rfl rfl (by kernel_rfl) (fun _ _ _ h => h) (Or.inl ⟨by rfl, ?_⟩) ?_ ?_; rotate_left
   ·intro w'; go_simp
    with_reducible rfl
   rotate_left
   ·simp only [Act.put, List.setIfInBounds_toArray, List.set_cons_zero, List.set_cons_succ, qcF, qcO]; rfl
   refine qe8 (i := 1) (N := some 13) (v := ?_) (a' := ?_) #[true, true, false, false, false, false, false] rfl rfl (by kernel_rfl) (fun _ _ _ h => h) (Or.inl ⟨by rfl, ?_⟩) ?_ ?_; rotate_left
   ·intro w'; go_simp
    with_reducible rfl
   rotate_left
   ·simp only [Act.put, List.setIfInBounds_toArray, List.set_cons_zero, List.set_cons_succ, qcF, qcO]; rfl
   refine qe8 (i := 2) (N := some 14) (v := ?_) (a' := ?_) #[true, true, true, false, false, false, false] rfl rfl (by kernel_rfl) (fun _ _ _ h => h) (Or.inl ⟨by rfl, ?_⟩) ?_ ?_; rotate_left
   ·intro w'; go_simp
    with_reducible rfl
   rotate_left
   ·simp only [Act.put, List.setIfInBounds_toArray, List.set_cons_zero, List.set_cons_succ, qcF, qcO]; rfl
   refine qe8 (i := 4) (N := some 16) (v := ?_) (a' := ?_) #[true, true, true, false, true, false, false] rfl rfl (by kernel_rfl) (fun _ _ _ h => h) (Or.inl ⟨by rfl, ?_⟩) ?_ ?_; rotate_left
   ·intro w'; go_simp
    with_reducible rfl
   rotate_left
   ·simp only [Act.put, List.setIfInBounds_toArray, List.set_cons_zero, List.set_cons_succ, qcF, qcO]; rfl
   refine qkH (i := 3) (N := some 15) (v := ?_) (a' := ?_) #[true, true, true, true, true, false, false] rfl rfl (by kernel_rfl) (fun _ _ _ h => h) (Or.inl ⟨by rfl, ?_⟩) hHeld ?_ ?_; rotate_left
   ·intro w' s0; go_simp
    with_reducible rfl
   rotate_left
   ·simp only [Act.put, List.setIfInBounds_toArray, List.set_cons_zero, List.set_cons_succ, qcF, qcO]; rfl
   refine qfA (i := 5) (N := some 17) #[true, true, true, true, true, true, false] rfl rfl (by kernel_rfl) (by decide) (fun K hK => ?_); refine qfz Tryz.func59 (by kernel_rfl) rfl #[.int .i64 qgI] (by rfl) rfl rfl qbK ?_
   with_reducible refine (qbM.calls k1 qgI qaI _ A5.out).mono ?_
   rintro e w8 ⟨rfl, hb⟩; refine ⟨_, rfl, ?_⟩; replace HB := HB.mw hb; (try clear hb); (try clear hb2); (try clear hk); (try clear hi); refine hK.out _ _ (((HB.out.cell (World.block_lt_of_cell? w _ qgS)).trans qgS)) (fun hHeld => ?_); clear hK K; refine nm_ 17 ?_; refine qe8 (i := 6) (N := some 18) (v := ?_) (a' := ?_) #[true, true, true, true, true, true, true] rfl rfl (by kernel_rfl) (fun _ _ _ h => h) (Or.inl ⟨by rfl, ?_⟩) ?_ ?_; rotate_left
   ·intro w'; go_simp
    with_reducible rfl
   rotate_left
   ·simp only [Act.put, List.setIfInBounds_toArray, List.set_cons_zero, List.set_cons_succ, qcF, qcO]; rfl
   refine qf4 (by kernel_rfl) ?_
   try go_wp2
   go_roundg k1
   case measure => have := HK1.out; omega
   case rel => exact ⟨(wrap64 (qgI + 1)), (wrap64 (qbP + 1)), qav, qav, H', ⟨qc9⟩, ⟨qam⟩⟩
end
end Go.Proofs.YtjeoabbnalamcaaGreatDoor.P
